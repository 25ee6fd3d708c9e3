/- Rows over arguments: a list of numbers, a number of 32 bits. -/
import Derived.Test.YtefgchmbdijjdaaGreatDoorRowR
import Derived.Test.YtefgchmbdijjdaaGreatDoorTrd
import Derived.ChangeSlices
namespace Go.Proofs.YtefgchmbdijjdaaGreatDoor
open Go.ChangeShapes Go.WideShapes Go.ChangeAt Go.RowKit
set_option maxRecDepth 100000

theorem cellsL_ints (ρ : Rho) : ∀ L : List ZI, cellsL ρ (intsC L) = L.map fun z => Value.int .i64 z.x
 | [] => rfl
 | z :: l => by rw [intsC, cellsL_cons, cellsL_ints ρ l]; rfl
section
variable {H : Type} {enc : TypeId × Value → H} {w : World} {held : Bool}
theorem open_heights {b0 : Nat} {v : Value} {d : DataW H} {ps : List MemPlace} (hval : Value.okWide Tryz.prog w .any b0 48 v) (hd : DataW.Trod enc Tryz.prog w 0 (fun _ => true) held 48 v d ps) :
  ∃ (hv : C) (ty : TypeId) (L : List ZI) (a : Nat × Nat), v = (SV.c hv).den (fun _ => a) ∧ okHs hv ty L ∧ w.rangeAt a.1 a.2 (cellsL (fun _ => a) (intsC L)) := by
 obtain ⟨a1, len, cap, rfl⟩ := okWide_slice Tryz.underlying48 hval
 obtain ⟨fuel, hf⟩ := hd
 have nothing : ∀ (a : Option Addr) (c : Nat), ∃ (hv : C) (ty : TypeId) (L : List ZI) (a' : Nat × Nat), Value.slice a 0 c = (SV.c hv).den (fun _ => a') ∧ okHs hv ty L ∧ w.rangeAt a'.1 a'.2 (cellsL (fun _ => a') (intsC L)) := fun a c =>
  ⟨.val (.slice a 0 c), 0, [], (0, 0), rfl, .inr ⟨a, c, rfl,rfl,rfl⟩, fun j v h => by simp [intsC, cellsL] at h⟩
 rcases open_ints Tryz.underlying48 u3 (by kernel_rfl) hf with ⟨hcs, _⟩ | ⟨a, len', cap', zs, hcs, _, hl, hm, hz, _, hcell, hwz⟩
 ·simp [Value.cells] at hcs
  obtain ⟨rfl,rfl,rfl⟩ := hcs
  exact nothing none 0
 ·simp [Value.cells] at hcs
  obtain ⟨rfl,rfl,rfl⟩ := hcs
  simp only [if_true] at hz
  by_cases h0 : len = 0
  ·subst h0; exact nothing (some a) cap
  ·obtain ⟨ab, ao, spot⟩ := a
   have hspot : spot = none := by simpa [Addr.add] using World.cell?_spot (hcell 0 (by omega))
   subst hspot
   have hir : ∀ z ∈ zs, IR z := fun z hz' => by have := bounds_i64 (hwz z hz'); exact this
   have hmap : (zs.pmap (fun z h => (⟨z, h⟩ : ZI)) hir).map (fun z => Value.int .i64 z.x) = zs.map (Value.int .i64) := by
    rw [List.map_pmap]; exact List.pmap_eq_map hir
   refine ⟨.sli false 0 0 len cap ⟨hl, hm, fun h => by cases h⟩, 0, zs.pmap (fun z h => (⟨z, h⟩ : ZI)) hir, (ab, ao), rfl, .inl ⟨_, _, _, _, rfl, by rw [List.length_pmap]; omega⟩, fun j v hj => ?_⟩
   rw [cellsL_ints, hmap, List.getElem?_map] at hj
   obtain ⟨z, hz', rfl⟩ := Option.map_eq_some_iff.1 hj
   have hjl : j < zs.length := (List.getElem?_eq_some_iff.1 hz').1
   have hc := hcell j hjl
   rw [Addr.add_lit] at hc
   show w.cell? ⟨ab, ao + j, none⟩ = _
   rw [hc, List.getD_eq_getElem?_getD, hz']; rfl
end
end Go.Proofs.YtefgchmbdijjdaaGreatDoor
