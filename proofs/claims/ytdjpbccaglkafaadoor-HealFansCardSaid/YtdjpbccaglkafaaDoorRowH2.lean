/- Rows over arguments of plain values: the arguments opened, the reading behind the call. -/
import Derived.Test.YtdjpbccaglkafaaDoorRows
import Derived.Test.YtdjpbccaglkafaaDoorH5B
import Derived.ChangeSlices
import Derived.ProofKit
import Derived.OpenShut
import Derived.Carry
import Derived.LaidMore
import Derived.Lay
import Derived.SevenTiedAt
import Derived.Stop.Joined
namespace Go.Proofs.YtdjpbccaglkafaaDoor
open Go.ChangeShapes Go.WideShapes Go.ChangeAt Go.RowKit
set_option maxRecDepth 100000

theorem own : ownKnob Tryd.prog.godebug = none := by kernel_rfl
theorem laidOut : laidOutB Tryd.prog = true := by kernel_rfl

section
variable {H : Type} {enc : TypeId × Value → H}
theorem trodAll_stays {W W' : World} (hb : Below W.heap.size W W') {sp : Nat → Bool} : ∀ {ts : List TypeId} {vs : List Value} {ds : List (DataW H)} {ps : List MemPlace}, DataW.TrodAll enc Tryd.prog W 0 (fun _ => true) true ts vs ds ps →
    (∀ t ∈ ts, Tryd.prog.readableRec t = true ∧ t < Tryd.prog.types.size) → (∀ x ∈ ps, x.block < W.heap.size) → (∀ x ∈ ps, sp x.block = true) → DataW.TrodAll enc Tryd.prog W' 0 sp true ts vs ds ps
  | [], [], [], _, h, _, _, _ => h
  | t :: ts, v :: vs, d :: ds, ps, h, ht, hlt, hsp => by
    obtain ⟨p, q, h1, h2, rfl⟩ := h
    refine ⟨p, q, WideElems.Trod_stays laidOut (ht t List.mem_cons_self).1 (ht t List.mem_cons_self).2 h1 (fun x hx => hb.same (hlt x (List.mem_append_left _ hx))) (fun x hx => hsp x (List.mem_append_left _ hx)), ?_, rfl⟩
    exact trodAll_stays hb h2 (fun t ht' => ht t (List.mem_cons_of_mem _ ht')) (fun x hx => hlt x (List.mem_append_right _ hx)) (fun x hx => hsp x (List.mem_append_right _ hx))
  | [], _ :: _, _, _, h, _, _, _ => h.elim
  | [], [], _ :: _, _, h, _, _, _ => h.elim
  | _ :: _, [], _, _, h, _, _, _ => by cases ‹List (DataW H)› <;> exact h.elim
  | _ :: _, _ :: _, [], _, h, _, _, _ => h.elim

variable {w : World} {base : Nat} {sp : Nat → Bool} {held : Bool}
theorem cells_int {t : TypeId} (ht : Tryd.prog.underlying t = some (.int .i64)) {fuel : Nat} {c : Value} {x : DataW H × List MemPlace} (h : DataW.trod enc Tryd.prog w base sp held fuel t [c] = some x) : ∃ z, c = .int .i64 z ∧ IR z := by
  obtain ⟨z, e, _, hw⟩ := DataW.trod_int ht h
  have := bounds_i64 hw
  exact ⟨z, by simpa using e, this⟩
theorem u3 : Tryd.prog.underlying 3 = some (.int .i64) := by kernel_rfl
theorem trod_elems {t e : TypeId} {n k : Nat} (ht : Tryd.prog.underlying t = some (.array n e)) (hk : Tryd.prog.cellsOf e = k) {fuel : Nat} {l : List Value} {x : DataW H × List MemPlace} (h : DataW.trod enc Tryd.prog w base sp held fuel t l = some x) :
    l.length = Tryd.prog.cellsOf t ∧ ∀ i, i < n → ∃ m y, DataW.trod enc Tryd.prog w base sp held m e ((l.drop (i * k)).take k) = some y := by
  obtain ⟨xs, m, _, _, hl, hn, hf⟩ := DataW.trod_array ht h
  refine ⟨hl, fun i hi => ?_⟩
  have := hf i hi
  rw [hk] at this
  exact ⟨m, xs[i]'(by omega), this.trans (List.getElem?_eq_getElem (by omega))⟩
theorem okWide_array {t e : TypeId} {n : Nat} (ht : Tryd.prog.underlying t = some (.array n e)) {b0 : Nat} {v : Value} (h : Value.okWide Tryd.prog w .any b0 t v) : ∃ cs : Array Value, v = .agg cs := by
  unfold Value.okWide at h
  rw [ht] at h
  obtain ⟨cs, e, _⟩ := h
  exact ⟨cs, e⟩
theorem cz_int : Tryd.prog.cellsOf 3 = 1 := by kernel_rfl
theorem uz_u8 : Tryd.prog.underlying 5 = some (.int .u8) := by kernel_rfl
theorem cz_uint8 : Tryd.prog.cellsOf 5 = 1 := by kernel_rfl
theorem cells_u8 {fuel : Nat} {c : Value} {x : DataW H × List MemPlace} (h : DataW.trod enc Tryd.prog w base sp held fuel 5 [c] = some x) : ∃ z, c = .int .u8 z ∧ 0 ≤ z ∧ z < 256 := by
  obtain ⟨z, e, _, hw⟩ := DataW.trod_int uz_u8 h
  have hw : (0 : Int) ≤ z ∧ z ≤ 255 := by simpa [Lit.wf, IntKind.min, IntKind.max, IntKind.signed, IntKind.bits] using hw
  exact ⟨z, by simpa using e, hw.1, by omega⟩
theorem open_u8 {b0 : Nat} {v : Value} {d : DataW H} {ps : List MemPlace} (hval : Value.okWide Tryd.prog w .any b0 5 v) (hd : DataW.Trod enc Tryd.prog w base sp held 5 v d ps) : ∃ x : Int, v = .int .u8 x ∧ 0 ≤ x ∧ x < 256 := by
  obtain ⟨x, rfl⟩ := okWide_int uz_u8 hval
  obtain ⟨fuel, h⟩ := hd
  obtain ⟨y, e, hy⟩ := cells_u8 h
  refine ⟨x, rfl, ?_⟩
  simp only [Value.int.injEq, true_and] at e
  rw [e]; exact hy
end
theorem cellsL_u8 (ρ : Rho) : ∀ L : List ZB, cellsL ρ (u8C L) = L.map fun z => Value.int .u8 z.z
  | [] => rfl
  | z :: l => by rw [u8C, cellsL_cons, cellsL_u8 ρ l]; rfl
section
variable {H : Type} {enc : TypeId × Value → H} {w : World} {held : Bool}
theorem open_u8s {b0 : Nat} {v : Value} {d : DataW H} {ps : List MemPlace} (hval : Value.okWide Tryd.prog w .any b0 32 v) (hd : DataW.Trod enc Tryd.prog w 0 (fun _ => true) held 32 v d ps) :
    ∃ (hv : C) (ty : TypeId) (L : List ZB) (a : Nat × Nat), v = (SV.c hv).den (fun _ => a) ∧ okB [.c hv] [⟨.t ty, true, u8C L, 0⟩] L ty hv ∧ w.rangeAt a.1 a.2 (cellsL (fun _ => a) (u8C L)) := by
  obtain ⟨a1, len, cap, rfl⟩ := okWide_slice Tryd.underlying32 hval
  obtain ⟨fuel, hf⟩ := hd
  have nothing : ∀ (a : Option Addr) (c : Nat), ∃ (hv : C) (ty : TypeId) (L : List ZB) (a' : Nat × Nat), Value.slice a 0 c = (SV.c hv).den (fun _ => a') ∧ okB [.c hv] [⟨.t ty, true, u8C L, 0⟩] L ty hv ∧ w.rangeAt a'.1 a'.2 (cellsL (fun _ => a') (u8C L)) := fun a c =>
    ⟨.val (.slice a 0 c), 0, [], (0, 0), rfl, ⟨rfl, rfl, .inr ⟨a, c, rfl, rfl⟩⟩, fun j v h => by simp [u8C, cellsL] at h⟩
  rcases open_ints Tryd.underlying32 uz_u8 cz_uint8 hf with ⟨hcs, _⟩ | ⟨a, len', cap', zs, hcs, _, hl, hm, hz, _, hcell, hwz⟩
  · simp [Value.cells] at hcs
    obtain ⟨rfl, rfl, rfl⟩ := hcs
    exact nothing none 0
  · simp [Value.cells] at hcs
    obtain ⟨rfl, rfl, rfl⟩ := hcs
    simp only [if_true] at hz
    by_cases h0 : len = 0
    · subst h0; exact nothing (some a) cap
    · obtain ⟨ab, ao, spot⟩ := a
      have hspot : spot = none := by simpa [Addr.add] using World.cell?_spot (hcell 0 (by omega))
      subst hspot
      have hu8 : ∀ z ∈ zs.take len, 0 ≤ z ∧ z < 256 := fun z hz => by
        have := hwz z (List.mem_of_mem_take hz)
        simp [Lit.wf, IntKind.min, IntKind.max, IntKind.signed, IntKind.bits] at this
        omega
      have hmap : ((zs.take len).pmap (fun z h => (⟨z, h⟩ : ZB)) hu8).map (fun z => Value.int .u8 z.z) = (zs.take len).map (Value.int .u8) := by
        rw [List.map_pmap]; exact List.pmap_eq_map hu8
      have elen : ((zs.take len).pmap (fun z h => (⟨z, h⟩ : ZB)) hu8).length = len := by rw [List.length_pmap, List.length_take]; omega
      refine ⟨.sli false 0 0 ((zs.take len).pmap (fun z h => (⟨z, h⟩ : ZB)) hu8).length cap ⟨by rw [elen]; exact hl, hm, fun h => by cases h⟩, 0, (zs.take len).pmap (fun z h => (⟨z, h⟩ : ZB)) hu8, (ab, ao), by show Value.slice (some ⟨ab, ao, none⟩) len cap = Value.slice (some ⟨ab, ao, none⟩) (List.length _) cap; rw [elen], ⟨rfl, rfl, .inl ⟨_, _, rfl⟩⟩, fun j v hj => ?_⟩
      rw [cellsL_u8, hmap, List.getElem?_map] at hj
      obtain ⟨z, hz', rfl⟩ := Option.map_eq_some_iff.1 hj
      rw [List.getElem?_take] at hz'
      split at hz'
      · have hjl : j < zs.length := (List.getElem?_eq_some_iff.1 hz').1
        have hc := hcell j hjl
        rw [Addr.add_lit] at hc
        show w.cell? ⟨ab, ao + j, none⟩ = _
        rw [hc, List.getD_eq_getElem?_getD, hz']; rfl
      · cases hz'
end
end Go.Proofs.YtdjpbccaglkafaaDoor
