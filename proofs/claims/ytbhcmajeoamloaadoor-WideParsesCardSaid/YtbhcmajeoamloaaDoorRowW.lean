/- Rows over numbers as arguments: the arguments opened, the reading behind the call. -/
import Derived.Test.YtbhcmajeoamloaaDoorRows
import Derived.Test.YtbhcmajeoamloaaDoorLwa
import Derived.ProofKit
import Derived.OpenShut
import Derived.Carry
import Derived.LaidMore
import Derived.Lay
import Derived.SevenTiedAt
import Derived.Stop.Joined
import Derived.ChangeSlices
namespace Go.Proofs.YtbhcmajeoamloaaDoor
open Go.ChangeShapes Go.WideShapes Go.ChangeAt Go.RowKit
set_option maxRecDepth 100000

theorem own : ownKnob Tryd.prog.godebug = none := by kernel_rfl
theorem laidOut : laidOutB Tryd.prog = true := by kernel_rfl

section
variable {H : Type} {enc : TypeId × Value → H}
theorem trodAll_stays {W W' : World} (hb : Below W.heap.size W W') {sp : Nat → Bool} : ∀ {ts : List TypeId} {vs : List Value} {ds : List (DataW H)} {ps : List MemPlace}, DataW.TrodAll enc Tryd.prog W 0 (fun _ => true) true ts vs ds ps →
    (∀ t ∈ ts, Tryd.prog.readableRec t = true ∧ t < Tryd.prog.types.size) → (∀ x ∈ ps, x.block < W.heap.size) → (∀ x ∈ ps, sp x.block = true) → DataW.TrodAll enc Tryd.prog W' 0 sp true ts vs ds ps
  | [], [], [], _, h, _, _, _ => h
  | t :: ts, v :: vs, d :: ds, ps, h, ht, hlt, hsp => by
    obtain ⟨p, q, h1, h2, rfl⟩ := h
    refine ⟨p, q, WideElems.Trod_stays laidOut (ht t List.mem_cons_self).1 (ht t List.mem_cons_self).2 h1 (fun x hx => hb.same (hlt x (List.mem_append_left _ hx))) (fun x hx => hsp x (List.mem_append_left _ hx)), ?_, rfl⟩
    exact trodAll_stays hb h2 (fun t ht' => ht t (List.mem_cons_of_mem _ ht')) (fun x hx => hlt x (List.mem_append_right _ hx)) (fun x hx => hsp x (List.mem_append_right _ hx))
  | [], _ :: _, _, _, h, _, _, _ => h.elim
  | [], [], _ :: _, _, h, _, _, _ => h.elim
  | _ :: _, [], _, _, h, _, _, _ => by cases ‹List (DataW H)› <;> exact h.elim
  | _ :: _, _ :: _, [], _, h, _, _, _ => h.elim

variable {w : World} {base : Nat} {sp : Nat → Bool} {held : Bool}
theorem cells_int {t : TypeId} (ht : Tryd.prog.underlying t = some (.int .i64)) {fuel : Nat} {c : Value} {x : DataW H × List MemPlace} (h : DataW.trod enc Tryd.prog w base sp held fuel t [c] = some x) : ∃ z, c = .int .i64 z ∧ IR z := by
  obtain ⟨z, e, _, hw⟩ := DataW.trod_int ht h
  have := bounds_i64 hw
  exact ⟨z, by simpa using e, this⟩
theorem u3 : Tryd.prog.underlying 3 = some (.int .i64) := by kernel_rfl
end
/-- a number of the arguments, in memory -/
def NumC (W : World) (l : List Value) : Prop :=
  (∃ (neg : Bool) (z : Int) (bs : List UInt8) (c : Nat) (p : Nat × Nat), l = [.bool neg, .slice (some ⟨p.1, p.2, none⟩) bs.length c, .int .i64 z] ∧ IR z ∧ SliOk false bs.length c ∧ bs.length ≤ 140737488351232 ∧ ∀ ρ, W.rangeAt p.1 p.2 (cellsL ρ (bsC bs)))
  ∨ ∃ (neg : Bool) (z : Int) (a : Option Addr), l = [.bool neg, .slice a 0 0, .int .i64 z] ∧ IR z
def NumAt (W : World) (v : Value) : Prop := ∃ l, v = .agg l.toArray ∧ NumC W l
theorem weights_two {H : Type} {P : Program} {t : TypeId} {ts : List TypeId} {d : DataW H} {ds : List (DataW H)} (h : (DataW.weightsEach P (t :: ts) (d :: ds)).all (· ≤ reachBytes) = true) : (d.weights P t).all (· ≤ reachBytes) = true ∧ (DataW.weightsEach P ts ds).all (· ≤ reachBytes) = true := by
  unfold DataW.weightsEach at h
  rw [List.all_append, Bool.and_eq_true] at h
  exact h
section
variable {H : Type} {enc : TypeId × Value → H} {w : World} {held : Bool}
theorem bs_u8 : Tryd.prog.bytesOf 5 = 1 := by kernel_rfl
theorem cU8 : Tryd.prog.cellsOf 5 = 1 := by kernel_rfl
theorem u_u8 : Tryd.prog.underlying 5 = some (.int .u8) := by kernel_rfl
theorem cells_num {fuel : Nat} {l : List Value} {x : DataW H × List MemPlace} (h : DataW.trod enc Tryd.prog w 0 (fun _ => true) held fuel 24 l = some x) (hw : (x.1.weights Tryd.prog 24).all (· ≤ reachBytes) = true) : NumC w l := by
  obtain ⟨xs, n, _, rfl, hl, hn, hf⟩ := DataW.trod_struct Tryd.underlying24 h
  have cN : Tryd.prog.cellsOf 24 = 3 := by kernel_rfl
  rw [cN] at hl
  match l, hl with
  | [a, b, c], _ =>
    have hn : xs.length = 3 := hn
    have c1 : Tryd.prog.cellsOf 4 = 1 := by kernel_rfl
    have c2 : Tryd.prog.cellsOf 22 = 1 := by kernel_rfl
    have c3 : Tryd.prog.cellsOf 3 = 1 := by kernel_rfl
    match xs, hn with
    | [y0, y1, y2], _ =>
      have g0 := hf 0 _ rfl
      have h0 : DataW.trod enc Tryd.prog w 0 (fun _ => true) held n 4 (([a, b, c].drop 0).take (Tryd.prog.cellsOf 4)) = some y0 := g0
      rw [c1] at h0
      change DataW.trod enc Tryd.prog w 0 (fun _ => true) held n 4 [a] = some y0 at h0
      have g1 := hf 1 _ rfl
      have h1 : DataW.trod enc Tryd.prog w 0 (fun _ => true) held n 22 (([a, b, c].drop 1).take (Tryd.prog.cellsOf 22)) = some y1 := g1
      rw [c2] at h1
      change DataW.trod enc Tryd.prog w 0 (fun _ => true) held n 22 [b] = some y1 at h1
      have g2 := hf 2 _ rfl
      have h2 : DataW.trod enc Tryd.prog w 0 (fun _ => true) held n 3 (([a, b, c].drop 2).take (Tryd.prog.cellsOf 3)) = some y2 := g2
      rw [c3] at h2
      change DataW.trod enc Tryd.prog w 0 (fun _ => true) held n 3 [c] = some y2 at h2
      obtain ⟨neg, ea, _⟩ := DataW.trod_bool (by kernel_rfl) h0
      obtain rfl : a = .bool neg := by simpa using ea
      obtain ⟨z, ec, hz⟩ := cells_int u3 h2
      subst ec
      have hw1 : (y1.1.weights Tryd.prog 22).all (· ≤ reachBytes) = true := by
        have e : (DataW.agg ([y0, y1, y2].map (·.1))).weights Tryd.prog 24 = DataW.weightsEach Tryd.prog [4, 22, 3] [y0.1, y1.1, y2.1] := by
          unfold DataW.weights
          rw [Tryd.underlying24]
          rfl
        rw [e] at hw
        exact (weights_two (weights_two hw).2).1
      rcases open_ints Tryd.underlying22 u_u8 cU8 h1 with ⟨hcs, _⟩ | ⟨a, len, cap, zs, hcs, _, hl, hm, hzl, hy, hcell, hwz⟩
      · obtain rfl : b = .slice none 0 0 := by simpa using hcs
        exact .inr ⟨neg, z, none, rfl, hz⟩
      · obtain rfl : b = .slice (some a) len cap := by simpa using hcs
        simp only [if_true] at hzl
        by_cases h0 : cap = 0
        · subst h0
          obtain rfl : len = 0 := by omega
          exact .inr ⟨neg, z, some a, rfl, hz⟩
        · obtain ⟨ab, ao, spot⟩ := a
          have hspot : spot = none := by simpa [Addr.add] using World.cell?_spot (hcell 0 (by omega))
          subst hspot
          rw [hy] at hw1
          have hcap : cap ≤ 140737488351232 := by
            unfold DataW.weights at hw1
            rw [Tryd.underlying22] at hw1
            simp only [List.all_cons, Bool.and_eq_true, decide_eq_true_eq] at hw1
            have h3 := hw1.1
            rw [bs_u8, Nat.mul_one] at h3
            have e1 : (lits (H := H) .u8 (zs.take len)).length = (zs.take len).length := by simp [lits]
            have e2 : (lits (H := H) .u8 (zs.drop len)).length = (zs.drop len).length := by simp [lits]
            rw [e1, e2, List.length_take, List.length_drop] at h3
            unfold reachBytes at h3
            omega
          have hu8 : ∀ z ∈ zs, 0 ≤ z ∧ z < 256 := fun z hz => by
            have := hwz z hz
            simp [Lit.wf, IntKind.min, IntKind.max, IntKind.signed, IntKind.bits] at this
            omega
          have elen : ((zs.take len).map fun z => UInt8.ofNat z.toNat).length = len := by rw [List.length_map, List.length_take]; omega
          refine .inl ⟨neg, z, (zs.take len).map fun z => UInt8.ofNat z.toNat, cap, (ab, ao), by rw [elen], hz, ⟨by rw [elen]; exact hl, hm, fun h => by cases h⟩, by rw [elen]; omega, fun ρ j v hj => ?_⟩
          rw [bsC_cells, List.getElem?_map, List.getElem?_map, List.getElem?_take] at hj
          split at hj
          · rename_i hjl
            have hjz : j < zs.length := by omega
            rw [List.getElem?_eq_getElem hjz] at hj
            simp only [Option.map_some, Option.some.injEq] at hj
            subst hj
            have hc := hcell j hjz
            rw [Addr.add_lit] at hc
            show w.cell? ⟨ab, ao + j, none⟩ = _
            rw [hc, List.getD_eq_getElem?_getD, List.getElem?_eq_getElem hjz]
            have hb := hu8 zs[j] (List.getElem_mem hjz)
            have e : ((UInt8.ofNat (zs[j]).toNat).toNat : Int) = zs[j] := by
              rw [UInt8.toNat_ofNat']; omega
            rw [e]; rfl
          · cases hj
theorem open_num {b0 : Nat} {v : Value} {d : DataW H} {ps : List MemPlace} (hval : Value.okWide Tryd.prog w .any b0 24 v) (hd : DataW.Trod enc Tryd.prog w 0 (fun _ => true) held 24 v d ps) (hw : (d.weights Tryd.prog 24).all (· ≤ reachBytes) = true) : NumAt w v := by
  obtain ⟨cs, rfl, _⟩ := okWide_struct Tryd.underlying24 hval
  obtain ⟨fuel, h⟩ := hd
  exact ⟨cs.toList, by rw [Array.toArray_toList], cells_num h hw⟩
end
end Go.Proofs.YtbhcmajeoamloaaDoor
