/- Rows over arguments of plain values: the arguments opened, the reading behind the call. -/
import Derived.Test.YtdjpbccaglkafaaDoorRows
import Derived.Test.YtdjpbccaglkafaaDoorH5R
import Derived.ChangeSlices
import Derived.ProofKit
import Derived.OpenShut
import Derived.Carry
import Derived.LaidMore
import Derived.Lay
import Derived.SevenTiedAt
import Derived.Stop.Joined
namespace Go.Proofs.YtdjpbccaglkafaaDoor
open Go.ChangeShapes Go.WideShapes Go.ChangeAt Go.RowKit
set_option maxRecDepth 100000

theorem own : ownKnob Tryd.prog.godebug = none := by kernel_rfl
theorem laidOut : laidOutB Tryd.prog = true := by kernel_rfl

section
variable {H : Type} {enc : TypeId × Value → H}
theorem trodAll_stays {W W' : World} (hb : Below W.heap.size W W') {sp : Nat → Bool} : ∀ {ts : List TypeId} {vs : List Value} {ds : List (DataW H)} {ps : List MemPlace}, DataW.TrodAll enc Tryd.prog W 0 (fun _ => true) true ts vs ds ps →
    (∀ t ∈ ts, Tryd.prog.readableRec t = true ∧ t < Tryd.prog.types.size) → (∀ x ∈ ps, x.block < W.heap.size) → (∀ x ∈ ps, sp x.block = true) → DataW.TrodAll enc Tryd.prog W' 0 sp true ts vs ds ps
  | [], [], [], _, h, _, _, _ => h
  | t :: ts, v :: vs, d :: ds, ps, h, ht, hlt, hsp => by
    obtain ⟨p, q, h1, h2, rfl⟩ := h
    refine ⟨p, q, WideElems.Trod_stays laidOut (ht t List.mem_cons_self).1 (ht t List.mem_cons_self).2 h1 (fun x hx => hb.same (hlt x (List.mem_append_left _ hx))) (fun x hx => hsp x (List.mem_append_left _ hx)), ?_, rfl⟩
    exact trodAll_stays hb h2 (fun t ht' => ht t (List.mem_cons_of_mem _ ht')) (fun x hx => hlt x (List.mem_append_right _ hx)) (fun x hx => hsp x (List.mem_append_right _ hx))
  | [], _ :: _, _, _, h, _, _, _ => h.elim
  | [], [], _ :: _, _, h, _, _, _ => h.elim
  | _ :: _, [], _, _, h, _, _, _ => by cases ‹List (DataW H)› <;> exact h.elim
  | _ :: _, _ :: _, [], _, h, _, _, _ => h.elim

variable {w : World} {base : Nat} {sp : Nat → Bool} {held : Bool}
theorem cells_int {t : TypeId} (ht : Tryd.prog.underlying t = some (.int .i64)) {fuel : Nat} {c : Value} {x : DataW H × List MemPlace} (h : DataW.trod enc Tryd.prog w base sp held fuel t [c] = some x) : ∃ z, c = .int .i64 z ∧ IR z := by
  obtain ⟨z, e, _, hw⟩ := DataW.trod_int ht h
  have := bounds_i64 hw
  exact ⟨z, by simpa using e, this⟩
theorem u3 : Tryd.prog.underlying 3 = some (.int .i64) := by kernel_rfl
theorem trod_elems {t e : TypeId} {n k : Nat} (ht : Tryd.prog.underlying t = some (.array n e)) (hk : Tryd.prog.cellsOf e = k) {fuel : Nat} {l : List Value} {x : DataW H × List MemPlace} (h : DataW.trod enc Tryd.prog w base sp held fuel t l = some x) :
    l.length = Tryd.prog.cellsOf t ∧ ∀ i, i < n → ∃ m y, DataW.trod enc Tryd.prog w base sp held m e ((l.drop (i * k)).take k) = some y := by
  obtain ⟨xs, m, _, _, hl, hn, hf⟩ := DataW.trod_array ht h
  refine ⟨hl, fun i hi => ?_⟩
  have := hf i hi
  rw [hk] at this
  exact ⟨m, xs[i]'(by omega), this.trans (List.getElem?_eq_getElem (by omega))⟩
theorem okWide_array {t e : TypeId} {n : Nat} (ht : Tryd.prog.underlying t = some (.array n e)) {b0 : Nat} {v : Value} (h : Value.okWide Tryd.prog w .any b0 t v) : ∃ cs : Array Value, v = .agg cs := by
  unfold Value.okWide at h
  rw [ht] at h
  obtain ⟨cs, e, _⟩ := h
  exact ⟨cs, e⟩
theorem cz_int : Tryd.prog.cellsOf 3 = 1 := by kernel_rfl
theorem open_int {b0 : Nat} {v : Value} {d : DataW H} {ps : List MemPlace} (hval : Value.okWide Tryd.prog w .any b0 3 v) (hd : DataW.Trod enc Tryd.prog w base sp held 3 v d ps) : ∃ x : Int, v = .int .i64 x ∧ IR x := by
  obtain ⟨x, rfl⟩ := okWide_int u3 hval
  obtain ⟨fuel, h⟩ := hd
  obtain ⟨y, e, hy⟩ := cells_int u3 h
  refine ⟨x, rfl, ?_⟩
  simp only [Value.int.injEq, true_and] at e
  rw [e]; exact hy
theorem cz__3_int : Tryd.prog.cellsOf 52 = 3 := by kernel_rfl
theorem cells__3_int {fuel : Nat} {l : List Value} {x : DataW H × List MemPlace} (h : DataW.trod enc Tryd.prog w base sp held fuel 52 l = some x) : ∃ (v0 v1 v2 : Int), l = [.int .i64 v0, .int .i64 v1, .int .i64 v2] ∧ IR v0 ∧ IR v1 ∧ IR v2 := by
  obtain ⟨hl, hf⟩ := trod_elems Tryd.underlying52 cz_int h
  rw [cz__3_int] at hl
  clear h
  match l, hl with
  | [a0, a1, a2], _ =>
      obtain ⟨m0, y0, h0⟩ := hf 0 (by decide)
      change DataW.trod enc Tryd.prog w base sp held m0 3 [a0] = some y0 at h0
      obtain ⟨m1, y1, h1⟩ := hf 1 (by decide)
      change DataW.trod enc Tryd.prog w base sp held m1 3 [a1] = some y1 at h1
      obtain ⟨m2, y2, h2⟩ := hf 2 (by decide)
      change DataW.trod enc Tryd.prog w base sp held m2 3 [a2] = some y2 at h2
      obtain ⟨v0, rfl, k0⟩ := cells_int u3 h0
      obtain ⟨v1, rfl, k1⟩ := cells_int u3 h1
      obtain ⟨v2, rfl, k2⟩ := cells_int u3 h2
      exact ⟨v0, v1, v2, rfl, k0, k1, k2⟩
theorem open__3_int {b0 : Nat} {v : Value} {d : DataW H} {ps : List MemPlace} (hval : Value.okWide Tryd.prog w .any b0 52 v) (hd : DataW.Trod enc Tryd.prog w base sp held 52 v d ps) : ∃ (v0 v1 v2 : Int), v = .agg #[.int .i64 v0, .int .i64 v1, .int .i64 v2] ∧ IR v0 ∧ IR v1 ∧ IR v2 := by
  obtain ⟨cs, rfl⟩ := okWide_array Tryd.underlying52 hval
  obtain ⟨fuel, h⟩ := hd
  obtain ⟨v0, v1, v2, e, hh⟩ := cells__3_int h
  refine ⟨v0, v1, v2, ?_, hh⟩
  have e : cs.toList = [.int .i64 v0, .int .i64 v1, .int .i64 v2] := e
  rw [← Array.toArray_toList (xs := cs), e]
end
theorem cellsL_lns (ρ : Rho) : ∀ L : List LN, cellsL ρ (lnsC L) = L.map LN.val
  | [] => rfl
  | z :: l => by rw [lnsC, cellsL_cons, cellsL_lns ρ l]; rfl
theorem cellsL_ints (ρ : Rho) : ∀ L : List ZI, cellsL ρ (intsC L) = L.map fun z => Value.int .i64 z.x
  | [] => rfl
  | z :: l => by rw [intsC, cellsL_cons, cellsL_ints ρ l]; rfl
section
variable {H : Type} {enc : TypeId × Value → H} {w : World} {held : Bool}
theorem cell_row {a : Addr} {v : Value} (h : w.cell? a = some v) : ∃ x : Obj, w.heap[a.block]? = some x ∧ x.isCells = true := by
  unfold World.cell? at h
  split at h
  · rename_i c e f hc; exact ⟨_, hc, rfl⟩
  · cases h
def LN.piece (p : LN) : Ent := ⟨(p.r, p.o), intsC p.full, 0, 0⟩
/-- a row out of a cell -/
theorem open_ln {fuel : Nat} {cs : List Value} {x : DataW H × List MemPlace} (h : DataW.trod enc Tryd.prog w 0 (fun _ => true) held fuel 60 cs = some x) :
    ∃ p : LN, cs = [p.val] ∧ (intsC p.full = [] ∨ FamAt w.heap.size w false p.piece) := by
  rcases open_ints Tryd.underlying60 u3 (by kernel_rfl) h with ⟨hcs, _⟩ | ⟨a, len, cap, zs, hcs, _, hl, hm, hz, _, hcell, hwz⟩
  · rw [hcs]; exact ⟨⟨none, false, 0, 0, 0, 0, by unfold SliOk; decide, fun h => absurd rfl h, [], Nat.le_refl _⟩, rfl, .inl rfl⟩
  · rw [hcs]
    simp only [if_true] at hz
    by_cases h0 : len = 0
    · subst h0
      exact ⟨⟨some a, false, 0, 0, 0, cap, ⟨Nat.zero_le _, hm, fun h => by cases h⟩, fun h => absurd rfl h, [], Nat.le_refl _⟩, rfl, .inl rfl⟩
    · obtain ⟨ab, ao, spot⟩ := a
      have hspot : spot = none := by simpa [Addr.add] using World.cell?_spot (hcell 0 (by omega))
      subst hspot
      have hir : ∀ z ∈ zs, IR z := fun z hz' => by have := bounds_i64 (hwz z hz'); exact this
      have hmap : (zs.pmap (fun z h => (⟨z, h⟩ : ZI)) hir).map (fun z => Value.int .i64 z.x) = zs.map (Value.int .i64) := by
        rw [List.map_pmap]; exact List.pmap_eq_map hir
      have hc0 := hcell 0 (by omega)
      obtain ⟨x, hx, hx2⟩ := cell_row hc0
      refine ⟨⟨some ⟨ab, ao, none⟩, false, ab, ao, len, cap, ⟨hl, hm, fun h => by cases h⟩, fun _ => rfl, zs.pmap (fun z h => (⟨z, h⟩ : ZI)) hir, by rw [List.length_pmap]; omega⟩, rfl, .inr ⟨intsC_pure _, ⟨x, hx, hx2⟩, fun h => (by cases h), fun j v hj => ?_, fun _ => (Array.getElem?_eq_some_iff.1 hx).1⟩⟩
      · have hj : (cellsL (fun _ => (0, 0)) (intsC (zs.pmap (fun z h => (⟨z, h⟩ : ZI)) hir)))[j]? = some v := hj
        rw [cellsL_ints, hmap, List.getElem?_map] at hj
        obtain ⟨z, hz', rfl⟩ := Option.map_eq_some_iff.1 hj
        have hjl : j < zs.length := (List.getElem?_eq_some_iff.1 hz').1
        have hc := hcell j hjl
        rw [Addr.add_lit] at hc
        show w.cell? ⟨ab, ao + j, none⟩ = _
        rw [hc, List.getD_eq_getElem?_getD, hz']; rfl
theorem choose_list {α : Type} {P : Nat → α → Prop} : ∀ n, (∀ i, i < n → ∃ x, P i x) → ∃ l : List α, l.length = n ∧ ∀ i x, l[i]? = some x → P i x
  | 0, _ => ⟨[], rfl, fun i x h => by simp at h⟩
  | n + 1, h => by
    obtain ⟨l, hl, hp⟩ := choose_list n fun i hi => h i (by omega)
    obtain ⟨x, hx⟩ := h n (by omega)
    refine ⟨l ++ [x], by simp [hl], fun i y hy => ?_⟩
    by_cases hi : i < l.length
    · rw [List.getElem?_append_left hi] at hy; exact hp i y hy
    · rw [List.getElem?_append_right (by omega)] at hy
      have : i - l.length = 0 := by
        rcases Nat.eq_zero_or_pos (i - l.length) with h0 | h0
        · exact h0
        · rw [List.getElem?_eq_none (by simp; omega)] at hy; cases hy
      rw [this] at hy
      simp at hy
      subst hy
      obtain rfl : i = n := by omega
      exact hx
open Classical in
theorem open_lns {b0 : Nat} {v : Value} {d : DataW H} {ps : List MemPlace} (hval : Value.okWide Tryd.prog w .any b0 22 v) (hd : DataW.Trod enc Tryd.prog w 0 (fun _ => true) held 22 v d ps) :
    ∃ (hv : C) (ty : TypeId) (fam : List Ent) (L : List LN) (a : Nat × Nat), v = (SV.c hv).den (fun _ => a) ∧ okRw [.c hv] [⟨.t ty, true, lnsC L, 0⟩, ⟨.x fam, true, [], 3⟩] hv ty fam L ∧ w.rangeAt a.1 a.2 (cellsL (fun _ => a) (lnsC L)) ∧ ∀ e ∈ fam, FamAt w.heap.size w false e := by
  obtain ⟨a1, len, cap, rfl⟩ := okWide_slice Tryd.underlying22 hval
  obtain ⟨fuel, hf⟩ := hd
  have nothing : ∀ (a : Option Addr) (c : Nat), ∃ (hv : C) (ty : TypeId) (fam : List Ent) (L : List LN) (a' : Nat × Nat), Value.slice a 0 c = (SV.c hv).den (fun _ => a') ∧ okRw [.c hv] [⟨.t ty, true, lnsC L, 0⟩, ⟨.x fam, true, [], 3⟩] hv ty fam L ∧ w.rangeAt a'.1 a'.2 (cellsL (fun _ => a') (lnsC L)) ∧ ∀ e ∈ fam, FamAt w.heap.size w false e := fun a c =>
    ⟨.val (.slice a 0 c), 0, [], [], (0, 0), rfl, ⟨rfl, rfl, .inr ⟨a, c, rfl, rfl⟩, fun p hp => (by cases hp)⟩, fun j v h => by simp [lnsC, cellsL] at h, fun e he => (by cases he)⟩
  rcases DataW.trod_slice Tryd.underlying22 hf with h0 | ⟨a, len', cap', elems, rest, n, _, hcs, _, hb, hl, hm, hlen, hel, hsp, hns⟩
  · have hcs := h0.1
    simp [Value.cells] at hcs
    obtain ⟨rfl, rfl, rfl⟩ := hcs
    exact nothing none 0
  · simp [Value.cells] at hcs
    obtain ⟨rfl, rfl, rfl⟩ := hcs
    have hc1 : Tryd.prog.cellsOf 60 = 1 := by kernel_rfl
    by_cases h0 : len = 0
    · subst h0; exact nothing (some a) cap
    · have each : ∀ i, i < len → ∃ p : LN, w.cell? (a.add i) = some p.val ∧ (intsC p.full = [] ∨ FamAt w.heap.size w false p.piece) := fun i hi => by
        have h1 := hel i hi
        rw [List.getElem?_eq_getElem (by omega : i < elems.length), hc1, Nat.mul_one, Option.bind_eq_some_iff] at h1
        obtain ⟨cs', h2, h3⟩ := h1
        obtain ⟨p, rfl, hp⟩ := open_ln h3
        exact ⟨p, cell_of_cells?_one h2, hp⟩
      obtain ⟨L, hL, hp⟩ := choose_list len each
      obtain ⟨ab, ao, spot⟩ := a
      obtain ⟨p0, hp0, _⟩ := each 0 (by omega)
      have hspot : spot = none := by simpa [Addr.add] using World.cell?_spot hp0
      subst hspot
      refine ⟨.sli false 0 0 L.length cap ⟨by rw [hL]; exact hl, hm, fun h => (by cases h)⟩, 0, (L.filter fun p => decide (intsC p.full ≠ [])).map LN.piece, L, (ab, ao), by show Value.slice (some ⟨ab, ao, none⟩) len cap = Value.slice (some ⟨ab, ao, none⟩) L.length cap; rw [hL], ⟨rfl, rfl, .inl ⟨_, _, _, rfl⟩, fun p hpm => ?_⟩, fun j v hj => ?_, fun e he => ?_⟩
      · by_cases hne : intsC p.full = []
        · exact .inl hne
        · exact .inr ⟨p.piece, List.mem_map.2 ⟨p, List.mem_filter.2 ⟨hpm, decide_eq_true hne⟩, rfl⟩, rfl, rfl⟩
      · rw [cellsL_lns, List.getElem?_map] at hj
        obtain ⟨p, hp', rfl⟩ := Option.map_eq_some_iff.1 hj
        have hc := (hp j p hp').1
        rw [Addr.add_lit] at hc
        exact hc
      · obtain ⟨p, hpm, rfl⟩ := List.mem_map.1 he
        obtain ⟨h1, h2⟩ := List.mem_filter.1 hpm
        obtain ⟨i, hi, he'⟩ := List.mem_iff_getElem.1 h1
        exact ((hp i p (by rw [List.getElem?_eq_getElem hi, he'])).2).resolve_left (of_decide_eq_true h2)
end
end Go.Proofs.YtdjpbccaglkafaaDoor
