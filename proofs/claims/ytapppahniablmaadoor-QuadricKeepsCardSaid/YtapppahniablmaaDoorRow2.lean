/- Rows over arguments of plain values: arrays of points and numbers. -/
import Derived.Test.YtapppahniablmaaDoorRow
namespace Go.Proofs.YtapppahniablmaaDoor
open Go.ChangeShapes Go.WideShapes Go.ChangeAt Go.RowKit
set_option maxRecDepth 100000

section
variable {H : Type} {enc : TypeId × Value → H} {w : World} {base : Nat} {sp : Nat → Bool} {held : Bool}
theorem trod_elems {t e : TypeId} {n k : Nat} (ht : Tryd.prog.underlying t = some (.array n e)) (hk : Tryd.prog.cellsOf e = k) {fuel : Nat} {l : List Value} {x : DataW H × List MemPlace} (h : DataW.trod enc Tryd.prog w base sp held fuel t l = some x) :
    l.length = Tryd.prog.cellsOf t ∧ ∀ i, i < n → ∃ m y, DataW.trod enc Tryd.prog w base sp held m e ((l.drop (i * k)).take k) = some y := by
  obtain ⟨xs, m, _, _, hl, hn, hf⟩ := DataW.trod_array ht h
  refine ⟨hl, fun i hi => ?_⟩
  have := hf i hi
  rw [hk] at this
  exact ⟨m, xs[i]'(by omega), this.trans (List.getElem?_eq_getElem (by omega))⟩
theorem u_u8 : Tryd.prog.underlying 5 = some (.int .u8) := by kernel_rfl
theorem cP : Tryd.prog.cellsOf 23 = 3 := by kernel_rfl
theorem cI : Tryd.prog.cellsOf 3 = 1 := by kernel_rfl
theorem cU : Tryd.prog.cellsOf 5 = 1 := by kernel_rfl
theorem okWide_array {t e : TypeId} {n : Nat} (ht : Tryd.prog.underlying t = some (.array n e)) {b0 : Nat} {v : Value} (h : Value.okWide Tryd.prog w .any b0 t v) : ∃ cs : Array Value, v = .agg cs := by
  unfold Value.okWide at h
  rw [ht] at h
  obtain ⟨cs, e, _⟩ := h
  exact ⟨cs, e⟩
theorem open_points3 {b0 : Nat} {v : Value} {d : DataW H} {ps : List MemPlace} (hval : Value.okWide Tryd.prog w .any b0 30 v) (hd : DataW.Trod enc Tryd.prog w base sp held 30 v d ps) : ∃ (x1 y1 z1 x2 y2 z2 x3 y3 z3 : Int), v = .agg #[.int .i64 x1, .int .i64 y1, .int .i64 z1, .int .i64 x2, .int .i64 y2, .int .i64 z2, .int .i64 x3, .int .i64 y3, .int .i64 z3] ∧ IR x1 ∧ IR y1 ∧ IR z1 ∧ IR x2 ∧ IR y2 ∧ IR z2 ∧ IR x3 ∧ IR y3 ∧ IR z3 := by
  obtain ⟨cs, rfl⟩ := okWide_array Tryd.underlying30 hval
  obtain ⟨fuel, h⟩ := hd
  obtain ⟨hl, hf⟩ := trod_elems Tryd.underlying30 cP h
  have hc : Tryd.prog.cellsOf 30 = 9 := by kernel_rfl
  rw [hc] at hl
  have hl : cs.toList.length = 9 := hl
  have key : ∀ l : List Value, l.length = 9 → (∀ i, i < 3 → ∃ m y, DataW.trod enc Tryd.prog w base sp held m 23 ((l.drop (i * 3)).take 3) = some y) → ∃ (x1 y1 z1 x2 y2 z2 x3 y3 z3 : Int), l = [.int .i64 x1, .int .i64 y1, .int .i64 z1, .int .i64 x2, .int .i64 y2, .int .i64 z2, .int .i64 x3, .int .i64 y3, .int .i64 z3] ∧ IR x1 ∧ IR y1 ∧ IR z1 ∧ IR x2 ∧ IR y2 ∧ IR z2 ∧ IR x3 ∧ IR y3 ∧ IR z3 := by
    intro l hl hf
    match l, hl with
    | [a0, a1, a2, a3, a4, a5, a6, a7, a8], _ =>
      obtain ⟨m0, y0', h0⟩ := hf 0 (by decide)
      change DataW.trod enc Tryd.prog w base sp held m0 23 [a0, a1, a2] = some y0' at h0
      obtain ⟨x1, y1, z1, e, hx1, hy1, hz1⟩ := cells_point h0
      obtain ⟨rfl, rfl, rfl⟩ : a0 = .int .i64 x1 ∧ a1 = .int .i64 y1 ∧ a2 = .int .i64 z1 := by simpa using e
      obtain ⟨m1, y1', h1⟩ := hf 1 (by decide)
      change DataW.trod enc Tryd.prog w base sp held m1 23 [a3, a4, a5] = some y1' at h1
      obtain ⟨x2, y2, z2, e, hx2, hy2, hz2⟩ := cells_point h1
      obtain ⟨rfl, rfl, rfl⟩ : a3 = .int .i64 x2 ∧ a4 = .int .i64 y2 ∧ a5 = .int .i64 z2 := by simpa using e
      obtain ⟨m2, y2', h2⟩ := hf 2 (by decide)
      change DataW.trod enc Tryd.prog w base sp held m2 23 [a6, a7, a8] = some y2' at h2
      obtain ⟨x3, y3, z3, e, hx3, hy3, hz3⟩ := cells_point h2
      obtain ⟨rfl, rfl, rfl⟩ : a6 = .int .i64 x3 ∧ a7 = .int .i64 y3 ∧ a8 = .int .i64 z3 := by simpa using e
      exact ⟨x1, y1, z1, x2, y2, z2, x3, y3, z3, rfl, hx1, hy1, hz1, hx2, hy2, hz2, hx3, hy3, hz3⟩
  obtain ⟨x1, y1, z1, x2, y2, z2, x3, y3, z3, e, hh⟩ := key cs.toList hl hf
  refine ⟨x1, y1, z1, x2, y2, z2, x3, y3, z3, ?_, hh⟩
  rw [← Array.toArray_toList (xs := cs), e]
theorem open_points4 {b0 : Nat} {v : Value} {d : DataW H} {ps : List MemPlace} (hval : Value.okWide Tryd.prog w .any b0 41 v) (hd : DataW.Trod enc Tryd.prog w base sp held 41 v d ps) : ∃ (x1 y1 z1 x2 y2 z2 x3 y3 z3 x4 y4 z4 : Int), v = .agg #[.int .i64 x1, .int .i64 y1, .int .i64 z1, .int .i64 x2, .int .i64 y2, .int .i64 z2, .int .i64 x3, .int .i64 y3, .int .i64 z3, .int .i64 x4, .int .i64 y4, .int .i64 z4] ∧ IR x1 ∧ IR y1 ∧ IR z1 ∧ IR x2 ∧ IR y2 ∧ IR z2 ∧ IR x3 ∧ IR y3 ∧ IR z3 ∧ IR x4 ∧ IR y4 ∧ IR z4 := by
  obtain ⟨cs, rfl⟩ := okWide_array Tryd.underlying41 hval
  obtain ⟨fuel, h⟩ := hd
  obtain ⟨hl, hf⟩ := trod_elems Tryd.underlying41 cP h
  have hc : Tryd.prog.cellsOf 41 = 12 := by kernel_rfl
  rw [hc] at hl
  have hl : cs.toList.length = 12 := hl
  have key : ∀ l : List Value, l.length = 12 → (∀ i, i < 4 → ∃ m y, DataW.trod enc Tryd.prog w base sp held m 23 ((l.drop (i * 3)).take 3) = some y) → ∃ (x1 y1 z1 x2 y2 z2 x3 y3 z3 x4 y4 z4 : Int), l = [.int .i64 x1, .int .i64 y1, .int .i64 z1, .int .i64 x2, .int .i64 y2, .int .i64 z2, .int .i64 x3, .int .i64 y3, .int .i64 z3, .int .i64 x4, .int .i64 y4, .int .i64 z4] ∧ IR x1 ∧ IR y1 ∧ IR z1 ∧ IR x2 ∧ IR y2 ∧ IR z2 ∧ IR x3 ∧ IR y3 ∧ IR z3 ∧ IR x4 ∧ IR y4 ∧ IR z4 := by
    intro l hl hf
    match l, hl with
    | [a0, a1, a2, a3, a4, a5, a6, a7, a8, a9, a10, a11], _ =>
      obtain ⟨m0, y0', h0⟩ := hf 0 (by decide)
      change DataW.trod enc Tryd.prog w base sp held m0 23 [a0, a1, a2] = some y0' at h0
      obtain ⟨x1, y1, z1, e, hx1, hy1, hz1⟩ := cells_point h0
      obtain ⟨rfl, rfl, rfl⟩ : a0 = .int .i64 x1 ∧ a1 = .int .i64 y1 ∧ a2 = .int .i64 z1 := by simpa using e
      obtain ⟨m1, y1', h1⟩ := hf 1 (by decide)
      change DataW.trod enc Tryd.prog w base sp held m1 23 [a3, a4, a5] = some y1' at h1
      obtain ⟨x2, y2, z2, e, hx2, hy2, hz2⟩ := cells_point h1
      obtain ⟨rfl, rfl, rfl⟩ : a3 = .int .i64 x2 ∧ a4 = .int .i64 y2 ∧ a5 = .int .i64 z2 := by simpa using e
      obtain ⟨m2, y2', h2⟩ := hf 2 (by decide)
      change DataW.trod enc Tryd.prog w base sp held m2 23 [a6, a7, a8] = some y2' at h2
      obtain ⟨x3, y3, z3, e, hx3, hy3, hz3⟩ := cells_point h2
      obtain ⟨rfl, rfl, rfl⟩ : a6 = .int .i64 x3 ∧ a7 = .int .i64 y3 ∧ a8 = .int .i64 z3 := by simpa using e
      obtain ⟨m3, y3', h3⟩ := hf 3 (by decide)
      change DataW.trod enc Tryd.prog w base sp held m3 23 [a9, a10, a11] = some y3' at h3
      obtain ⟨x4, y4, z4, e, hx4, hy4, hz4⟩ := cells_point h3
      obtain ⟨rfl, rfl, rfl⟩ : a9 = .int .i64 x4 ∧ a10 = .int .i64 y4 ∧ a11 = .int .i64 z4 := by simpa using e
      exact ⟨x1, y1, z1, x2, y2, z2, x3, y3, z3, x4, y4, z4, rfl, hx1, hy1, hz1, hx2, hy2, hz2, hx3, hy3, hz3, hx4, hy4, hz4⟩
  obtain ⟨x1, y1, z1, x2, y2, z2, x3, y3, z3, x4, y4, z4, e, hh⟩ := key cs.toList hl hf
  refine ⟨x1, y1, z1, x2, y2, z2, x3, y3, z3, x4, y4, z4, ?_, hh⟩
  rw [← Array.toArray_toList (xs := cs), e]
end
end Go.Proofs.YtapppahniablmaaDoor
