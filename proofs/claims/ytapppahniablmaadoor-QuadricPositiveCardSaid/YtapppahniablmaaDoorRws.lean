/- Rows over arguments of plain values: the arguments opened, the reading behind the call. Rows over arguments of plain values: arrays of points and numbers. Rows over arguments: a list of numbers, a number of 32 bits. -/
import Derived.Test.YtapppahniablmaaDoorRows
import Derived.Test.YtapppahniablmaaDoorQua
import Derived.ProofKit
import Derived.OpenShut
import Derived.Carry
import Derived.LaidMore
import Derived.Lay
import Derived.SevenTiedAt
import Derived.Stop.Joined
import Derived.Test.YtapppahniablmaaDoorLws
import Derived.ChangeSlices
namespace Go.Proofs.YtapppahniablmaaDoor
open Go.ChangeShapes Go.WideShapes Go.ChangeAt Go.RowKit
set_option maxRecDepth 100000

theorem own : ownKnob Tryd.prog.godebug = none := by kernel_rfl
theorem laidOut : laidOutB Tryd.prog = true := by kernel_rfl

section
variable {H : Type} {enc : TypeId × Value → H}
theorem trodAll_stays {W W' : World} (hb : Below W.heap.size W W') {sp : Nat → Bool} : ∀ {ts : List TypeId} {vs : List Value} {ds : List (DataW H)} {ps : List MemPlace}, DataW.TrodAll enc Tryd.prog W 0 (fun _ => true) true ts vs ds ps →
    (∀ t ∈ ts, Tryd.prog.readableRec t = true ∧ t < Tryd.prog.types.size) → (∀ x ∈ ps, x.block < W.heap.size) → (∀ x ∈ ps, sp x.block = true) → DataW.TrodAll enc Tryd.prog W' 0 sp true ts vs ds ps
  | [], [], [], _, h, _, _, _ => h
  | t :: ts, v :: vs, d :: ds, ps, h, ht, hlt, hsp => by
    obtain ⟨p, q, h1, h2, rfl⟩ := h
    refine ⟨p, q, WideElems.Trod_stays laidOut (ht t List.mem_cons_self).1 (ht t List.mem_cons_self).2 h1 (fun x hx => hb.same (hlt x (List.mem_append_left _ hx))) (fun x hx => hsp x (List.mem_append_left _ hx)), ?_, rfl⟩
    exact trodAll_stays hb h2 (fun t ht' => ht t (List.mem_cons_of_mem _ ht')) (fun x hx => hlt x (List.mem_append_right _ hx)) (fun x hx => hsp x (List.mem_append_right _ hx))
  | [], _ :: _, _, _, h, _, _, _ => h.elim
  | [], [], _ :: _, _, h, _, _, _ => h.elim
  | _ :: _, [], _, _, h, _, _, _ => by cases ‹List (DataW H)› <;> exact h.elim
  | _ :: _, _ :: _, [], _, h, _, _, _ => h.elim

variable {w : World} {base : Nat} {sp : Nat → Bool} {held : Bool}
theorem cells_int {t : TypeId} (ht : Tryd.prog.underlying t = some (.int .i64)) {fuel : Nat} {c : Value} {x : DataW H × List MemPlace} (h : DataW.trod enc Tryd.prog w base sp held fuel t [c] = some x) : ∃ z, c = .int .i64 z ∧ IR z := by
  obtain ⟨z, e, _, hw⟩ := DataW.trod_int ht h
  have := bounds_i64 hw
  exact ⟨z, by simpa using e, this⟩
theorem u3 : Tryd.prog.underlying 3 = some (.int .i64) := by kernel_rfl
/-- the cells of a point -/
theorem cells_point {fuel : Nat} {l : List Value} {x : DataW H × List MemPlace} (h : DataW.trod enc Tryd.prog w base sp held fuel 23 l = some x) : ∃ (x y z : Int), l = [.int .i64 x, .int .i64 y, .int .i64 z] ∧ IR x ∧ IR y ∧ IR z := by
  obtain ⟨xs, n, _, _, hl, hn, hf⟩ := DataW.trod_struct Tryd.underlying23 h
  have cP : Tryd.prog.cellsOf 23 = 3 := by kernel_rfl
  rw [cP] at hl
  match l, hl with
  | [a, b, c], _ =>
    have c3 : Tryd.prog.cellsOf 3 = 1 := by kernel_rfl
    have hn : xs.length = 3 := hn
    have g0 := hf 0 _ rfl
    have h0 : DataW.trod enc Tryd.prog w base sp held n 3 (([a, b, c].drop 0).take (Tryd.prog.cellsOf 3)) = xs[0]? := g0
    rw [c3] at h0
    change DataW.trod enc Tryd.prog w base sp held n 3 [a] = xs[0]? at h0
    have g1 := hf 1 _ rfl
    have h1 : DataW.trod enc Tryd.prog w base sp held n 3 (([a, b, c].drop 1).take (Tryd.prog.cellsOf 3)) = xs[1]? := g1
    rw [c3] at h1
    change DataW.trod enc Tryd.prog w base sp held n 3 [b] = xs[1]? at h1
    have g2 := hf 2 _ rfl
    have h2 : DataW.trod enc Tryd.prog w base sp held n 3 (([a, b, c].drop 2).take (Tryd.prog.cellsOf 3)) = xs[2]? := g2
    rw [c3] at h2
    change DataW.trod enc Tryd.prog w base sp held n 3 [c] = xs[2]? at h2
    match xs, hn with
    | [_, _, _], _ =>
      obtain ⟨x, rfl, hx⟩ := cells_int u3 h0
      obtain ⟨y, rfl, hy⟩ := cells_int u3 h1
      obtain ⟨z, rfl, hz⟩ := cells_int u3 h2
      exact ⟨x, y, z, rfl, hx, hy, hz⟩
/-- a point, opened -/
theorem open_point {b0 : Nat} {v : Value} {d : DataW H} {ps : List MemPlace} (hval : Value.okWide Tryd.prog w .any b0 23 v) (hd : DataW.Trod enc Tryd.prog w base sp held 23 v d ps) : ∃ (x y z : Int), v = .agg #[.int .i64 x, .int .i64 y, .int .i64 z] ∧ IR x ∧ IR y ∧ IR z := by
  obtain ⟨cs, rfl, _⟩ := okWide_struct Tryd.underlying23 hval
  obtain ⟨fuel, h⟩ := hd
  obtain ⟨x, y, z, e, hx, hy, hz⟩ := cells_point h
  refine ⟨x, y, z, ?_, hx, hy, hz⟩
  have e : cs.toList = [.int .i64 x, .int .i64 y, .int .i64 z] := e
  rw [← Array.toArray_toList (xs := cs), e]
end
end Go.Proofs.YtapppahniablmaaDoor

namespace Go.Proofs.YtapppahniablmaaDoor
open Go.ChangeShapes Go.WideShapes Go.ChangeAt Go.RowKit
set_option maxRecDepth 100000

section
variable {H : Type} {enc : TypeId × Value → H} {w : World} {base : Nat} {sp : Nat → Bool} {held : Bool}
theorem trod_elems {t e : TypeId} {n k : Nat} (ht : Tryd.prog.underlying t = some (.array n e)) (hk : Tryd.prog.cellsOf e = k) {fuel : Nat} {l : List Value} {x : DataW H × List MemPlace} (h : DataW.trod enc Tryd.prog w base sp held fuel t l = some x) :
    l.length = Tryd.prog.cellsOf t ∧ ∀ i, i < n → ∃ m y, DataW.trod enc Tryd.prog w base sp held m e ((l.drop (i * k)).take k) = some y := by
  obtain ⟨xs, m, _, _, hl, hn, hf⟩ := DataW.trod_array ht h
  refine ⟨hl, fun i hi => ?_⟩
  have := hf i hi
  rw [hk] at this
  exact ⟨m, xs[i]'(by omega), this.trans (List.getElem?_eq_getElem (by omega))⟩
theorem u_u8 : Tryd.prog.underlying 5 = some (.int .u8) := by kernel_rfl
theorem cP : Tryd.prog.cellsOf 23 = 3 := by kernel_rfl
theorem cI : Tryd.prog.cellsOf 3 = 1 := by kernel_rfl
theorem cU : Tryd.prog.cellsOf 5 = 1 := by kernel_rfl
theorem okWide_array {t e : TypeId} {n : Nat} (ht : Tryd.prog.underlying t = some (.array n e)) {b0 : Nat} {v : Value} (h : Value.okWide Tryd.prog w .any b0 t v) : ∃ cs : Array Value, v = .agg cs := by
  unfold Value.okWide at h
  rw [ht] at h
  obtain ⟨cs, e, _⟩ := h
  exact ⟨cs, e⟩
theorem open_points3 {b0 : Nat} {v : Value} {d : DataW H} {ps : List MemPlace} (hval : Value.okWide Tryd.prog w .any b0 30 v) (hd : DataW.Trod enc Tryd.prog w base sp held 30 v d ps) : ∃ (x1 y1 z1 x2 y2 z2 x3 y3 z3 : Int), v = .agg #[.int .i64 x1, .int .i64 y1, .int .i64 z1, .int .i64 x2, .int .i64 y2, .int .i64 z2, .int .i64 x3, .int .i64 y3, .int .i64 z3] ∧ IR x1 ∧ IR y1 ∧ IR z1 ∧ IR x2 ∧ IR y2 ∧ IR z2 ∧ IR x3 ∧ IR y3 ∧ IR z3 := by
  obtain ⟨cs, rfl⟩ := okWide_array Tryd.underlying30 hval
  obtain ⟨fuel, h⟩ := hd
  obtain ⟨hl, hf⟩ := trod_elems Tryd.underlying30 cP h
  have hc : Tryd.prog.cellsOf 30 = 9 := by kernel_rfl
  rw [hc] at hl
  have hl : cs.toList.length = 9 := hl
  have key : ∀ l : List Value, l.length = 9 → (∀ i, i < 3 → ∃ m y, DataW.trod enc Tryd.prog w base sp held m 23 ((l.drop (i * 3)).take 3) = some y) → ∃ (x1 y1 z1 x2 y2 z2 x3 y3 z3 : Int), l = [.int .i64 x1, .int .i64 y1, .int .i64 z1, .int .i64 x2, .int .i64 y2, .int .i64 z2, .int .i64 x3, .int .i64 y3, .int .i64 z3] ∧ IR x1 ∧ IR y1 ∧ IR z1 ∧ IR x2 ∧ IR y2 ∧ IR z2 ∧ IR x3 ∧ IR y3 ∧ IR z3 := by
    intro l hl hf
    match l, hl with
    | [a0, a1, a2, a3, a4, a5, a6, a7, a8], _ =>
      obtain ⟨m0, y0', h0⟩ := hf 0 (by decide)
      change DataW.trod enc Tryd.prog w base sp held m0 23 [a0, a1, a2] = some y0' at h0
      obtain ⟨x1, y1, z1, e, hx1, hy1, hz1⟩ := cells_point h0
      obtain ⟨rfl, rfl, rfl⟩ : a0 = .int .i64 x1 ∧ a1 = .int .i64 y1 ∧ a2 = .int .i64 z1 := by simpa using e
      obtain ⟨m1, y1', h1⟩ := hf 1 (by decide)
      change DataW.trod enc Tryd.prog w base sp held m1 23 [a3, a4, a5] = some y1' at h1
      obtain ⟨x2, y2, z2, e, hx2, hy2, hz2⟩ := cells_point h1
      obtain ⟨rfl, rfl, rfl⟩ : a3 = .int .i64 x2 ∧ a4 = .int .i64 y2 ∧ a5 = .int .i64 z2 := by simpa using e
      obtain ⟨m2, y2', h2⟩ := hf 2 (by decide)
      change DataW.trod enc Tryd.prog w base sp held m2 23 [a6, a7, a8] = some y2' at h2
      obtain ⟨x3, y3, z3, e, hx3, hy3, hz3⟩ := cells_point h2
      obtain ⟨rfl, rfl, rfl⟩ : a6 = .int .i64 x3 ∧ a7 = .int .i64 y3 ∧ a8 = .int .i64 z3 := by simpa using e
      exact ⟨x1, y1, z1, x2, y2, z2, x3, y3, z3, rfl, hx1, hy1, hz1, hx2, hy2, hz2, hx3, hy3, hz3⟩
  obtain ⟨x1, y1, z1, x2, y2, z2, x3, y3, z3, e, hh⟩ := key cs.toList hl hf
  refine ⟨x1, y1, z1, x2, y2, z2, x3, y3, z3, ?_, hh⟩
  rw [← Array.toArray_toList (xs := cs), e]
theorem open_points4 {b0 : Nat} {v : Value} {d : DataW H} {ps : List MemPlace} (hval : Value.okWide Tryd.prog w .any b0 41 v) (hd : DataW.Trod enc Tryd.prog w base sp held 41 v d ps) : ∃ (x1 y1 z1 x2 y2 z2 x3 y3 z3 x4 y4 z4 : Int), v = .agg #[.int .i64 x1, .int .i64 y1, .int .i64 z1, .int .i64 x2, .int .i64 y2, .int .i64 z2, .int .i64 x3, .int .i64 y3, .int .i64 z3, .int .i64 x4, .int .i64 y4, .int .i64 z4] ∧ IR x1 ∧ IR y1 ∧ IR z1 ∧ IR x2 ∧ IR y2 ∧ IR z2 ∧ IR x3 ∧ IR y3 ∧ IR z3 ∧ IR x4 ∧ IR y4 ∧ IR z4 := by
  obtain ⟨cs, rfl⟩ := okWide_array Tryd.underlying41 hval
  obtain ⟨fuel, h⟩ := hd
  obtain ⟨hl, hf⟩ := trod_elems Tryd.underlying41 cP h
  have hc : Tryd.prog.cellsOf 41 = 12 := by kernel_rfl
  rw [hc] at hl
  have hl : cs.toList.length = 12 := hl
  have key : ∀ l : List Value, l.length = 12 → (∀ i, i < 4 → ∃ m y, DataW.trod enc Tryd.prog w base sp held m 23 ((l.drop (i * 3)).take 3) = some y) → ∃ (x1 y1 z1 x2 y2 z2 x3 y3 z3 x4 y4 z4 : Int), l = [.int .i64 x1, .int .i64 y1, .int .i64 z1, .int .i64 x2, .int .i64 y2, .int .i64 z2, .int .i64 x3, .int .i64 y3, .int .i64 z3, .int .i64 x4, .int .i64 y4, .int .i64 z4] ∧ IR x1 ∧ IR y1 ∧ IR z1 ∧ IR x2 ∧ IR y2 ∧ IR z2 ∧ IR x3 ∧ IR y3 ∧ IR z3 ∧ IR x4 ∧ IR y4 ∧ IR z4 := by
    intro l hl hf
    match l, hl with
    | [a0, a1, a2, a3, a4, a5, a6, a7, a8, a9, a10, a11], _ =>
      obtain ⟨m0, y0', h0⟩ := hf 0 (by decide)
      change DataW.trod enc Tryd.prog w base sp held m0 23 [a0, a1, a2] = some y0' at h0
      obtain ⟨x1, y1, z1, e, hx1, hy1, hz1⟩ := cells_point h0
      obtain ⟨rfl, rfl, rfl⟩ : a0 = .int .i64 x1 ∧ a1 = .int .i64 y1 ∧ a2 = .int .i64 z1 := by simpa using e
      obtain ⟨m1, y1', h1⟩ := hf 1 (by decide)
      change DataW.trod enc Tryd.prog w base sp held m1 23 [a3, a4, a5] = some y1' at h1
      obtain ⟨x2, y2, z2, e, hx2, hy2, hz2⟩ := cells_point h1
      obtain ⟨rfl, rfl, rfl⟩ : a3 = .int .i64 x2 ∧ a4 = .int .i64 y2 ∧ a5 = .int .i64 z2 := by simpa using e
      obtain ⟨m2, y2', h2⟩ := hf 2 (by decide)
      change DataW.trod enc Tryd.prog w base sp held m2 23 [a6, a7, a8] = some y2' at h2
      obtain ⟨x3, y3, z3, e, hx3, hy3, hz3⟩ := cells_point h2
      obtain ⟨rfl, rfl, rfl⟩ : a6 = .int .i64 x3 ∧ a7 = .int .i64 y3 ∧ a8 = .int .i64 z3 := by simpa using e
      obtain ⟨m3, y3', h3⟩ := hf 3 (by decide)
      change DataW.trod enc Tryd.prog w base sp held m3 23 [a9, a10, a11] = some y3' at h3
      obtain ⟨x4, y4, z4, e, hx4, hy4, hz4⟩ := cells_point h3
      obtain ⟨rfl, rfl, rfl⟩ : a9 = .int .i64 x4 ∧ a10 = .int .i64 y4 ∧ a11 = .int .i64 z4 := by simpa using e
      exact ⟨x1, y1, z1, x2, y2, z2, x3, y3, z3, x4, y4, z4, rfl, hx1, hy1, hz1, hx2, hy2, hz2, hx3, hy3, hz3, hx4, hy4, hz4⟩
  obtain ⟨x1, y1, z1, x2, y2, z2, x3, y3, z3, x4, y4, z4, e, hh⟩ := key cs.toList hl hf
  refine ⟨x1, y1, z1, x2, y2, z2, x3, y3, z3, x4, y4, z4, ?_, hh⟩
  rw [← Array.toArray_toList (xs := cs), e]
theorem open_int {b0 : Nat} {v : Value} {d : DataW H} {ps : List MemPlace} (hval : Value.okWide Tryd.prog w .any b0 3 v) (hd : DataW.Trod enc Tryd.prog w base sp held 3 v d ps) : ∃ x : Int, v = .int .i64 x ∧ IR x := by
  obtain ⟨x, rfl⟩ := okWide_int u3 hval
  obtain ⟨fuel, h⟩ := hd
  obtain ⟨y, e, hy⟩ := cells_int u3 h
  refine ⟨x, rfl, ?_⟩
  simp only [Value.int.injEq, true_and] at e
  rw [e]; exact hy
theorem cells_u8 {fuel : Nat} {c : Value} {x : DataW H × List MemPlace} (h : DataW.trod enc Tryd.prog w base sp held fuel 5 [c] = some x) : ∃ z, c = .int .u8 z ∧ 0 ≤ z ∧ z < 256 := by
  obtain ⟨z, e, _, hw⟩ := DataW.trod_int u_u8 h
  have hw : (0 : Int) ≤ z ∧ z ≤ 255 := by simpa [Lit.wf, IntKind.min, IntKind.max, IntKind.signed, IntKind.bits] using hw
  exact ⟨z, by simpa using e, hw.1, by omega⟩
theorem open_ints10 {b0 : Nat} {v : Value} {d : DataW H} {ps : List MemPlace} (hval : Value.okWide Tryd.prog w .any b0 37 v) (hd : DataW.Trod enc Tryd.prog w base sp held 37 v d ps) : ∃ (i0 i1 i2 i3 i4 i5 i6 i7 i8 i9 : Int), v = .agg #[.int .i64 i0, .int .i64 i1, .int .i64 i2, .int .i64 i3, .int .i64 i4, .int .i64 i5, .int .i64 i6, .int .i64 i7, .int .i64 i8, .int .i64 i9] ∧ IR i0 ∧ IR i1 ∧ IR i2 ∧ IR i3 ∧ IR i4 ∧ IR i5 ∧ IR i6 ∧ IR i7 ∧ IR i8 ∧ IR i9 := by
  obtain ⟨cs, rfl⟩ := okWide_array Tryd.underlying37 hval
  obtain ⟨fuel, h⟩ := hd
  obtain ⟨hl, hf⟩ := trod_elems Tryd.underlying37 cI h
  have hc : Tryd.prog.cellsOf 37 = 10 := by kernel_rfl
  rw [hc] at hl
  have hl : cs.toList.length = 10 := hl
  have key : ∀ l : List Value, l.length = 10 → (∀ i, i < 10 → ∃ m y, DataW.trod enc Tryd.prog w base sp held m 3 ((l.drop (i * 1)).take 1) = some y) → ∃ (i0 i1 i2 i3 i4 i5 i6 i7 i8 i9 : Int), l = [.int .i64 i0, .int .i64 i1, .int .i64 i2, .int .i64 i3, .int .i64 i4, .int .i64 i5, .int .i64 i6, .int .i64 i7, .int .i64 i8, .int .i64 i9] ∧ IR i0 ∧ IR i1 ∧ IR i2 ∧ IR i3 ∧ IR i4 ∧ IR i5 ∧ IR i6 ∧ IR i7 ∧ IR i8 ∧ IR i9 := by
    intro l hl hf
    match l, hl with
    | [a0, a1, a2, a3, a4, a5, a6, a7, a8, a9], _ =>
      obtain ⟨m0, y0', h0⟩ := hf 0 (by decide)
      change DataW.trod enc Tryd.prog w base sp held m0 3 [a0] = some y0' at h0
      obtain ⟨i0, rfl, hh0⟩ := cells_int u3 h0
      obtain ⟨m1, y1', h1⟩ := hf 1 (by decide)
      change DataW.trod enc Tryd.prog w base sp held m1 3 [a1] = some y1' at h1
      obtain ⟨i1, rfl, hh1⟩ := cells_int u3 h1
      obtain ⟨m2, y2', h2⟩ := hf 2 (by decide)
      change DataW.trod enc Tryd.prog w base sp held m2 3 [a2] = some y2' at h2
      obtain ⟨i2, rfl, hh2⟩ := cells_int u3 h2
      obtain ⟨m3, y3', h3⟩ := hf 3 (by decide)
      change DataW.trod enc Tryd.prog w base sp held m3 3 [a3] = some y3' at h3
      obtain ⟨i3, rfl, hh3⟩ := cells_int u3 h3
      obtain ⟨m4, y4', h4⟩ := hf 4 (by decide)
      change DataW.trod enc Tryd.prog w base sp held m4 3 [a4] = some y4' at h4
      obtain ⟨i4, rfl, hh4⟩ := cells_int u3 h4
      obtain ⟨m5, y5', h5⟩ := hf 5 (by decide)
      change DataW.trod enc Tryd.prog w base sp held m5 3 [a5] = some y5' at h5
      obtain ⟨i5, rfl, hh5⟩ := cells_int u3 h5
      obtain ⟨m6, y6', h6⟩ := hf 6 (by decide)
      change DataW.trod enc Tryd.prog w base sp held m6 3 [a6] = some y6' at h6
      obtain ⟨i6, rfl, hh6⟩ := cells_int u3 h6
      obtain ⟨m7, y7', h7⟩ := hf 7 (by decide)
      change DataW.trod enc Tryd.prog w base sp held m7 3 [a7] = some y7' at h7
      obtain ⟨i7, rfl, hh7⟩ := cells_int u3 h7
      obtain ⟨m8, y8', h8⟩ := hf 8 (by decide)
      change DataW.trod enc Tryd.prog w base sp held m8 3 [a8] = some y8' at h8
      obtain ⟨i8, rfl, hh8⟩ := cells_int u3 h8
      obtain ⟨m9, y9', h9⟩ := hf 9 (by decide)
      change DataW.trod enc Tryd.prog w base sp held m9 3 [a9] = some y9' at h9
      obtain ⟨i9, rfl, hh9⟩ := cells_int u3 h9
      exact ⟨i0, i1, i2, i3, i4, i5, i6, i7, i8, i9, rfl, hh0, hh1, hh2, hh3, hh4, hh5, hh6, hh7, hh8, hh9⟩
  obtain ⟨i0, i1, i2, i3, i4, i5, i6, i7, i8, i9, e, hh⟩ := key cs.toList hl hf
  refine ⟨i0, i1, i2, i3, i4, i5, i6, i7, i8, i9, ?_, hh⟩
  rw [← Array.toArray_toList (xs := cs), e]
theorem open_u8s10 {b0 : Nat} {v : Value} {d : DataW H} {ps : List MemPlace} (hval : Value.okWide Tryd.prog w .any b0 38 v) (hd : DataW.Trod enc Tryd.prog w base sp held 38 v d ps) : ∃ (u0 u1 u2 u3 u4 u5 u6 u7 u8 u9 : Int), v = .agg #[.int .u8 u0, .int .u8 u1, .int .u8 u2, .int .u8 u3, .int .u8 u4, .int .u8 u5, .int .u8 u6, .int .u8 u7, .int .u8 u8, .int .u8 u9] ∧ (0 ≤ u0 ∧ u0 < 256) ∧ (0 ≤ u1 ∧ u1 < 256) ∧ (0 ≤ u2 ∧ u2 < 256) ∧ (0 ≤ u3 ∧ u3 < 256) ∧ (0 ≤ u4 ∧ u4 < 256) ∧ (0 ≤ u5 ∧ u5 < 256) ∧ (0 ≤ u6 ∧ u6 < 256) ∧ (0 ≤ u7 ∧ u7 < 256) ∧ (0 ≤ u8 ∧ u8 < 256) ∧ (0 ≤ u9 ∧ u9 < 256) := by
  obtain ⟨cs, rfl⟩ := okWide_array Tryd.underlying38 hval
  obtain ⟨fuel, h⟩ := hd
  obtain ⟨hl, hf⟩ := trod_elems Tryd.underlying38 cU h
  have hc : Tryd.prog.cellsOf 38 = 10 := by kernel_rfl
  rw [hc] at hl
  have hl : cs.toList.length = 10 := hl
  have key : ∀ l : List Value, l.length = 10 → (∀ i, i < 10 → ∃ m y, DataW.trod enc Tryd.prog w base sp held m 5 ((l.drop (i * 1)).take 1) = some y) → ∃ (u0 u1 u2 u3 u4 u5 u6 u7 u8 u9 : Int), l = [.int .u8 u0, .int .u8 u1, .int .u8 u2, .int .u8 u3, .int .u8 u4, .int .u8 u5, .int .u8 u6, .int .u8 u7, .int .u8 u8, .int .u8 u9] ∧ (0 ≤ u0 ∧ u0 < 256) ∧ (0 ≤ u1 ∧ u1 < 256) ∧ (0 ≤ u2 ∧ u2 < 256) ∧ (0 ≤ u3 ∧ u3 < 256) ∧ (0 ≤ u4 ∧ u4 < 256) ∧ (0 ≤ u5 ∧ u5 < 256) ∧ (0 ≤ u6 ∧ u6 < 256) ∧ (0 ≤ u7 ∧ u7 < 256) ∧ (0 ≤ u8 ∧ u8 < 256) ∧ (0 ≤ u9 ∧ u9 < 256) := by
    intro l hl hf
    match l, hl with
    | [a0, a1, a2, a3, a4, a5, a6, a7, a8, a9], _ =>
      obtain ⟨m0, y0', h0⟩ := hf 0 (by decide)
      change DataW.trod enc Tryd.prog w base sp held m0 5 [a0] = some y0' at h0
      obtain ⟨u0, rfl, hh0⟩ := cells_u8 h0
      obtain ⟨m1, y1', h1⟩ := hf 1 (by decide)
      change DataW.trod enc Tryd.prog w base sp held m1 5 [a1] = some y1' at h1
      obtain ⟨u1, rfl, hh1⟩ := cells_u8 h1
      obtain ⟨m2, y2', h2⟩ := hf 2 (by decide)
      change DataW.trod enc Tryd.prog w base sp held m2 5 [a2] = some y2' at h2
      obtain ⟨u2, rfl, hh2⟩ := cells_u8 h2
      obtain ⟨m3, y3', h3⟩ := hf 3 (by decide)
      change DataW.trod enc Tryd.prog w base sp held m3 5 [a3] = some y3' at h3
      obtain ⟨u3, rfl, hh3⟩ := cells_u8 h3
      obtain ⟨m4, y4', h4⟩ := hf 4 (by decide)
      change DataW.trod enc Tryd.prog w base sp held m4 5 [a4] = some y4' at h4
      obtain ⟨u4, rfl, hh4⟩ := cells_u8 h4
      obtain ⟨m5, y5', h5⟩ := hf 5 (by decide)
      change DataW.trod enc Tryd.prog w base sp held m5 5 [a5] = some y5' at h5
      obtain ⟨u5, rfl, hh5⟩ := cells_u8 h5
      obtain ⟨m6, y6', h6⟩ := hf 6 (by decide)
      change DataW.trod enc Tryd.prog w base sp held m6 5 [a6] = some y6' at h6
      obtain ⟨u6, rfl, hh6⟩ := cells_u8 h6
      obtain ⟨m7, y7', h7⟩ := hf 7 (by decide)
      change DataW.trod enc Tryd.prog w base sp held m7 5 [a7] = some y7' at h7
      obtain ⟨u7, rfl, hh7⟩ := cells_u8 h7
      obtain ⟨m8, y8', h8⟩ := hf 8 (by decide)
      change DataW.trod enc Tryd.prog w base sp held m8 5 [a8] = some y8' at h8
      obtain ⟨u8, rfl, hh8⟩ := cells_u8 h8
      obtain ⟨m9, y9', h9⟩ := hf 9 (by decide)
      change DataW.trod enc Tryd.prog w base sp held m9 5 [a9] = some y9' at h9
      obtain ⟨u9, rfl, hh9⟩ := cells_u8 h9
      exact ⟨u0, u1, u2, u3, u4, u5, u6, u7, u8, u9, rfl, hh0, hh1, hh2, hh3, hh4, hh5, hh6, hh7, hh8, hh9⟩
  obtain ⟨u0, u1, u2, u3, u4, u5, u6, u7, u8, u9, e, hh⟩ := key cs.toList hl hf
  refine ⟨u0, u1, u2, u3, u4, u5, u6, u7, u8, u9, ?_, hh⟩
  rw [← Array.toArray_toList (xs := cs), e]
end
end Go.Proofs.YtapppahniablmaaDoor

namespace Go.Proofs.YtapppahniablmaaDoor
open Go.ChangeShapes Go.WideShapes Go.ChangeAt Go.RowKit
set_option maxRecDepth 100000

theorem cellsL_ints (ρ : Rho) : ∀ L : List ZI, cellsL ρ (intsC L) = L.map fun z => Value.int .i64 z.x
  | [] => rfl
  | z :: l => by rw [intsC, cellsL_cons, cellsL_ints ρ l]; rfl
section
variable {H : Type} {enc : TypeId × Value → H} {w : World} {held : Bool}
theorem u_u32 : Tryd.prog.underlying 44 = some (.int .u32) := by kernel_rfl
theorem open_u32 {b0 base : Nat} {sp : Nat → Bool} {v : Value} {d : DataW H} {ps : List MemPlace} (hval : Value.okWide Tryd.prog w .any b0 44 v) (_ : DataW.Trod enc Tryd.prog w base sp held 44 v d ps) : ∃ x : Int, v = .int .u32 x := okWide_int u_u32 hval
theorem open_heights {b0 : Nat} {v : Value} {d : DataW H} {ps : List MemPlace} (hval : Value.okWide Tryd.prog w .any b0 45 v) (hd : DataW.Trod enc Tryd.prog w 0 (fun _ => true) held 45 v d ps) :
    ∃ (hv : SV) (ty : TypeId) (L : List ZI) (a : Nat × Nat), v = hv.den (fun _ => a) ∧ okHs hv ty L ∧ w.rangeAt a.1 a.2 (cellsL (fun _ => a) (intsC L)) := by
  obtain ⟨a1, len, cap, rfl⟩ := okWide_slice Tryd.underlying45 hval
  obtain ⟨fuel, hf⟩ := hd
  have nothing : ∀ (a : Option Addr) (c : Nat), ∃ (hv : SV) (ty : TypeId) (L : List ZI) (a' : Nat × Nat), Value.slice a 0 c = hv.den (fun _ => a') ∧ okHs hv ty L ∧ w.rangeAt a'.1 a'.2 (cellsL (fun _ => a') (intsC L)) := fun a c =>
    ⟨.c (.val (.slice a 0 c)), 0, [], (0, 0), rfl, .inr ⟨a, c, rfl, rfl, rfl⟩, fun j v h => by simp [intsC, cellsL] at h⟩
  rcases open_ints Tryd.underlying45 u3 (by kernel_rfl) hf with ⟨hcs, _⟩ | ⟨a, len', cap', zs, hcs, _, hl, hm, hz, _, hcell, hwz⟩
  · simp [Value.cells] at hcs
    obtain ⟨rfl, rfl, rfl⟩ := hcs
    exact nothing none 0
  · simp [Value.cells] at hcs
    obtain ⟨rfl, rfl, rfl⟩ := hcs
    simp only [if_true] at hz
    by_cases h0 : len = 0
    · subst h0; exact nothing (some a) cap
    · obtain ⟨ab, ao, spot⟩ := a
      have hspot : spot = none := by simpa [Addr.add] using World.cell?_spot (hcell 0 (by omega))
      subst hspot
      have hir : ∀ z ∈ zs, IR z := fun z hz' => by have := bounds_i64 (hwz z hz'); exact this
      have hmap : (zs.pmap (fun z h => (⟨z, h⟩ : ZI)) hir).map (fun z => Value.int .i64 z.x) = zs.map (Value.int .i64) := by
        rw [List.map_pmap]; exact List.pmap_eq_map hir
      refine ⟨.c (.sli false 0 0 len cap ⟨hl, hm, fun h => by cases h⟩), 0, zs.pmap (fun z h => (⟨z, h⟩ : ZI)) hir, (ab, ao), rfl, .inl ⟨_, _, _, _, rfl, by rw [List.length_pmap]; omega⟩, fun j v hj => ?_⟩
      rw [cellsL_ints, hmap, List.getElem?_map] at hj
      obtain ⟨z, hz', rfl⟩ := Option.map_eq_some_iff.1 hj
      have hjl : j < zs.length := (List.getElem?_eq_some_iff.1 hz').1
      have hc := hcell j hjl
      rw [Addr.add_lit] at hc
      show w.cell? ⟨ab, ao + j, none⟩ = _
      rw [hc, List.getD_eq_getElem?_getD, hz']; rfl
end
end Go.Proofs.YtapppahniablmaaDoor
