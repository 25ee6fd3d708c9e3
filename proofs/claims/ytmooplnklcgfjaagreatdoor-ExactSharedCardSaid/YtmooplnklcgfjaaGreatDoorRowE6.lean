/- Rows over arguments of plain values: the arguments opened, the reading behind the call. -/
import Derived.Test.YtmooplnklcgfjaaGreatDoorRows
import Derived.Test.YtmooplnklcgfjaaGreatDoorSpec
import Derived.ProofKit
import Derived.OpenShut
import Derived.Carry
import Derived.LaidMore
import Derived.Lay
import Derived.SevenTiedAt
import Derived.Stop.Joined
namespace Go.Proofs.YtmooplnklcgfjaaGreatDoor
open Go.ChangeShapes Go.WideShapes Go.ChangeAt Go.RowKit
set_option maxRecDepth 100000

theorem own : ownKnob Tryz.prog.godebug = none := by kernel_rfl
theorem laidOut : laidOutB Tryz.prog = true := by kernel_rfl

section
variable {H : Type} {enc : TypeId × Value → H}
theorem trodAll_stays {W W' : World} (hb : Below W.heap.size W W') {sp : Nat → Bool} : ∀ {ts : List TypeId} {vs : List Value} {ds : List (DataW H)} {ps : List MemPlace}, DataW.TrodAll enc Tryz.prog W 0 (fun _ => true) true ts vs ds ps →
    (∀ t ∈ ts, Tryz.prog.readableRec t = true ∧ t < Tryz.prog.types.size) → (∀ x ∈ ps, x.block < W.heap.size) → (∀ x ∈ ps, sp x.block = true) → DataW.TrodAll enc Tryz.prog W' 0 sp true ts vs ds ps
  | [], [], [], _, h, _, _, _ => h
  | t :: ts, v :: vs, d :: ds, ps, h, ht, hlt, hsp => by
    obtain ⟨p, q, h1, h2, rfl⟩ := h
    refine ⟨p, q, WideElems.Trod_stays laidOut (ht t List.mem_cons_self).1 (ht t List.mem_cons_self).2 h1 (fun x hx => hb.same (hlt x (List.mem_append_left _ hx))) (fun x hx => hsp x (List.mem_append_left _ hx)), ?_, rfl⟩
    exact trodAll_stays hb h2 (fun t ht' => ht t (List.mem_cons_of_mem _ ht')) (fun x hx => hlt x (List.mem_append_right _ hx)) (fun x hx => hsp x (List.mem_append_right _ hx))
  | [], _ :: _, _, _, h, _, _, _ => h.elim
  | [], [], _ :: _, _, h, _, _, _ => h.elim
  | _ :: _, [], _, _, h, _, _, _ => by cases ‹List (DataW H)› <;> exact h.elim
  | _ :: _, _ :: _, [], _, h, _, _, _ => h.elim

variable {w : World} {base : Nat} {sp : Nat → Bool} {held : Bool}
theorem cells_int {t : TypeId} (ht : Tryz.prog.underlying t = some (.int .i64)) {fuel : Nat} {c : Value} {x : DataW H × List MemPlace} (h : DataW.trod enc Tryz.prog w base sp held fuel t [c] = some x) : ∃ z, c = .int .i64 z ∧ IR z := by
  obtain ⟨z, e, _, hw⟩ := DataW.trod_int ht h
  have := bounds_i64 hw
  exact ⟨z, by simpa using e, this⟩
theorem u3 : Tryz.prog.underlying 3 = some (.int .i64) := by kernel_rfl
theorem trod_elems {t e : TypeId} {n k : Nat} (ht : Tryz.prog.underlying t = some (.array n e)) (hk : Tryz.prog.cellsOf e = k) {fuel : Nat} {l : List Value} {x : DataW H × List MemPlace} (h : DataW.trod enc Tryz.prog w base sp held fuel t l = some x) :
    l.length = Tryz.prog.cellsOf t ∧ ∀ i, i < n → ∃ m y, DataW.trod enc Tryz.prog w base sp held m e ((l.drop (i * k)).take k) = some y := by
  obtain ⟨xs, m, _, _, hl, hn, hf⟩ := DataW.trod_array ht h
  refine ⟨hl, fun i hi => ?_⟩
  have := hf i hi
  rw [hk] at this
  exact ⟨m, xs[i]'(by omega), this.trans (List.getElem?_eq_getElem (by omega))⟩
theorem okWide_array {t e : TypeId} {n : Nat} (ht : Tryz.prog.underlying t = some (.array n e)) {b0 : Nat} {v : Value} (h : Value.okWide Tryz.prog w .any b0 t v) : ∃ cs : Array Value, v = .agg cs := by
  unfold Value.okWide at h
  rw [ht] at h
  obtain ⟨cs, e, _⟩ := h
  exact ⟨cs, e⟩
theorem cz_int : Tryz.prog.cellsOf 3 = 1 := by kernel_rfl
theorem open_int {b0 : Nat} {v : Value} {d : DataW H} {ps : List MemPlace} (hval : Value.okWide Tryz.prog w .any b0 3 v) (hd : DataW.Trod enc Tryz.prog w base sp held 3 v d ps) : ∃ x : Int, v = .int .i64 x ∧ IR x := by
  obtain ⟨x, rfl⟩ := okWide_int u3 hval
  obtain ⟨fuel, h⟩ := hd
  obtain ⟨y, e, hy⟩ := cells_int u3 h
  refine ⟨x, rfl, ?_⟩
  simp only [Value.int.injEq, true_and] at e
  rw [e]; exact hy
theorem cz__9_int : Tryz.prog.cellsOf 22 = 9 := by kernel_rfl
theorem cells__9_int {fuel : Nat} {l : List Value} {x : DataW H × List MemPlace} (h : DataW.trod enc Tryz.prog w base sp held fuel 22 l = some x) : ∃ (v0 v1 v2 v3 v4 v5 v6 v7 v8 : Int), l = [.int .i64 v0, .int .i64 v1, .int .i64 v2, .int .i64 v3, .int .i64 v4, .int .i64 v5, .int .i64 v6, .int .i64 v7, .int .i64 v8] ∧ IR v0 ∧ IR v1 ∧ IR v2 ∧ IR v3 ∧ IR v4 ∧ IR v5 ∧ IR v6 ∧ IR v7 ∧ IR v8 := by
  obtain ⟨hl, hf⟩ := trod_elems Tryz.underlying22 cz_int h
  rw [cz__9_int] at hl
  clear h
  match l, hl with
  | [a0, a1, a2, a3, a4, a5, a6, a7, a8], _ =>
      obtain ⟨m0, y0, h0⟩ := hf 0 (by decide)
      change DataW.trod enc Tryz.prog w base sp held m0 3 [a0] = some y0 at h0
      obtain ⟨m1, y1, h1⟩ := hf 1 (by decide)
      change DataW.trod enc Tryz.prog w base sp held m1 3 [a1] = some y1 at h1
      obtain ⟨m2, y2, h2⟩ := hf 2 (by decide)
      change DataW.trod enc Tryz.prog w base sp held m2 3 [a2] = some y2 at h2
      obtain ⟨m3, y3, h3⟩ := hf 3 (by decide)
      change DataW.trod enc Tryz.prog w base sp held m3 3 [a3] = some y3 at h3
      obtain ⟨m4, y4, h4⟩ := hf 4 (by decide)
      change DataW.trod enc Tryz.prog w base sp held m4 3 [a4] = some y4 at h4
      obtain ⟨m5, y5, h5⟩ := hf 5 (by decide)
      change DataW.trod enc Tryz.prog w base sp held m5 3 [a5] = some y5 at h5
      obtain ⟨m6, y6, h6⟩ := hf 6 (by decide)
      change DataW.trod enc Tryz.prog w base sp held m6 3 [a6] = some y6 at h6
      obtain ⟨m7, y7, h7⟩ := hf 7 (by decide)
      change DataW.trod enc Tryz.prog w base sp held m7 3 [a7] = some y7 at h7
      obtain ⟨m8, y8, h8⟩ := hf 8 (by decide)
      change DataW.trod enc Tryz.prog w base sp held m8 3 [a8] = some y8 at h8
      obtain ⟨v0, rfl, k0⟩ := cells_int u3 h0
      obtain ⟨v1, rfl, k1⟩ := cells_int u3 h1
      obtain ⟨v2, rfl, k2⟩ := cells_int u3 h2
      obtain ⟨v3, rfl, k3⟩ := cells_int u3 h3
      obtain ⟨v4, rfl, k4⟩ := cells_int u3 h4
      obtain ⟨v5, rfl, k5⟩ := cells_int u3 h5
      obtain ⟨v6, rfl, k6⟩ := cells_int u3 h6
      obtain ⟨v7, rfl, k7⟩ := cells_int u3 h7
      obtain ⟨v8, rfl, k8⟩ := cells_int u3 h8
      exact ⟨v0, v1, v2, v3, v4, v5, v6, v7, v8, rfl, k0, k1, k2, k3, k4, k5, k6, k7, k8⟩
theorem open__9_int {b0 : Nat} {v : Value} {d : DataW H} {ps : List MemPlace} (hval : Value.okWide Tryz.prog w .any b0 22 v) (hd : DataW.Trod enc Tryz.prog w base sp held 22 v d ps) : ∃ (v0 v1 v2 v3 v4 v5 v6 v7 v8 : Int), v = .agg #[.int .i64 v0, .int .i64 v1, .int .i64 v2, .int .i64 v3, .int .i64 v4, .int .i64 v5, .int .i64 v6, .int .i64 v7, .int .i64 v8] ∧ IR v0 ∧ IR v1 ∧ IR v2 ∧ IR v3 ∧ IR v4 ∧ IR v5 ∧ IR v6 ∧ IR v7 ∧ IR v8 := by
  obtain ⟨cs, rfl⟩ := okWide_array Tryz.underlying22 hval
  obtain ⟨fuel, h⟩ := hd
  obtain ⟨v0, v1, v2, v3, v4, v5, v6, v7, v8, e, hh⟩ := cells__9_int h
  refine ⟨v0, v1, v2, v3, v4, v5, v6, v7, v8, ?_, hh⟩
  have e : cs.toList = [.int .i64 v0, .int .i64 v1, .int .i64 v2, .int .i64 v3, .int .i64 v4, .int .i64 v5, .int .i64 v6, .int .i64 v7, .int .i64 v8] := e
  rw [← Array.toArray_toList (xs := cs), e]
theorem cz__6_int : Tryz.prog.cellsOf 33 = 6 := by kernel_rfl
theorem cells__6_int {fuel : Nat} {l : List Value} {x : DataW H × List MemPlace} (h : DataW.trod enc Tryz.prog w base sp held fuel 33 l = some x) : ∃ (v0 v1 v2 v3 v4 v5 : Int), l = [.int .i64 v0, .int .i64 v1, .int .i64 v2, .int .i64 v3, .int .i64 v4, .int .i64 v5] ∧ IR v0 ∧ IR v1 ∧ IR v2 ∧ IR v3 ∧ IR v4 ∧ IR v5 := by
  obtain ⟨hl, hf⟩ := trod_elems Tryz.underlying33 cz_int h
  rw [cz__6_int] at hl
  clear h
  match l, hl with
  | [a0, a1, a2, a3, a4, a5], _ =>
      obtain ⟨m0, y0, h0⟩ := hf 0 (by decide)
      change DataW.trod enc Tryz.prog w base sp held m0 3 [a0] = some y0 at h0
      obtain ⟨m1, y1, h1⟩ := hf 1 (by decide)
      change DataW.trod enc Tryz.prog w base sp held m1 3 [a1] = some y1 at h1
      obtain ⟨m2, y2, h2⟩ := hf 2 (by decide)
      change DataW.trod enc Tryz.prog w base sp held m2 3 [a2] = some y2 at h2
      obtain ⟨m3, y3, h3⟩ := hf 3 (by decide)
      change DataW.trod enc Tryz.prog w base sp held m3 3 [a3] = some y3 at h3
      obtain ⟨m4, y4, h4⟩ := hf 4 (by decide)
      change DataW.trod enc Tryz.prog w base sp held m4 3 [a4] = some y4 at h4
      obtain ⟨m5, y5, h5⟩ := hf 5 (by decide)
      change DataW.trod enc Tryz.prog w base sp held m5 3 [a5] = some y5 at h5
      obtain ⟨v0, rfl, k0⟩ := cells_int u3 h0
      obtain ⟨v1, rfl, k1⟩ := cells_int u3 h1
      obtain ⟨v2, rfl, k2⟩ := cells_int u3 h2
      obtain ⟨v3, rfl, k3⟩ := cells_int u3 h3
      obtain ⟨v4, rfl, k4⟩ := cells_int u3 h4
      obtain ⟨v5, rfl, k5⟩ := cells_int u3 h5
      exact ⟨v0, v1, v2, v3, v4, v5, rfl, k0, k1, k2, k3, k4, k5⟩
theorem open__6_int {b0 : Nat} {v : Value} {d : DataW H} {ps : List MemPlace} (hval : Value.okWide Tryz.prog w .any b0 33 v) (hd : DataW.Trod enc Tryz.prog w base sp held 33 v d ps) : ∃ (v0 v1 v2 v3 v4 v5 : Int), v = .agg #[.int .i64 v0, .int .i64 v1, .int .i64 v2, .int .i64 v3, .int .i64 v4, .int .i64 v5] ∧ IR v0 ∧ IR v1 ∧ IR v2 ∧ IR v3 ∧ IR v4 ∧ IR v5 := by
  obtain ⟨cs, rfl⟩ := okWide_array Tryz.underlying33 hval
  obtain ⟨fuel, h⟩ := hd
  obtain ⟨v0, v1, v2, v3, v4, v5, e, hh⟩ := cells__6_int h
  refine ⟨v0, v1, v2, v3, v4, v5, ?_, hh⟩
  have e : cs.toList = [.int .i64 v0, .int .i64 v1, .int .i64 v2, .int .i64 v3, .int .i64 v4, .int .i64 v5] := e
  rw [← Array.toArray_toList (xs := cs), e]
theorem cz__4_int : Tryz.prog.cellsOf 34 = 4 := by kernel_rfl
theorem cells__4_int {fuel : Nat} {l : List Value} {x : DataW H × List MemPlace} (h : DataW.trod enc Tryz.prog w base sp held fuel 34 l = some x) : ∃ (v0 v1 v2 v3 : Int), l = [.int .i64 v0, .int .i64 v1, .int .i64 v2, .int .i64 v3] ∧ IR v0 ∧ IR v1 ∧ IR v2 ∧ IR v3 := by
  obtain ⟨hl, hf⟩ := trod_elems Tryz.underlying34 cz_int h
  rw [cz__4_int] at hl
  clear h
  match l, hl with
  | [a0, a1, a2, a3], _ =>
      obtain ⟨m0, y0, h0⟩ := hf 0 (by decide)
      change DataW.trod enc Tryz.prog w base sp held m0 3 [a0] = some y0 at h0
      obtain ⟨m1, y1, h1⟩ := hf 1 (by decide)
      change DataW.trod enc Tryz.prog w base sp held m1 3 [a1] = some y1 at h1
      obtain ⟨m2, y2, h2⟩ := hf 2 (by decide)
      change DataW.trod enc Tryz.prog w base sp held m2 3 [a2] = some y2 at h2
      obtain ⟨m3, y3, h3⟩ := hf 3 (by decide)
      change DataW.trod enc Tryz.prog w base sp held m3 3 [a3] = some y3 at h3
      obtain ⟨v0, rfl, k0⟩ := cells_int u3 h0
      obtain ⟨v1, rfl, k1⟩ := cells_int u3 h1
      obtain ⟨v2, rfl, k2⟩ := cells_int u3 h2
      obtain ⟨v3, rfl, k3⟩ := cells_int u3 h3
      exact ⟨v0, v1, v2, v3, rfl, k0, k1, k2, k3⟩
theorem open__4_int {b0 : Nat} {v : Value} {d : DataW H} {ps : List MemPlace} (hval : Value.okWide Tryz.prog w .any b0 34 v) (hd : DataW.Trod enc Tryz.prog w base sp held 34 v d ps) : ∃ (v0 v1 v2 v3 : Int), v = .agg #[.int .i64 v0, .int .i64 v1, .int .i64 v2, .int .i64 v3] ∧ IR v0 ∧ IR v1 ∧ IR v2 ∧ IR v3 := by
  obtain ⟨cs, rfl⟩ := okWide_array Tryz.underlying34 hval
  obtain ⟨fuel, h⟩ := hd
  obtain ⟨v0, v1, v2, v3, e, hh⟩ := cells__4_int h
  refine ⟨v0, v1, v2, v3, ?_, hh⟩
  have e : cs.toList = [.int .i64 v0, .int .i64 v1, .int .i64 v2, .int .i64 v3] := e
  rw [← Array.toArray_toList (xs := cs), e]
end
end Go.Proofs.YtmooplnklcgfjaaGreatDoor
