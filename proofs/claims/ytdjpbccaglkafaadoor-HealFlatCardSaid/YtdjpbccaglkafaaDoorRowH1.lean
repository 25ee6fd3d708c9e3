/- Rows over arguments of plain values: the arguments opened, the reading behind the call. -/
import Derived.Test.YtdjpbccaglkafaaDoorRows
import Derived.Test.YtdjpbccaglkafaaDoorSpec
import Derived.ProofKit
import Derived.OpenShut
import Derived.Carry
import Derived.LaidMore
import Derived.Lay
import Derived.SevenTiedAt
import Derived.Stop.Joined
namespace Go.Proofs.YtdjpbccaglkafaaDoor
open Go.ChangeShapes Go.WideShapes Go.ChangeAt Go.RowKit
set_option maxRecDepth 100000

theorem own : ownKnob Tryd.prog.godebug = none := by kernel_rfl
theorem laidOut : laidOutB Tryd.prog = true := by kernel_rfl

section
variable {H : Type} {enc : TypeId × Value → H}
theorem trodAll_stays {W W' : World} (hb : Below W.heap.size W W') {sp : Nat → Bool} : ∀ {ts : List TypeId} {vs : List Value} {ds : List (DataW H)} {ps : List MemPlace}, DataW.TrodAll enc Tryd.prog W 0 (fun _ => true) true ts vs ds ps →
    (∀ t ∈ ts, Tryd.prog.readableRec t = true ∧ t < Tryd.prog.types.size) → (∀ x ∈ ps, x.block < W.heap.size) → (∀ x ∈ ps, sp x.block = true) → DataW.TrodAll enc Tryd.prog W' 0 sp true ts vs ds ps
  | [], [], [], _, h, _, _, _ => h
  | t :: ts, v :: vs, d :: ds, ps, h, ht, hlt, hsp => by
    obtain ⟨p, q, h1, h2, rfl⟩ := h
    refine ⟨p, q, WideElems.Trod_stays laidOut (ht t List.mem_cons_self).1 (ht t List.mem_cons_self).2 h1 (fun x hx => hb.same (hlt x (List.mem_append_left _ hx))) (fun x hx => hsp x (List.mem_append_left _ hx)), ?_, rfl⟩
    exact trodAll_stays hb h2 (fun t ht' => ht t (List.mem_cons_of_mem _ ht')) (fun x hx => hlt x (List.mem_append_right _ hx)) (fun x hx => hsp x (List.mem_append_right _ hx))
  | [], _ :: _, _, _, h, _, _, _ => h.elim
  | [], [], _ :: _, _, h, _, _, _ => h.elim
  | _ :: _, [], _, _, h, _, _, _ => by cases ‹List (DataW H)› <;> exact h.elim
  | _ :: _, _ :: _, [], _, h, _, _, _ => h.elim

variable {w : World} {base : Nat} {sp : Nat → Bool} {held : Bool}
theorem cells_int {t : TypeId} (ht : Tryd.prog.underlying t = some (.int .i64)) {fuel : Nat} {c : Value} {x : DataW H × List MemPlace} (h : DataW.trod enc Tryd.prog w base sp held fuel t [c] = some x) : ∃ z, c = .int .i64 z ∧ IR z := by
  obtain ⟨z, e, _, hw⟩ := DataW.trod_int ht h
  have := bounds_i64 hw
  exact ⟨z, by simpa using e, this⟩
theorem u3 : Tryd.prog.underlying 3 = some (.int .i64) := by kernel_rfl
theorem trod_elems {t e : TypeId} {n k : Nat} (ht : Tryd.prog.underlying t = some (.array n e)) (hk : Tryd.prog.cellsOf e = k) {fuel : Nat} {l : List Value} {x : DataW H × List MemPlace} (h : DataW.trod enc Tryd.prog w base sp held fuel t l = some x) :
    l.length = Tryd.prog.cellsOf t ∧ ∀ i, i < n → ∃ m y, DataW.trod enc Tryd.prog w base sp held m e ((l.drop (i * k)).take k) = some y := by
  obtain ⟨xs, m, _, _, hl, hn, hf⟩ := DataW.trod_array ht h
  refine ⟨hl, fun i hi => ?_⟩
  have := hf i hi
  rw [hk] at this
  exact ⟨m, xs[i]'(by omega), this.trans (List.getElem?_eq_getElem (by omega))⟩
theorem okWide_array {t e : TypeId} {n : Nat} (ht : Tryd.prog.underlying t = some (.array n e)) {b0 : Nat} {v : Value} (h : Value.okWide Tryd.prog w .any b0 t v) : ∃ cs : Array Value, v = .agg cs := by
  unfold Value.okWide at h
  rw [ht] at h
  obtain ⟨cs, e, _⟩ := h
  exact ⟨cs, e⟩
theorem cz_int : Tryd.prog.cellsOf 3 = 1 := by kernel_rfl
theorem open_int {b0 : Nat} {v : Value} {d : DataW H} {ps : List MemPlace} (hval : Value.okWide Tryd.prog w .any b0 3 v) (hd : DataW.Trod enc Tryd.prog w base sp held 3 v d ps) : ∃ x : Int, v = .int .i64 x ∧ IR x := by
  obtain ⟨x, rfl⟩ := okWide_int u3 hval
  obtain ⟨fuel, h⟩ := hd
  obtain ⟨y, e, hy⟩ := cells_int u3 h
  refine ⟨x, rfl, ?_⟩
  simp only [Value.int.injEq, true_and] at e
  rw [e]; exact hy
theorem cz__3_int : Tryd.prog.cellsOf 52 = 3 := by kernel_rfl
theorem cells__3_int {fuel : Nat} {l : List Value} {x : DataW H × List MemPlace} (h : DataW.trod enc Tryd.prog w base sp held fuel 52 l = some x) : ∃ (v0 v1 v2 : Int), l = [.int .i64 v0, .int .i64 v1, .int .i64 v2] ∧ IR v0 ∧ IR v1 ∧ IR v2 := by
  obtain ⟨hl, hf⟩ := trod_elems Tryd.underlying52 cz_int h
  rw [cz__3_int] at hl
  clear h
  match l, hl with
  | [a0, a1, a2], _ =>
      obtain ⟨m0, y0, h0⟩ := hf 0 (by decide)
      change DataW.trod enc Tryd.prog w base sp held m0 3 [a0] = some y0 at h0
      obtain ⟨m1, y1, h1⟩ := hf 1 (by decide)
      change DataW.trod enc Tryd.prog w base sp held m1 3 [a1] = some y1 at h1
      obtain ⟨m2, y2, h2⟩ := hf 2 (by decide)
      change DataW.trod enc Tryd.prog w base sp held m2 3 [a2] = some y2 at h2
      obtain ⟨v0, rfl, k0⟩ := cells_int u3 h0
      obtain ⟨v1, rfl, k1⟩ := cells_int u3 h1
      obtain ⟨v2, rfl, k2⟩ := cells_int u3 h2
      exact ⟨v0, v1, v2, rfl, k0, k1, k2⟩
theorem open__3_int {b0 : Nat} {v : Value} {d : DataW H} {ps : List MemPlace} (hval : Value.okWide Tryd.prog w .any b0 52 v) (hd : DataW.Trod enc Tryd.prog w base sp held 52 v d ps) : ∃ (v0 v1 v2 : Int), v = .agg #[.int .i64 v0, .int .i64 v1, .int .i64 v2] ∧ IR v0 ∧ IR v1 ∧ IR v2 := by
  obtain ⟨cs, rfl⟩ := okWide_array Tryd.underlying52 hval
  obtain ⟨fuel, h⟩ := hd
  obtain ⟨v0, v1, v2, e, hh⟩ := cells__3_int h
  refine ⟨v0, v1, v2, ?_, hh⟩
  have e : cs.toList = [.int .i64 v0, .int .i64 v1, .int .i64 v2] := e
  rw [← Array.toArray_toList (xs := cs), e]
theorem cz__2_int : Tryd.prog.cellsOf 53 = 2 := by kernel_rfl
theorem cells__2_int {fuel : Nat} {l : List Value} {x : DataW H × List MemPlace} (h : DataW.trod enc Tryd.prog w base sp held fuel 53 l = some x) : ∃ (v0 v1 : Int), l = [.int .i64 v0, .int .i64 v1] ∧ IR v0 ∧ IR v1 := by
  obtain ⟨hl, hf⟩ := trod_elems Tryd.underlying53 cz_int h
  rw [cz__2_int] at hl
  clear h
  match l, hl with
  | [a0, a1], _ =>
      obtain ⟨m0, y0, h0⟩ := hf 0 (by decide)
      change DataW.trod enc Tryd.prog w base sp held m0 3 [a0] = some y0 at h0
      obtain ⟨m1, y1, h1⟩ := hf 1 (by decide)
      change DataW.trod enc Tryd.prog w base sp held m1 3 [a1] = some y1 at h1
      obtain ⟨v0, rfl, k0⟩ := cells_int u3 h0
      obtain ⟨v1, rfl, k1⟩ := cells_int u3 h1
      exact ⟨v0, v1, rfl, k0, k1⟩
theorem open__2_int {b0 : Nat} {v : Value} {d : DataW H} {ps : List MemPlace} (hval : Value.okWide Tryd.prog w .any b0 53 v) (hd : DataW.Trod enc Tryd.prog w base sp held 53 v d ps) : ∃ (v0 v1 : Int), v = .agg #[.int .i64 v0, .int .i64 v1] ∧ IR v0 ∧ IR v1 := by
  obtain ⟨cs, rfl⟩ := okWide_array Tryd.underlying53 hval
  obtain ⟨fuel, h⟩ := hd
  obtain ⟨v0, v1, e, hh⟩ := cells__2_int h
  refine ⟨v0, v1, ?_, hh⟩
  have e : cs.toList = [.int .i64 v0, .int .i64 v1] := e
  rw [← Array.toArray_toList (xs := cs), e]
end
end Go.Proofs.YtdjpbccaglkafaaDoor
