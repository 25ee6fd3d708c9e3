/- Rows over arguments of plain values: the arguments opened, the reading behind the call. -/
import Derived.Test.YthmdmbpecgakkaaDoorRows
import Derived.Test.YthmdmbpecgakkaaDoorSpec
import Derived.ProofKit
import Derived.OpenShut
import Derived.Carry
import Derived.LaidMore
import Derived.Lay
import Derived.SevenTiedAt
import Derived.Stop.Joined
namespace Go.Proofs.YthmdmbpecgakkaaDoor
open Go.ChangeShapes Go.WideShapes Go.ChangeAt Go.RowKit
set_option maxRecDepth 100000

theorem own : ownKnob Tryd.prog.godebug = none := by kernel_rfl
theorem laidOut : laidOutB Tryd.prog = true := by kernel_rfl

section
variable {H : Type} {enc : TypeId × Value → H}
theorem trodAll_stays {W W' : World} (hb : Below W.heap.size W W') {sp : Nat → Bool} : ∀ {ts : List TypeId} {vs : List Value} {ds : List (DataW H)} {ps : List MemPlace}, DataW.TrodAll enc Tryd.prog W 0 (fun _ => true) true ts vs ds ps →
  (∀ t ∈ ts, Tryd.prog.readableRec t = true ∧ t < Tryd.prog.types.size) → (∀ x ∈ ps, x.block < W.heap.size) → (∀ x ∈ ps, sp x.block = true) → DataW.TrodAll enc Tryd.prog W' 0 sp true ts vs ds ps
 | [], [], [], _, h, _, _, _ => h
 | t :: ts, v :: vs, d :: ds, ps, h, ht, hlt, hsp => by
  obtain ⟨p, q, h1, h2, rfl⟩ := h
  refine ⟨p, q, WideElems.Trod_stays laidOut (ht t List.mem_cons_self).1 (ht t List.mem_cons_self).2 h1 (fun x hx => hb.same (hlt x (List.mem_append_left _ hx))) (fun x hx => hsp x (List.mem_append_left _ hx)), ?_, rfl⟩
  exact trodAll_stays hb h2 (fun t ht' => ht t (List.mem_cons_of_mem _ ht')) (fun x hx => hlt x (List.mem_append_right _ hx)) (fun x hx => hsp x (List.mem_append_right _ hx))
 | [], _ :: _, _, _, h, _, _, _ => h.elim
 | [], [], _ :: _, _, h, _, _, _ => h.elim
 | _ :: _, [], _, _, h, _, _, _ => by cases ‹List (DataW H)› <;> exact h.elim
 | _ :: _, _ :: _, [], _, h, _, _, _ => h.elim

variable {w : World} {base : Nat} {sp : Nat → Bool} {held : Bool}
theorem cells_int {t : TypeId} (ht : Tryd.prog.underlying t = some (.int .i64)) {fuel : Nat} {c : Value} {x : DataW H × List MemPlace} (h : DataW.trod enc Tryd.prog w base sp held fuel t [c] = some x) : ∃ z, c = .int .i64 z ∧ IR z := by
 obtain ⟨z, e, _, hw⟩ := DataW.trod_int ht h
 have := bounds_i64 hw
 exact ⟨z, by simpa using e, this⟩
theorem u3 : Tryd.prog.underlying 3 = some (.int .i64) := by kernel_rfl
theorem trod_elems {t e : TypeId} {n k : Nat} (ht : Tryd.prog.underlying t = some (.array n e)) (hk : Tryd.prog.cellsOf e = k) {fuel : Nat} {l : List Value} {x : DataW H × List MemPlace} (h : DataW.trod enc Tryd.prog w base sp held fuel t l = some x) :
  l.length = Tryd.prog.cellsOf t ∧ ∀ i, i < n → ∃ m y, DataW.trod enc Tryd.prog w base sp held m e ((l.drop (i * k)).take k) = some y := by
 obtain ⟨xs, m, _, _, hl, hn, hf⟩ := DataW.trod_array ht h
 refine ⟨hl, fun i hi => ?_⟩
 have := hf i hi
 rw [hk] at this
 exact ⟨m, xs[i]'(by omega), this.trans (List.getElem?_eq_getElem (by omega))⟩
theorem okWide_array {t e : TypeId} {n : Nat} (ht : Tryd.prog.underlying t = some (.array n e)) {b0 : Nat} {v : Value} (h : Value.okWide Tryd.prog w .any b0 t v) : ∃ cs : Array Value, v = .agg cs := by
 unfold Value.okWide at h
 rw [ht] at h
 obtain ⟨cs, e, _⟩ := h
 exact ⟨cs, e⟩
theorem cz_int : Tryd.prog.cellsOf 3 = 1 := by kernel_rfl
theorem open_int {b0 : Nat} {v : Value} {d : DataW H} {ps : List MemPlace} (hval : Value.okWide Tryd.prog w .any b0 3 v) (hd : DataW.Trod enc Tryd.prog w base sp held 3 v d ps) : ∃ x : Int, v = .int .i64 x ∧ IR x := by
 obtain ⟨x, rfl⟩ := okWide_int u3 hval
 obtain ⟨fuel, h⟩ := hd
 obtain ⟨y, e, hy⟩ := cells_int u3 h
 refine ⟨x, rfl, ?_⟩
 simp only [Value.int.injEq, true_and] at e
 rw [e]; exact hy
theorem cz_api_Point : Tryd.prog.cellsOf 23 = 3 := by kernel_rfl
theorem cells_api_Point {fuel : Nat} {l : List Value} {x : DataW H × List MemPlace} (h : DataW.trod enc Tryd.prog w base sp held fuel 23 l = some x) : ∃ (v0 v1 v2 : Int), l = [.int .i64 v0, .int .i64 v1, .int .i64 v2] ∧ IR v0 ∧ IR v1 ∧ IR v2 := by
 obtain ⟨xs, n, _, _, hl, hn, hf⟩ := DataW.trod_struct Tryd.underlying23 h
 rw [cz_api_Point] at hl
 match l, hl with
 | [a0, a1, a2], _ =>
  have hn : xs.length = 3 := hn
  match xs, hn with
  | [y0, y1, y2], _ =>
   have g0 := hf 0 _ rfl
   have h0 : DataW.trod enc Tryd.prog w base sp held n 3 (([a0, a1, a2].drop 0).take (Tryd.prog.cellsOf 3)) = some y0 := g0
   rw [cz_int] at h0
   change DataW.trod enc Tryd.prog w base sp held n 3 [a0] = some y0 at h0
   have g1 := hf 1 _ rfl
   have h1 : DataW.trod enc Tryd.prog w base sp held n 3 (([a0, a1, a2].drop 1).take (Tryd.prog.cellsOf 3)) = some y1 := g1
   rw [cz_int] at h1
   change DataW.trod enc Tryd.prog w base sp held n 3 [a1] = some y1 at h1
   have g2 := hf 2 _ rfl
   have h2 : DataW.trod enc Tryd.prog w base sp held n 3 (([a0, a1, a2].drop 2).take (Tryd.prog.cellsOf 3)) = some y2 := g2
   rw [cz_int] at h2
   change DataW.trod enc Tryd.prog w base sp held n 3 [a2] = some y2 at h2
   obtain ⟨v0, rfl, k0⟩ := cells_int u3 h0
   obtain ⟨v1, rfl, k1⟩ := cells_int u3 h1
   obtain ⟨v2, rfl, k2⟩ := cells_int u3 h2
   exact ⟨v0, v1, v2, rfl, k0, k1, k2⟩
theorem open_api_Point {b0 : Nat} {v : Value} {d : DataW H} {ps : List MemPlace} (hval : Value.okWide Tryd.prog w .any b0 23 v) (hd : DataW.Trod enc Tryd.prog w base sp held 23 v d ps) : ∃ (v0 v1 v2 : Int), v = .agg #[.int .i64 v0, .int .i64 v1, .int .i64 v2] ∧ IR v0 ∧ IR v1 ∧ IR v2 := by
 obtain ⟨cs, rfl, _⟩ := okWide_struct Tryd.underlying23 hval
 obtain ⟨fuel, h⟩ := hd
 obtain ⟨v0, v1, v2, e, hh⟩ := cells_api_Point h
 refine ⟨v0, v1, v2, ?_, hh⟩
 have e : cs.toList = [.int .i64 v0, .int .i64 v1, .int .i64 v2] := e
 rw [← Array.toArray_toList (xs := cs), e]
theorem cz_api_View : Tryd.prog.cellsOf 25 = 5 := by kernel_rfl
theorem cells_api_View {fuel : Nat} {l : List Value} {x : DataW H × List MemPlace} (h : DataW.trod enc Tryd.prog w base sp held fuel 25 l = some x) : ∃ (v0 v1 v2 v3 v4 : Int), l = [.int .i64 v0, .int .i64 v1, .int .i64 v2, .int .i64 v3, .int .i64 v4] ∧ IR v0 ∧ IR v1 ∧ IR v2 ∧ IR v3 ∧ IR v4 := by
 obtain ⟨xs, n, _, _, hl, hn, hf⟩ := DataW.trod_struct Tryd.underlying25 h
 rw [cz_api_View] at hl
 match l, hl with
 | [a0, a1, a2, a3, a4], _ =>
  have hn : xs.length = 3 := hn
  match xs, hn with
  | [y0, y1, y2], _ =>
   have g0 := hf 0 _ rfl
   have h0 : DataW.trod enc Tryd.prog w base sp held n 23 (([a0, a1, a2, a3, a4].drop 0).take (Tryd.prog.cellsOf 23)) = some y0 := g0
   rw [cz_api_Point] at h0
   change DataW.trod enc Tryd.prog w base sp held n 23 [a0, a1, a2] = some y0 at h0
   have g1 := hf 1 _ rfl
   have h1 : DataW.trod enc Tryd.prog w base sp held n 3 (([a0, a1, a2, a3, a4].drop 3).take (Tryd.prog.cellsOf 3)) = some y1 := g1
   rw [cz_int] at h1
   change DataW.trod enc Tryd.prog w base sp held n 3 [a3] = some y1 at h1
   have g2 := hf 2 _ rfl
   have h2 : DataW.trod enc Tryd.prog w base sp held n 3 (([a0, a1, a2, a3, a4].drop 4).take (Tryd.prog.cellsOf 3)) = some y2 := g2
   rw [cz_int] at h2
   change DataW.trod enc Tryd.prog w base sp held n 3 [a4] = some y2 at h2
   obtain ⟨v0, v1, v2, e0, k0, k1, k2⟩ := cells_api_Point h0
   obtain ⟨rfl,rfl,rfl⟩ : a0 = .int .i64 v0 ∧ a1 = .int .i64 v1 ∧ a2 = .int .i64 v2 := by simpa using e0
   obtain ⟨v3, rfl, k3⟩ := cells_int u3 h1
   obtain ⟨v4, rfl, k4⟩ := cells_int u3 h2
   exact ⟨v0, v1, v2, v3, v4, rfl, k0, k1, k2, k3, k4⟩
theorem open_api_View {b0 : Nat} {v : Value} {d : DataW H} {ps : List MemPlace} (hval : Value.okWide Tryd.prog w .any b0 25 v) (hd : DataW.Trod enc Tryd.prog w base sp held 25 v d ps) : ∃ (v0 v1 v2 v3 v4 : Int), v = .agg #[.int .i64 v0, .int .i64 v1, .int .i64 v2, .int .i64 v3, .int .i64 v4] ∧ IR v0 ∧ IR v1 ∧ IR v2 ∧ IR v3 ∧ IR v4 := by
 obtain ⟨cs, rfl, _⟩ := okWide_struct Tryd.underlying25 hval
 obtain ⟨fuel, h⟩ := hd
 obtain ⟨v0, v1, v2, v3, v4, e, hh⟩ := cells_api_View h
 refine ⟨v0, v1, v2, v3, v4, ?_, hh⟩
 have e : cs.toList = [.int .i64 v0, .int .i64 v1, .int .i64 v2, .int .i64 v3, .int .i64 v4] := e
 rw [← Array.toArray_toList (xs := cs), e]
theorem cz__2_api_Point : Tryd.prog.cellsOf 26 = 6 := by kernel_rfl
theorem cells__2_api_Point {fuel : Nat} {l : List Value} {x : DataW H × List MemPlace} (h : DataW.trod enc Tryd.prog w base sp held fuel 26 l = some x) : ∃ (v0 v1 v2 v3 v4 v5 : Int), l = [.int .i64 v0, .int .i64 v1, .int .i64 v2, .int .i64 v3, .int .i64 v4, .int .i64 v5] ∧ IR v0 ∧ IR v1 ∧ IR v2 ∧ IR v3 ∧ IR v4 ∧ IR v5 := by
 obtain ⟨hl, hf⟩ := trod_elems Tryd.underlying26 cz_api_Point h
 rw [cz__2_api_Point] at hl
 clear h
 match l, hl with
 | [a0, a1, a2, a3, a4, a5], _ =>
   obtain ⟨m0, y0, h0⟩ := hf 0 (by decide)
   change DataW.trod enc Tryd.prog w base sp held m0 23 [a0, a1, a2] = some y0 at h0
   obtain ⟨m1, y1, h1⟩ := hf 1 (by decide)
   change DataW.trod enc Tryd.prog w base sp held m1 23 [a3, a4, a5] = some y1 at h1
   obtain ⟨v0, v1, v2, e0, k0, k1, k2⟩ := cells_api_Point h0
   obtain ⟨rfl,rfl,rfl⟩ : a0 = .int .i64 v0 ∧ a1 = .int .i64 v1 ∧ a2 = .int .i64 v2 := by simpa using e0
   obtain ⟨v3, v4, v5, e1, k3, k4, k5⟩ := cells_api_Point h1
   obtain ⟨rfl,rfl,rfl⟩ : a3 = .int .i64 v3 ∧ a4 = .int .i64 v4 ∧ a5 = .int .i64 v5 := by simpa using e1
   exact ⟨v0, v1, v2, v3, v4, v5, rfl, k0, k1, k2, k3, k4, k5⟩
theorem open__2_api_Point {b0 : Nat} {v : Value} {d : DataW H} {ps : List MemPlace} (hval : Value.okWide Tryd.prog w .any b0 26 v) (hd : DataW.Trod enc Tryd.prog w base sp held 26 v d ps) : ∃ (v0 v1 v2 v3 v4 v5 : Int), v = .agg #[.int .i64 v0, .int .i64 v1, .int .i64 v2, .int .i64 v3, .int .i64 v4, .int .i64 v5] ∧ IR v0 ∧ IR v1 ∧ IR v2 ∧ IR v3 ∧ IR v4 ∧ IR v5 := by
 obtain ⟨cs, rfl⟩ := okWide_array Tryd.underlying26 hval
 obtain ⟨fuel, h⟩ := hd
 obtain ⟨v0, v1, v2, v3, v4, v5, e, hh⟩ := cells__2_api_Point h
 refine ⟨v0, v1, v2, v3, v4, v5, ?_, hh⟩
 have e : cs.toList = [.int .i64 v0, .int .i64 v1, .int .i64 v2, .int .i64 v3, .int .i64 v4, .int .i64 v5] := e
 rw [← Array.toArray_toList (xs := cs), e]
theorem cz__4_int : Tryd.prog.cellsOf 30 = 4 := by kernel_rfl
theorem cells__4_int {fuel : Nat} {l : List Value} {x : DataW H × List MemPlace} (h : DataW.trod enc Tryd.prog w base sp held fuel 30 l = some x) : ∃ (v0 v1 v2 v3 : Int), l = [.int .i64 v0, .int .i64 v1, .int .i64 v2, .int .i64 v3] ∧ IR v0 ∧ IR v1 ∧ IR v2 ∧ IR v3 := by
 obtain ⟨hl, hf⟩ := trod_elems Tryd.underlying30 cz_int h
 rw [cz__4_int] at hl
 clear h
 match l, hl with
 | [a0, a1, a2, a3], _ =>
   obtain ⟨m0, y0, h0⟩ := hf 0 (by decide)
   change DataW.trod enc Tryd.prog w base sp held m0 3 [a0] = some y0 at h0
   obtain ⟨m1, y1, h1⟩ := hf 1 (by decide)
   change DataW.trod enc Tryd.prog w base sp held m1 3 [a1] = some y1 at h1
   obtain ⟨m2, y2, h2⟩ := hf 2 (by decide)
   change DataW.trod enc Tryd.prog w base sp held m2 3 [a2] = some y2 at h2
   obtain ⟨m3, y3, h3⟩ := hf 3 (by decide)
   change DataW.trod enc Tryd.prog w base sp held m3 3 [a3] = some y3 at h3
   obtain ⟨v0, rfl, k0⟩ := cells_int u3 h0
   obtain ⟨v1, rfl, k1⟩ := cells_int u3 h1
   obtain ⟨v2, rfl, k2⟩ := cells_int u3 h2
   obtain ⟨v3, rfl, k3⟩ := cells_int u3 h3
   exact ⟨v0, v1, v2, v3, rfl, k0, k1, k2, k3⟩
theorem open__4_int {b0 : Nat} {v : Value} {d : DataW H} {ps : List MemPlace} (hval : Value.okWide Tryd.prog w .any b0 30 v) (hd : DataW.Trod enc Tryd.prog w base sp held 30 v d ps) : ∃ (v0 v1 v2 v3 : Int), v = .agg #[.int .i64 v0, .int .i64 v1, .int .i64 v2, .int .i64 v3] ∧ IR v0 ∧ IR v1 ∧ IR v2 ∧ IR v3 := by
 obtain ⟨cs, rfl⟩ := okWide_array Tryd.underlying30 hval
 obtain ⟨fuel, h⟩ := hd
 obtain ⟨v0, v1, v2, v3, e, hh⟩ := cells__4_int h
 refine ⟨v0, v1, v2, v3, ?_, hh⟩
 have e : cs.toList = [.int .i64 v0, .int .i64 v1, .int .i64 v2, .int .i64 v3] := e
 rw [← Array.toArray_toList (xs := cs), e]
theorem cz__5_int : Tryd.prog.cellsOf 33 = 5 := by kernel_rfl
theorem cells__5_int {fuel : Nat} {l : List Value} {x : DataW H × List MemPlace} (h : DataW.trod enc Tryd.prog w base sp held fuel 33 l = some x) : ∃ (v0 v1 v2 v3 v4 : Int), l = [.int .i64 v0, .int .i64 v1, .int .i64 v2, .int .i64 v3, .int .i64 v4] ∧ IR v0 ∧ IR v1 ∧ IR v2 ∧ IR v3 ∧ IR v4 := by
 obtain ⟨hl, hf⟩ := trod_elems Tryd.underlying33 cz_int h
 rw [cz__5_int] at hl
 clear h
 match l, hl with
 | [a0, a1, a2, a3, a4], _ =>
   obtain ⟨m0, y0, h0⟩ := hf 0 (by decide)
   change DataW.trod enc Tryd.prog w base sp held m0 3 [a0] = some y0 at h0
   obtain ⟨m1, y1, h1⟩ := hf 1 (by decide)
   change DataW.trod enc Tryd.prog w base sp held m1 3 [a1] = some y1 at h1
   obtain ⟨m2, y2, h2⟩ := hf 2 (by decide)
   change DataW.trod enc Tryd.prog w base sp held m2 3 [a2] = some y2 at h2
   obtain ⟨m3, y3, h3⟩ := hf 3 (by decide)
   change DataW.trod enc Tryd.prog w base sp held m3 3 [a3] = some y3 at h3
   obtain ⟨m4, y4, h4⟩ := hf 4 (by decide)
   change DataW.trod enc Tryd.prog w base sp held m4 3 [a4] = some y4 at h4
   obtain ⟨v0, rfl, k0⟩ := cells_int u3 h0
   obtain ⟨v1, rfl, k1⟩ := cells_int u3 h1
   obtain ⟨v2, rfl, k2⟩ := cells_int u3 h2
   obtain ⟨v3, rfl, k3⟩ := cells_int u3 h3
   obtain ⟨v4, rfl, k4⟩ := cells_int u3 h4
   exact ⟨v0, v1, v2, v3, v4, rfl, k0, k1, k2, k3, k4⟩
theorem open__5_int {b0 : Nat} {v : Value} {d : DataW H} {ps : List MemPlace} (hval : Value.okWide Tryd.prog w .any b0 33 v) (hd : DataW.Trod enc Tryd.prog w base sp held 33 v d ps) : ∃ (v0 v1 v2 v3 v4 : Int), v = .agg #[.int .i64 v0, .int .i64 v1, .int .i64 v2, .int .i64 v3, .int .i64 v4] ∧ IR v0 ∧ IR v1 ∧ IR v2 ∧ IR v3 ∧ IR v4 := by
 obtain ⟨cs, rfl⟩ := okWide_array Tryd.underlying33 hval
 obtain ⟨fuel, h⟩ := hd
 obtain ⟨v0, v1, v2, v3, v4, e, hh⟩ := cells__5_int h
 refine ⟨v0, v1, v2, v3, v4, ?_, hh⟩
 have e : cs.toList = [.int .i64 v0, .int .i64 v1, .int .i64 v2, .int .i64 v3, .int .i64 v4] := e
 rw [← Array.toArray_toList (xs := cs), e]
theorem uz_u8 : Tryd.prog.underlying 5 = some (.int .u8) := by kernel_rfl
theorem cz_uint8 : Tryd.prog.cellsOf 5 = 1 := by kernel_rfl
theorem cells_u8 {fuel : Nat} {c : Value} {x : DataW H × List MemPlace} (h : DataW.trod enc Tryd.prog w base sp held fuel 5 [c] = some x) : ∃ z, c = .int .u8 z ∧ 0 ≤ z ∧ z < 256 := by
 obtain ⟨z, e, _, hw⟩ := DataW.trod_int uz_u8 h
 have hw : (0 : Int) ≤ z ∧ z ≤ 255 := by simpa [Lit.wf, IntKind.min, IntKind.max, IntKind.signed, IntKind.bits] using hw
 exact ⟨z, by simpa using e, hw.1, by omega⟩
theorem open_u8 {b0 : Nat} {v : Value} {d : DataW H} {ps : List MemPlace} (hval : Value.okWide Tryd.prog w .any b0 5 v) (hd : DataW.Trod enc Tryd.prog w base sp held 5 v d ps) : ∃ x : Int, v = .int .u8 x ∧ 0 ≤ x ∧ x < 256 := by
 obtain ⟨x, rfl⟩ := okWide_int uz_u8 hval
 obtain ⟨fuel, h⟩ := hd
 obtain ⟨y, e, hy⟩ := cells_u8 h
 refine ⟨x, rfl, ?_⟩
 simp only [Value.int.injEq, true_and] at e
 rw [e]; exact hy
theorem cz__4_uint8 : Tryd.prog.cellsOf 34 = 4 := by kernel_rfl
theorem cells__4_uint8 {fuel : Nat} {l : List Value} {x : DataW H × List MemPlace} (h : DataW.trod enc Tryd.prog w base sp held fuel 34 l = some x) : ∃ (v0 v1 v2 v3 : Int), l = [.int .u8 v0, .int .u8 v1, .int .u8 v2, .int .u8 v3] ∧ (0 ≤ v0 ∧ v0 < 256) ∧ (0 ≤ v1 ∧ v1 < 256) ∧ (0 ≤ v2 ∧ v2 < 256) ∧ (0 ≤ v3 ∧ v3 < 256) := by
 obtain ⟨hl, hf⟩ := trod_elems Tryd.underlying34 cz_uint8 h
 rw [cz__4_uint8] at hl
 clear h
 match l, hl with
 | [a0, a1, a2, a3], _ =>
   obtain ⟨m0, y0, h0⟩ := hf 0 (by decide)
   change DataW.trod enc Tryd.prog w base sp held m0 5 [a0] = some y0 at h0
   obtain ⟨m1, y1, h1⟩ := hf 1 (by decide)
   change DataW.trod enc Tryd.prog w base sp held m1 5 [a1] = some y1 at h1
   obtain ⟨m2, y2, h2⟩ := hf 2 (by decide)
   change DataW.trod enc Tryd.prog w base sp held m2 5 [a2] = some y2 at h2
   obtain ⟨m3, y3, h3⟩ := hf 3 (by decide)
   change DataW.trod enc Tryd.prog w base sp held m3 5 [a3] = some y3 at h3
   obtain ⟨v0, rfl, k0⟩ := cells_u8 h0
   obtain ⟨v1, rfl, k1⟩ := cells_u8 h1
   obtain ⟨v2, rfl, k2⟩ := cells_u8 h2
   obtain ⟨v3, rfl, k3⟩ := cells_u8 h3
   exact ⟨v0, v1, v2, v3, rfl, k0, k1, k2, k3⟩
theorem open__4_uint8 {b0 : Nat} {v : Value} {d : DataW H} {ps : List MemPlace} (hval : Value.okWide Tryd.prog w .any b0 34 v) (hd : DataW.Trod enc Tryd.prog w base sp held 34 v d ps) : ∃ (v0 v1 v2 v3 : Int), v = .agg #[.int .u8 v0, .int .u8 v1, .int .u8 v2, .int .u8 v3] ∧ (0 ≤ v0 ∧ v0 < 256) ∧ (0 ≤ v1 ∧ v1 < 256) ∧ (0 ≤ v2 ∧ v2 < 256) ∧ (0 ≤ v3 ∧ v3 < 256) := by
 obtain ⟨cs, rfl⟩ := okWide_array Tryd.underlying34 hval
 obtain ⟨fuel, h⟩ := hd
 obtain ⟨v0, v1, v2, v3, e, hh⟩ := cells__4_uint8 h
 refine ⟨v0, v1, v2, v3, ?_, hh⟩
 have e : cs.toList = [.int .u8 v0, .int .u8 v1, .int .u8 v2, .int .u8 v3] := e
 rw [← Array.toArray_toList (xs := cs), e]
end
end Go.Proofs.YthmdmbpecgakkaaDoor
