/- Rows over arguments of plain values: the arguments opened, the reading behind the call. -/
import Derived.Test.YtocbklodkcdhkaaGreatDoorRows
import Derived.Test.YtocbklodkcdhkaaGreatDoorBas
import Derived.ProofKit
import Derived.OpenShut
import Derived.Carry
import Derived.LaidMore
import Derived.Lay
import Derived.SevenTiedAt
import Derived.Stop.Joined
namespace Go.Proofs.YtocbklodkcdhkaaGreatDoor
open Go.ChangeShapes Go.WideShapes Go.ChangeAt Go.RowKit
set_option maxRecDepth 100000

theorem own : ownKnob Tryz.prog.godebug = none := by kernel_rfl
theorem laidOut : laidOutB Tryz.prog = true := by kernel_rfl

section
variable {H : Type} {enc : TypeId × Value → H}
theorem trodAll_stays {W W' : World} (hb : Below W.heap.size W W') {sp : Nat → Bool} : ∀ {ts : List TypeId} {vs : List Value} {ds : List (DataW H)} {ps : List MemPlace}, DataW.TrodAll enc Tryz.prog W 0 (fun _ => true) true ts vs ds ps →
  (∀ t ∈ ts, Tryz.prog.readableRec t = true ∧ t < Tryz.prog.types.size) → (∀ x ∈ ps, x.block < W.heap.size) → (∀ x ∈ ps, sp x.block = true) → DataW.TrodAll enc Tryz.prog W' 0 sp true ts vs ds ps
 | [], [], [], _, h, _, _, _ => h
 | t :: ts, v :: vs, d :: ds, ps, h, ht, hlt, hsp => by
  obtain ⟨p, q, h1, h2, rfl⟩ := h
  refine ⟨p, q, WideElems.Trod_stays laidOut (ht t List.mem_cons_self).1 (ht t List.mem_cons_self).2 h1 (fun x hx => hb.same (hlt x (List.mem_append_left _ hx))) (fun x hx => hsp x (List.mem_append_left _ hx)), ?_, rfl⟩
  exact trodAll_stays hb h2 (fun t ht' => ht t (List.mem_cons_of_mem _ ht')) (fun x hx => hlt x (List.mem_append_right _ hx)) (fun x hx => hsp x (List.mem_append_right _ hx))
 | [], _ :: _, _, _, h, _, _, _ => h.elim
 | [], [], _ :: _, _, h, _, _, _ => h.elim
 | _ :: _, [], _, _, h, _, _, _ => by cases ‹List (DataW H)› <;> exact h.elim
 | _ :: _, _ :: _, [], _, h, _, _, _ => h.elim

variable {w : World} {base : Nat} {sp : Nat → Bool} {held : Bool}
theorem cells_int {t : TypeId} (ht : Tryz.prog.underlying t = some (.int .i64)) {fuel : Nat} {c : Value} {x : DataW H × List MemPlace} (h : DataW.trod enc Tryz.prog w base sp held fuel t [c] = some x) : ∃ z, c = .int .i64 z ∧ IR z := by
 obtain ⟨z, e, _, hw⟩ := DataW.trod_int ht h
 have := bounds_i64 hw
 exact ⟨z, by simpa using e, this⟩
theorem u3 : Tryz.prog.underlying 3 = some (.int .i64) := by kernel_rfl
theorem trod_elems {t e : TypeId} {n k : Nat} (ht : Tryz.prog.underlying t = some (.array n e)) (hk : Tryz.prog.cellsOf e = k) {fuel : Nat} {l : List Value} {x : DataW H × List MemPlace} (h : DataW.trod enc Tryz.prog w base sp held fuel t l = some x) :
  l.length = Tryz.prog.cellsOf t ∧ ∀ i, i < n → ∃ m y, DataW.trod enc Tryz.prog w base sp held m e ((l.drop (i * k)).take k) = some y := by
 obtain ⟨xs, m, _, _, hl, hn, hf⟩ := DataW.trod_array ht h
 refine ⟨hl, fun i hi => ?_⟩
 have := hf i hi
 rw [hk] at this
 exact ⟨m, xs[i]'(by omega), this.trans (List.getElem?_eq_getElem (by omega))⟩
theorem okWide_array {t e : TypeId} {n : Nat} (ht : Tryz.prog.underlying t = some (.array n e)) {b0 : Nat} {v : Value} (h : Value.okWide Tryz.prog w .any b0 t v) : ∃ cs : Array Value, v = .agg cs := by
 unfold Value.okWide at h
 rw [ht] at h
 obtain ⟨cs, e, _⟩ := h
 exact ⟨cs, e⟩
theorem cz_int : Tryz.prog.cellsOf 3 = 1 := by kernel_rfl
theorem uz_u32 : Tryz.prog.underlying 25 = some (.int .u32) := by kernel_rfl
theorem cells_u32 {fuel : Nat} {c : Value} {x : DataW H × List MemPlace} (h : DataW.trod enc Tryz.prog w base sp held fuel 25 [c] = some x) : ∃ z, c = .int .u32 z ∧ 0 ≤ z ∧ z < 4294967296 := by
 obtain ⟨z, e, _, hw⟩ := DataW.trod_int uz_u32 h
 have hw : (0 : Int) ≤ z ∧ z ≤ 4294967295 := by simpa [Lit.wf, IntKind.min, IntKind.max, IntKind.signed, IntKind.bits] using hw
 exact ⟨z, by simpa using e, hw.1, by omega⟩
theorem open_u32 {b0 : Nat} {v : Value} {d : DataW H} {ps : List MemPlace} (hval : Value.okWide Tryz.prog w .any b0 25 v) (hd : DataW.Trod enc Tryz.prog w base sp held 25 v d ps) : ∃ x : Int, v = .int .u32 x ∧ 0 ≤ x ∧ x < 4294967296 := by
 obtain ⟨x, rfl⟩ := okWide_int uz_u32 hval
 obtain ⟨fuel, h⟩ := hd
 obtain ⟨y, e, hy⟩ := cells_u32 h
 refine ⟨x, rfl, ?_⟩
 simp only [Value.int.injEq, true_and] at e
 rw [e]; exact hy
theorem cz__3_int : Tryz.prog.cellsOf 22 = 3 := by kernel_rfl
theorem cells__3_int {fuel : Nat} {l : List Value} {x : DataW H × List MemPlace} (h : DataW.trod enc Tryz.prog w base sp held fuel 22 l = some x) : ∃ (v0 v1 v2 : Int), l = [.int .i64 v0, .int .i64 v1, .int .i64 v2] ∧ IR v0 ∧ IR v1 ∧ IR v2 := by
 obtain ⟨hl, hf⟩ := trod_elems Tryz.underlying22 cz_int h
 rw [cz__3_int] at hl
 clear h
 match l, hl with
 | [a0, a1, a2], _ =>
   obtain ⟨m0, y0, h0⟩ := hf 0 (by decide)
   change DataW.trod enc Tryz.prog w base sp held m0 3 [a0] = some y0 at h0
   obtain ⟨m1, y1, h1⟩ := hf 1 (by decide)
   change DataW.trod enc Tryz.prog w base sp held m1 3 [a1] = some y1 at h1
   obtain ⟨m2, y2, h2⟩ := hf 2 (by decide)
   change DataW.trod enc Tryz.prog w base sp held m2 3 [a2] = some y2 at h2
   obtain ⟨v0, rfl, k0⟩ := cells_int u3 h0
   obtain ⟨v1, rfl, k1⟩ := cells_int u3 h1
   obtain ⟨v2, rfl, k2⟩ := cells_int u3 h2
   exact ⟨v0, v1, v2, rfl, k0, k1, k2⟩
theorem cz_api_Ray : Tryz.prog.cellsOf 24 = 7 := by kernel_rfl
theorem cells_api_Ray {fuel : Nat} {l : List Value} {x : DataW H × List MemPlace} (h : DataW.trod enc Tryz.prog w base sp held fuel 24 l = some x) : ∃ (v0 v1 v2 v3 v4 v5 v6 : Int), l = [.int .i64 v0, .int .i64 v1, .int .i64 v2, .int .i64 v3, .int .i64 v4, .int .i64 v5, .int .i64 v6] ∧ IR v0 ∧ IR v1 ∧ IR v2 ∧ IR v3 ∧ IR v4 ∧ IR v5 ∧ IR v6 := by
 obtain ⟨xs, n, _, _, hl, hn, hf⟩ := DataW.trod_struct Tryz.underlying24 h
 rw [cz_api_Ray] at hl
 match l, hl with
 | [a0, a1, a2, a3, a4, a5, a6], _ =>
  have hn : xs.length = 5 := hn
  match xs, hn with
  | [y0, y1, y2, y3, y4], _ =>
   have g0 := hf 0 _ rfl
   have h0 : DataW.trod enc Tryz.prog w base sp held n 3 (([a0, a1, a2, a3, a4, a5, a6].drop 0).take (Tryz.prog.cellsOf 3)) = some y0 := g0
   rw [cz_int] at h0
   change DataW.trod enc Tryz.prog w base sp held n 3 [a0] = some y0 at h0
   have g1 := hf 1 _ rfl
   have h1 : DataW.trod enc Tryz.prog w base sp held n 3 (([a0, a1, a2, a3, a4, a5, a6].drop 1).take (Tryz.prog.cellsOf 3)) = some y1 := g1
   rw [cz_int] at h1
   change DataW.trod enc Tryz.prog w base sp held n 3 [a1] = some y1 at h1
   have g2 := hf 2 _ rfl
   have h2 : DataW.trod enc Tryz.prog w base sp held n 3 (([a0, a1, a2, a3, a4, a5, a6].drop 2).take (Tryz.prog.cellsOf 3)) = some y2 := g2
   rw [cz_int] at h2
   change DataW.trod enc Tryz.prog w base sp held n 3 [a2] = some y2 at h2
   have g3 := hf 3 _ rfl
   have h3 : DataW.trod enc Tryz.prog w base sp held n 3 (([a0, a1, a2, a3, a4, a5, a6].drop 3).take (Tryz.prog.cellsOf 3)) = some y3 := g3
   rw [cz_int] at h3
   change DataW.trod enc Tryz.prog w base sp held n 3 [a3] = some y3 at h3
   have g4 := hf 4 _ rfl
   have h4 : DataW.trod enc Tryz.prog w base sp held n 22 (([a0, a1, a2, a3, a4, a5, a6].drop 4).take (Tryz.prog.cellsOf 22)) = some y4 := g4
   rw [cz__3_int] at h4
   change DataW.trod enc Tryz.prog w base sp held n 22 [a4, a5, a6] = some y4 at h4
   obtain ⟨v0, rfl, k0⟩ := cells_int u3 h0
   obtain ⟨v1, rfl, k1⟩ := cells_int u3 h1
   obtain ⟨v2, rfl, k2⟩ := cells_int u3 h2
   obtain ⟨v3, rfl, k3⟩ := cells_int u3 h3
   obtain ⟨v4, v5, v6, e4, k4, k5, k6⟩ := cells__3_int h4
   obtain ⟨rfl,rfl,rfl⟩ : a4 = .int .i64 v4 ∧ a5 = .int .i64 v5 ∧ a6 = .int .i64 v6 := by simpa using e4
   exact ⟨v0, v1, v2, v3, v4, v5, v6, rfl, k0, k1, k2, k3, k4, k5, k6⟩
theorem open_api_Ray {b0 : Nat} {v : Value} {d : DataW H} {ps : List MemPlace} (hval : Value.okWide Tryz.prog w .any b0 24 v) (hd : DataW.Trod enc Tryz.prog w base sp held 24 v d ps) : ∃ (v0 v1 v2 v3 v4 v5 v6 : Int), v = .agg #[.int .i64 v0, .int .i64 v1, .int .i64 v2, .int .i64 v3, .int .i64 v4, .int .i64 v5, .int .i64 v6] ∧ IR v0 ∧ IR v1 ∧ IR v2 ∧ IR v3 ∧ IR v4 ∧ IR v5 ∧ IR v6 := by
 obtain ⟨cs, rfl, _⟩ := okWide_struct Tryz.underlying24 hval
 obtain ⟨fuel, h⟩ := hd
 obtain ⟨v0, v1, v2, v3, v4, v5, v6, e, hh⟩ := cells_api_Ray h
 refine ⟨v0, v1, v2, v3, v4, v5, v6, ?_, hh⟩
 have e : cs.toList = [.int .i64 v0, .int .i64 v1, .int .i64 v2, .int .i64 v3, .int .i64 v4, .int .i64 v5, .int .i64 v6] := e
 rw [← Array.toArray_toList (xs := cs), e]
theorem cz__4_int : Tryz.prog.cellsOf 26 = 4 := by kernel_rfl
theorem cells__4_int {fuel : Nat} {l : List Value} {x : DataW H × List MemPlace} (h : DataW.trod enc Tryz.prog w base sp held fuel 26 l = some x) : ∃ (v0 v1 v2 v3 : Int), l = [.int .i64 v0, .int .i64 v1, .int .i64 v2, .int .i64 v3] ∧ IR v0 ∧ IR v1 ∧ IR v2 ∧ IR v3 := by
 obtain ⟨hl, hf⟩ := trod_elems Tryz.underlying26 cz_int h
 rw [cz__4_int] at hl
 clear h
 match l, hl with
 | [a0, a1, a2, a3], _ =>
   obtain ⟨m0, y0, h0⟩ := hf 0 (by decide)
   change DataW.trod enc Tryz.prog w base sp held m0 3 [a0] = some y0 at h0
   obtain ⟨m1, y1, h1⟩ := hf 1 (by decide)
   change DataW.trod enc Tryz.prog w base sp held m1 3 [a1] = some y1 at h1
   obtain ⟨m2, y2, h2⟩ := hf 2 (by decide)
   change DataW.trod enc Tryz.prog w base sp held m2 3 [a2] = some y2 at h2
   obtain ⟨m3, y3, h3⟩ := hf 3 (by decide)
   change DataW.trod enc Tryz.prog w base sp held m3 3 [a3] = some y3 at h3
   obtain ⟨v0, rfl, k0⟩ := cells_int u3 h0
   obtain ⟨v1, rfl, k1⟩ := cells_int u3 h1
   obtain ⟨v2, rfl, k2⟩ := cells_int u3 h2
   obtain ⟨v3, rfl, k3⟩ := cells_int u3 h3
   exact ⟨v0, v1, v2, v3, rfl, k0, k1, k2, k3⟩
theorem open__4_int {b0 : Nat} {v : Value} {d : DataW H} {ps : List MemPlace} (hval : Value.okWide Tryz.prog w .any b0 26 v) (hd : DataW.Trod enc Tryz.prog w base sp held 26 v d ps) : ∃ (v0 v1 v2 v3 : Int), v = .agg #[.int .i64 v0, .int .i64 v1, .int .i64 v2, .int .i64 v3] ∧ IR v0 ∧ IR v1 ∧ IR v2 ∧ IR v3 := by
 obtain ⟨cs, rfl⟩ := okWide_array Tryz.underlying26 hval
 obtain ⟨fuel, h⟩ := hd
 obtain ⟨v0, v1, v2, v3, e, hh⟩ := cells__4_int h
 refine ⟨v0, v1, v2, v3, ?_, hh⟩
 have e : cs.toList = [.int .i64 v0, .int .i64 v1, .int .i64 v2, .int .i64 v3] := e
 rw [← Array.toArray_toList (xs := cs), e]
end
end Go.Proofs.YtocbklodkcdhkaaGreatDoor
