/- Rows over arguments of plain values: the arguments opened, the reading behind the call. -/
import Derived.Test.YtapppahniablmaaDoorRows
import Derived.Test.YtapppahniablmaaDoorQua
import Derived.ProofKit
import Derived.OpenShut
import Derived.Carry
import Derived.LaidMore
import Derived.Lay
import Derived.SevenTiedAt
import Derived.Stop.Joined
namespace Go.Proofs.YtapppahniablmaaDoor
open Go.ChangeShapes Go.WideShapes Go.ChangeAt Go.RowKit
set_option maxRecDepth 100000

theorem own : ownKnob Tryd.prog.godebug = none := by kernel_rfl
theorem laidOut : laidOutB Tryd.prog = true := by kernel_rfl

section
variable {H : Type} {enc : TypeId × Value → H}
theorem trodAll_stays {W W' : World} (hb : Below W.heap.size W W') {sp : Nat → Bool} : ∀ {ts : List TypeId} {vs : List Value} {ds : List (DataW H)} {ps : List MemPlace}, DataW.TrodAll enc Tryd.prog W 0 (fun _ => true) true ts vs ds ps →
    (∀ t ∈ ts, Tryd.prog.readableRec t = true ∧ t < Tryd.prog.types.size) → (∀ x ∈ ps, x.block < W.heap.size) → (∀ x ∈ ps, sp x.block = true) → DataW.TrodAll enc Tryd.prog W' 0 sp true ts vs ds ps
  | [], [], [], _, h, _, _, _ => h
  | t :: ts, v :: vs, d :: ds, ps, h, ht, hlt, hsp => by
    obtain ⟨p, q, h1, h2, rfl⟩ := h
    refine ⟨p, q, WideElems.Trod_stays laidOut (ht t List.mem_cons_self).1 (ht t List.mem_cons_self).2 h1 (fun x hx => hb.same (hlt x (List.mem_append_left _ hx))) (fun x hx => hsp x (List.mem_append_left _ hx)), ?_, rfl⟩
    exact trodAll_stays hb h2 (fun t ht' => ht t (List.mem_cons_of_mem _ ht')) (fun x hx => hlt x (List.mem_append_right _ hx)) (fun x hx => hsp x (List.mem_append_right _ hx))
  | [], _ :: _, _, _, h, _, _, _ => h.elim
  | [], [], _ :: _, _, h, _, _, _ => h.elim
  | _ :: _, [], _, _, h, _, _, _ => by cases ‹List (DataW H)› <;> exact h.elim
  | _ :: _, _ :: _, [], _, h, _, _, _ => h.elim

variable {w : World} {base : Nat} {sp : Nat → Bool} {held : Bool}
theorem cells_int {t : TypeId} (ht : Tryd.prog.underlying t = some (.int .i64)) {fuel : Nat} {c : Value} {x : DataW H × List MemPlace} (h : DataW.trod enc Tryd.prog w base sp held fuel t [c] = some x) : ∃ z, c = .int .i64 z ∧ IR z := by
  obtain ⟨z, e, _, hw⟩ := DataW.trod_int ht h
  have := bounds_i64 hw
  exact ⟨z, by simpa using e, this⟩
theorem u3 : Tryd.prog.underlying 3 = some (.int .i64) := by kernel_rfl
/-- the cells of a point -/
theorem cells_point {fuel : Nat} {l : List Value} {x : DataW H × List MemPlace} (h : DataW.trod enc Tryd.prog w base sp held fuel 23 l = some x) : ∃ (x y z : Int), l = [.int .i64 x, .int .i64 y, .int .i64 z] ∧ IR x ∧ IR y ∧ IR z := by
  obtain ⟨xs, n, _, _, hl, hn, hf⟩ := DataW.trod_struct Tryd.underlying23 h
  have cP : Tryd.prog.cellsOf 23 = 3 := by kernel_rfl
  rw [cP] at hl
  match l, hl with
  | [a, b, c], _ =>
    have c3 : Tryd.prog.cellsOf 3 = 1 := by kernel_rfl
    have hn : xs.length = 3 := hn
    have g0 := hf 0 _ rfl
    have h0 : DataW.trod enc Tryd.prog w base sp held n 3 (([a, b, c].drop 0).take (Tryd.prog.cellsOf 3)) = xs[0]? := g0
    rw [c3] at h0
    change DataW.trod enc Tryd.prog w base sp held n 3 [a] = xs[0]? at h0
    have g1 := hf 1 _ rfl
    have h1 : DataW.trod enc Tryd.prog w base sp held n 3 (([a, b, c].drop 1).take (Tryd.prog.cellsOf 3)) = xs[1]? := g1
    rw [c3] at h1
    change DataW.trod enc Tryd.prog w base sp held n 3 [b] = xs[1]? at h1
    have g2 := hf 2 _ rfl
    have h2 : DataW.trod enc Tryd.prog w base sp held n 3 (([a, b, c].drop 2).take (Tryd.prog.cellsOf 3)) = xs[2]? := g2
    rw [c3] at h2
    change DataW.trod enc Tryd.prog w base sp held n 3 [c] = xs[2]? at h2
    match xs, hn with
    | [_, _, _], _ =>
      obtain ⟨x, rfl, hx⟩ := cells_int u3 h0
      obtain ⟨y, rfl, hy⟩ := cells_int u3 h1
      obtain ⟨z, rfl, hz⟩ := cells_int u3 h2
      exact ⟨x, y, z, rfl, hx, hy, hz⟩
/-- a point, opened -/
theorem open_point {b0 : Nat} {v : Value} {d : DataW H} {ps : List MemPlace} (hval : Value.okWide Tryd.prog w .any b0 23 v) (hd : DataW.Trod enc Tryd.prog w base sp held 23 v d ps) : ∃ (x y z : Int), v = .agg #[.int .i64 x, .int .i64 y, .int .i64 z] ∧ IR x ∧ IR y ∧ IR z := by
  obtain ⟨cs, rfl, _⟩ := okWide_struct Tryd.underlying23 hval
  obtain ⟨fuel, h⟩ := hd
  obtain ⟨x, y, z, e, hx, hy, hz⟩ := cells_point h
  refine ⟨x, y, z, ?_, hx, hy, hz⟩
  have e : cs.toList = [.int .i64 x, .int .i64 y, .int .i64 z] := e
  rw [← Array.toArray_toList (xs := cs), e]
end
end Go.Proofs.YtapppahniablmaaDoor
