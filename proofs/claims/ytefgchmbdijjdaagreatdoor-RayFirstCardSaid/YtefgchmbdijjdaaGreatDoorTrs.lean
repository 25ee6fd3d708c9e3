/- Lists of triangles that functions make: quad, cube, by the reckoner. Voxels: a list of triangles, by the reckoner. Hills: a list of triangles from a list of numbers, by the reckoner. shape: cubes or hills, by the reckoner. -/
import Derived.Test.YtefgchmbdijjdaaGreatDoorBas
namespace Go.Proofs.YtefgchmbdijjdaaGreatDoor
open Go.RowKit
set_option maxRecDepth 100000

/-- a list of triangles of the call's own -/
structure OT where
  l : List TR
  nl : Bool
  cap : Nat
  ok : SliOk nl l.length cap
def OT.sl (o : OT) (b : Nat) : SV := .c (.sli o.nl b 0 o.l.length o.cap o.ok)
def OT.blk (o : OT) : Blk := ⟨29, o.nl, trsC o.l, (o.cap - o.l.length) * 9⟩
def OT.none : OT := ⟨[], true, 0, by unfold SliOk; decide⟩
theorem OT.new (o : OT) : NewB o.blk := by
  refine ⟨trsC_pure o.l, ?_⟩
  cases h : o.nl with
  | false => exact .inl h
  | true =>
    right
    have h1 := o.ok.1; have h2 := o.ok.2.2 h
    have : o.l = [] := List.eq_nil_of_length_eq_zero (by omega)
    unfold OT.blk Blk.void
    rw [h, this]; rfl
theorem OT.app (o : OT) {m : Nat} (hm : (o.l.length + m) * 9 ≤ 5000000000000) : o.blk.ty = 29 ∧ o.blk.ro = o.nl ∧ sizeC o.blk.cs = o.l.length * 9 ∧ (o.nl = false → sizeC o.blk.cs + o.blk.tl = o.cap * 9) ∧ (o.l.length + m) * 9 ≤ 5000000000000 := by
  have h1 : sizeC o.blk.cs = o.l.length * 9 := by show sizeC (trsC o.l) = _; rw [trsC_size]; omega
  refine ⟨rfl, rfl, h1, fun _ => ?_, hm⟩
  rw [h1]
  show o.l.length * 9 + (o.cap - o.l.length) * 9 = o.cap * 9
  have := o.ok.1
  omega
def OT.push (o : OT) (m : List TR) {n : Nat} (hn : m.length = n) (cap2 : Nat) (h2 : SliOk (o.nl && decide (n = 0)) (o.l.length + n) cap2) : OT := ⟨o.l ++ m, o.nl && decide (n = 0), cap2, by rw [List.length_append, hn]; exact h2⟩
theorem OT.push_sl (o : OT) (m : List TR) {n : Nat} (hn : m.length = n) (cap2 : Nat) (h2 : SliOk (o.nl && decide (n = 0)) (o.l.length + n) cap2) (b : Nat) (ρ : Rho) : (SV.c (.sli (o.nl && decide (n = 0)) b 0 (o.l.length + n) cap2 h2)).den ρ = ((o.push m hn cap2 h2).sl b).den ρ := by
  simp only [OT.sl, OT.push, SV.den, C.den, C.cells, List.length_append, hn]
theorem OT.push_blk (o : OT) (m : List TR) {n : Nat} (hn : m.length = n) (cap2 : Nat) (h2 : SliOk (o.nl && decide (n = 0)) (o.l.length + n) cap2) {cs : List C} (hcs : ∀ ρ, cellsL ρ cs = cellsL ρ (trsC m)) :
    29 = (o.push m hn cap2 h2).blk.ty ∧ (o.nl && decide (n = 0)) = (o.push m hn cap2 h2).blk.ro ∧ (cap2 - (o.l.length + n)) * 9 = (o.push m hn cap2 h2).blk.tl ∧ ∀ ρ, cellsL ρ (trsC o.l ++ cs) = cellsL ρ (o.push m hn cap2 h2).blk.cs := by
  refine ⟨rfl, rfl, ?_, fun ρ => ?_⟩
  · simp only [OT.push, OT.blk, List.length_append, hn]
  · show _ = cellsL ρ (trsC (o.l ++ m))
    rw [trsC_append, cellsL_append, cellsL_append, hcs]
theorem subC_trs_all (l : List TR) : subC (trsC l) 0 (l.length * 9) = some (trsC l) := by
  have h := subC_app [] (trsC l) []
  rw [trsC_size, List.append_nil, List.nil_append, Nat.mul_comm] at h
  exact h
theorem OT.src (o : OT) : subC o.blk.cs 0 (o.l.length * 9) = some (trsC o.l) := subC_trs_all o.l
def isPt (v : SV) : Prop := ∃ p : PT, v = .agg (ptC p)
theorem isPt_mk {x y z : Int} {hx : IR x} {hy : IR y} {hz : IR z} : isPt (.agg [.int x hx, .int y hy, .int z hz]) := ⟨⟨x, y, z, hx, hy, hz⟩, rfl⟩
def isInt (v : SV) : Prop := ∃ (n : Int) (h : IR n), v = .c (.int n h)
theorem isInt_mk {x : Int} {hx : IR x} : isInt (.c (.int x hx)) := ⟨x, hx, rfl⟩
def cQuad : NewC := fun args ros K => (∃ a b c d, args = [a, b, c, d] ∧ isPt a ∧ isPt b ∧ isPt c ∧ isPt d) ∧ ros = [] ∧ ∀ o : OT, o.l.length = 2 → K (o.sl 0) [o.blk]
theorem csQuad : CSp Tryz.prog 101 cQuad := csp_of (env_ok base_ok 20) mixed (inl_ok (env_ok base_ok 20) mixed noF_ok 0) ⟨Tryz.func101, by kernel_rfl, by kernel_rfl⟩ fun args ros K hc => by
  obtain ⟨⟨_, _, _, _, rfl, ⟨p1, rfl⟩, ⟨p2, rfl⟩, ⟨p3, rfl⟩, ⟨p4, rfl⟩⟩, rfl, hc⟩ := hc
  refine ⟨fun _ _ _ => rfl, ?_⟩
  conv => whnf
  refine ⟨[4], [], fun vs => ?_⟩
  conv => whnf
  exact ⟨_, [(OT.mk [⟨p1, p2, p3⟩, ⟨p1, p3, p4⟩] false 2 (by unfold SliOk; simp)).blk], rfl, ⟨⟨rfl, rfl, rfl, fun _ => rfl⟩, trivial⟩, ⟨OT.new _, trivial⟩, OT.sl (OT.mk [⟨p1, p2, p3⟩, ⟨p1, p3, p4⟩] false 2 (by unfold SliOk; simp)) 0, fun _ => rfl, hc _ rfl⟩
theorem len_cons {α : Type} {l : List α} {n : Nat} (h : l.length = n + 1) : ∃ a m, l = a :: m ∧ m.length = n := by
  cases l with
  | nil => cases h
  | cons a m => exact ⟨a, m, rfl, by simpa using h⟩
theorem len12 {l : List TR} (h : l.length = 12) : ∃ a b c d e f g i j k m n, l = [a, b, c, d, e, f, g, i, j, k, m, n] := by
  obtain ⟨a0, l0, rfl, h0⟩ := len_cons h
  obtain ⟨a1, l1, rfl, h1⟩ := len_cons h0
  obtain ⟨a2, l2, rfl, h2⟩ := len_cons h1
  obtain ⟨a3, l3, rfl, h3⟩ := len_cons h2
  obtain ⟨a4, l4, rfl, h4⟩ := len_cons h3
  obtain ⟨a5, l5, rfl, h5⟩ := len_cons h4
  obtain ⟨a6, l6, rfl, h6⟩ := len_cons h5
  obtain ⟨a7, l7, rfl, h7⟩ := len_cons h6
  obtain ⟨a8, l8, rfl, h8⟩ := len_cons h7
  obtain ⟨a9, l9, rfl, h9⟩ := len_cons h8
  obtain ⟨a10, l10, rfl, h10⟩ := len_cons h9
  obtain ⟨a11, l11, rfl, h11⟩ := len_cons h10
  have := List.eq_nil_of_length_eq_zero h11
  subst this
  exact ⟨a0, a1, a2, a3, a4, a5, a6, a7, a8, a9, a10, a11, rfl⟩
def cCube : NewC := fun args ros K => (∃ a b, args = [a, b] ∧ isPt a ∧ isInt b) ∧ ros = [] ∧ ∀ o : OT, o.l.length = 12 → K (o.sl 0) [o.blk]
def shapeC : List (FuncId × NewC) := [(101, cQuad)]
theorem shapeC_ok : AllC Tryz.prog shapeC := .cons csQuad .nil
set_option maxHeartbeats 4000000 in
theorem csCube : CSp Tryz.prog 73 cCube := csp_of (env_ok base_ok 20) mixed (hnew_ok shapeC_ok (inl_ok (env_ok base_ok 20) mixed noF_ok 0)) ⟨Tryz.func73, by kernel_rfl, by kernel_rfl⟩ fun args ros K hc => by
  obtain ⟨⟨_, _, rfl, ⟨p, rfl⟩, ⟨s, hs, rfl⟩⟩, rfl, hc⟩ := hc
  refine ⟨fun _ _ _ => rfl, ?_⟩
  conv => whnf
  refine ⟨fun _ _ => rfl, ?_⟩
  conv => whnf
  refine ⟨fun _ _ => rfl, ?_⟩
  conv => whnf
  refine ⟨fun _ _ => rfl, ?_⟩
  conv => whnf
  refine ⟨fun _ _ => rfl, ?_⟩
  conv => whnf
  refine ⟨trivial, ⟨_, _, _, _, rfl, isPt_mk, isPt_mk, isPt_mk, isPt_mk⟩, rfl, ?_⟩
  intro o1 e1
  conv => whnf
  refine ⟨fun _ _ => rfl, ?_⟩
  conv => whnf
  refine ⟨fun _ _ => rfl, ?_⟩
  conv => whnf
  refine ⟨fun _ _ => rfl, ?_⟩
  conv => whnf
  refine ⟨fun _ _ => rfl, ?_⟩
  conv => whnf
  refine ⟨trivial, ⟨_, _, _, _, rfl, isPt_mk, isPt_mk, isPt_mk, isPt_mk⟩, rfl, ?_⟩
  intro o2 e2
  conv => whnf
  rw [o2.src]
  conv => whnf
  refine ⟨allOne_trs _, ?_⟩
  conv => whnf
  refine ⟨o1.app (by omega), fun c2 k2 => ?_⟩
  conv => whnf
  refine ⟨fun _ _ => rfl, ?_⟩
  conv => whnf
  refine ⟨fun _ _ => rfl, ?_⟩
  conv => whnf
  refine ⟨fun _ _ => rfl, ?_⟩
  conv => whnf
  refine ⟨fun _ _ => rfl, ?_⟩
  conv => whnf
  refine ⟨trivial, ⟨_, _, _, _, rfl, isPt_mk, isPt_mk, isPt_mk, isPt_mk⟩, rfl, ?_⟩
  intro o3 e3
  conv => whnf
  rw [o3.src]
  conv => whnf
  refine ⟨allOne_trs _, ?_⟩
  conv => whnf
  refine ⟨⟨rfl, rfl, by simp only [sizeC_append, trsC_size]; omega, fun _ => by have := k2.1; simp only [sizeC_append, trsC_size]; omega, by omega⟩, fun c3 k3 => ?_⟩
  conv => whnf
  refine ⟨fun _ _ => rfl, ?_⟩
  conv => whnf
  refine ⟨fun _ _ => rfl, ?_⟩
  conv => whnf
  refine ⟨fun _ _ => rfl, ?_⟩
  conv => whnf
  refine ⟨fun _ _ => rfl, ?_⟩
  conv => whnf
  refine ⟨trivial, ⟨_, _, _, _, rfl, isPt_mk, isPt_mk, isPt_mk, isPt_mk⟩, rfl, ?_⟩
  intro o4 e4
  conv => whnf
  rw [o4.src]
  conv => whnf
  refine ⟨allOne_trs _, ?_⟩
  conv => whnf
  refine ⟨⟨rfl, rfl, by simp only [sizeC_append, trsC_size]; omega, fun _ => by have := k3.1; simp only [sizeC_append, trsC_size]; omega, by omega⟩, fun c4 k4 => ?_⟩
  conv => whnf
  refine ⟨fun _ _ => rfl, ?_⟩
  conv => whnf
  refine ⟨fun _ _ => rfl, ?_⟩
  conv => whnf
  refine ⟨fun _ _ => rfl, ?_⟩
  conv => whnf
  refine ⟨fun _ _ => rfl, ?_⟩
  conv => whnf
  refine ⟨trivial, ⟨_, _, _, _, rfl, isPt_mk, isPt_mk, isPt_mk, isPt_mk⟩, rfl, ?_⟩
  intro o5 e5
  conv => whnf
  rw [o5.src]
  conv => whnf
  refine ⟨allOne_trs _, ?_⟩
  conv => whnf
  refine ⟨⟨rfl, rfl, by simp only [sizeC_append, trsC_size]; omega, fun _ => by have := k4.1; simp only [sizeC_append, trsC_size]; omega, by omega⟩, fun c5 k5 => ?_⟩
  conv => whnf
  refine ⟨fun _ _ => rfl, ?_⟩
  conv => whnf
  refine ⟨fun _ _ => rfl, ?_⟩
  conv => whnf
  refine ⟨fun _ _ => rfl, ?_⟩
  conv => whnf
  refine ⟨fun _ _ => rfl, ?_⟩
  conv => whnf
  refine ⟨trivial, ⟨_, _, _, _, rfl, isPt_mk, isPt_mk, isPt_mk, isPt_mk⟩, rfl, ?_⟩
  intro o6 e6
  conv => whnf
  rw [o6.src]
  conv => whnf
  refine ⟨allOne_trs _, ?_⟩
  conv => whnf
  refine ⟨⟨rfl, rfl, by simp only [sizeC_append, trsC_size]; omega, fun _ => by have := k5.1; simp only [sizeC_append, trsC_size]; omega, by omega⟩, fun c6 k6 => ?_⟩
  conv => whnf
  refine ⟨[12], [0], fun vs => ?_⟩
  conv => whnf
  refine ⟨pureL_append (pureL_append (pureL_append (pureL_append (pureL_append (trsC_pure _) (trsC_pure _)) (trsC_pure _)) (trsC_pure _)) (trsC_pure _)) (trsC_pure _), ?_⟩
  conv => whnf
  have h6 : SliOk (o1.nl && decide (o2.l.length = 0) && decide (o3.l.length = 0) && decide (o4.l.length = 0) && decide (o5.l.length = 0) && decide (o6.l.length = 0)) (o1.l ++ o2.l ++ o3.l ++ o4.l ++ o5.l ++ o6.l).length c6 := by
    simp only [List.length_append]; exact k6
  refine ⟨_, [(OT.mk _ _ c6 h6).blk], rfl, ⟨⟨rfl, rfl, ?_, fun ρ => ?_⟩, trivial⟩, ⟨OT.new _, trivial⟩, (OT.mk _ _ c6 h6).sl 0, fun ρ => ?_, hc _ ?_⟩
  · simp only [OT.blk, List.length_append]
  · simp only [OT.blk, trsC_append]
  · simp only [OT.sl, SV.den, C.den, C.cells, List.length_append]
  · simp only [List.length_append]; omega
end Go.Proofs.YtefgchmbdijjdaaGreatDoor

namespace Go.Proofs.YtefgchmbdijjdaaGreatDoor
open Go.RowKit
set_option maxRecDepth 100000

theorem eff_shr {T : TypeId → Option TI} {op : Op} {ev : Operand → SV} {hp : Nat → Option Blk} {t yt : TypeId} {x y : Operand} (ho : op = .binOp .shr t x y yt) {a : Int} {ha : IR a} (hx : ev x = .c (.int a ha)) {k : IntKind} {b : Int} (hy : ev y = .c (.val (.int k b))) (hb : 0 ≤ b) :
    eff T op ev hp = some (.val (.c (.int (a.fdiv (2 ^ (min b.toNat 64))) (ha.fdiv _)))) := by
  subst ho
  simp only [eff, hx, hy, binS]
  rw [if_neg (by omega)]
theorem u64_wrap_nonneg (z : Int) : 0 ≤ IntKind.u64.wrap z := by
  simp [IntKind.wrap, IntKind.bits, IntKind.signed]; omega
def shapeC2 : List (FuncId × NewC) := (73, cCube) :: shapeC
theorem shapeC2_ok : AllC Tryz.prog shapeC2 := .cons csCube shapeC_ok
/-- some triangles, at most n -/
def cSome (n : Nat) (ok : List SV → Prop) : NewC := fun args ros K => ok args ∧ ros = [] ∧ ∀ o : OT, o.l.length ≤ n → K (o.sl 0) [o.blk]
def okVox (args : List SV) : Prop := ∃ a b c, args = [a, b, c] ∧ isInt a ∧ isInt b ∧ isPt c
theorem ir_le {k : Nat} (h : k ≤ 27) : IR k := by unfold IR; omega
theorem k_lt {k : Nat} (h : decide ((k : Int) < 27) = true) : k < 27 := by have := of_decide_eq_true h; omega
theorem k_ge {k : Nat} (h : decide ((k : Int) < 27) = false) : 27 ≤ k := by have := of_decide_eq_false h; omega
theorem ir_6 {k : Nat} (h : k ≤ 6) : IR k := by unfold IR; omega
theorem app2_le {k f n : Nat} (h : n ≤ k * 12 + 2 * f) (hk : k ≤ 27) (hf : f ≤ 6) : (n + 2) * 9 ≤ 5000000000000 := by omega
theorem push_le2 {a f : Nat} {o : OT} (h : o.l.length ≤ a + 2 * f) (m : List TR) {n : Nat} (hn : m.length = n) (h2n : n = 2) (cap2 : Nat) (h2 : SliOk (o.nl && decide (n = 0)) (o.l.length + n) cap2) : (o.push m hn cap2 h2).l.length ≤ a + 2 * (f + 1) := by
  simp only [OT.push, List.length_append]; omega
set_option maxHeartbeats 40000000 in
theorem csVox : CSp Tryz.prog 25 (cSome 324 okVox) := csp_of (env_ok base_ok 0) mixed (hnew_ok shapeC2_ok (inl_ok (env_ok base_ok 20) mixed noF_ok 0)) ⟨Tryz.func25, by kernel_rfl, by kernel_rfl⟩ fun args ros K hc => by
  obtain ⟨⟨_, _, _, rfl, ⟨bits, hb, rfl⟩, ⟨step, hs, rfl⟩, ⟨p, rfl⟩⟩, rfl, hc⟩ := hc
  refine ⟨fun _ _ _ => rfl, ?_⟩
  conv => whnf
  refine loop_st (G := {g : Nat × OT × (Nat → Value) // g.1 ≤ 27 ∧ g.2.1.l.length ≤ g.1 * 12}) (fun g => [.c (.int bits hb), .c (.int step hs), .c (.val (g.1.2.2 2)), .c (.val (g.1.2.2 3)), .c (.val (g.1.2.2 4)), .c (.ptr 0 0), .c (.val (g.1.2.2 6)), g.1.2.1.sl 1, .c (.int (g.1.1 : Nat) (ir_le g.2.1)), .c (.val (g.1.2.2 9)), .c (.val (g.1.2.2 10)), .c (.val (g.1.2.2 11)), .c (.val (g.1.2.2 12)), .c (.val (g.1.2.2 13)), .c (.val (g.1.2.2 14)), .c (.val (g.1.2.2 15)), .c (.val (g.1.2.2 16)), .c (.val (g.1.2.2 17)), .c (.val (g.1.2.2 18)), .c (.val (g.1.2.2 19)), .c (.val (g.1.2.2 20)), .c (.val (g.1.2.2 21)), .c (.val (g.1.2.2 22)), .c (.val (g.1.2.2 23)), .c (.val (g.1.2.2 24)), .c (.val (g.1.2.2 25)), .c (.val (g.1.2.2 26)), .c (.val (g.1.2.2 27)), .c (.val (g.1.2.2 28)), .c (.val (g.1.2.2 29)), .c (.val (g.1.2.2 30)), .c (.val (g.1.2.2 31)), .c (.val (g.1.2.2 32)), .c (.val (g.1.2.2 33)), .c (.val (g.1.2.2 34)), .c (.val (g.1.2.2 35)), .c (.val (g.1.2.2 36)), .c (.val (g.1.2.2 37)), .c (.val (g.1.2.2 38)), .c (.val (g.1.2.2 39)), .c (.val (g.1.2.2 40)), .c (.val (g.1.2.2 41)), .c (.val (g.1.2.2 42)), .c (.val (g.1.2.2 43)), .c (.val (g.1.2.2 44)), .c (.val (g.1.2.2 45)), .c (.val (g.1.2.2 46)), .c (.val (g.1.2.2 47)), .c (.val (g.1.2.2 48)), .c (.val (g.1.2.2 49)), .c (.val (g.1.2.2 50)), .c (.val (g.1.2.2 51)), .c (.val (g.1.2.2 52)), .c (.val (g.1.2.2 53)), .c (.val (g.1.2.2 54)), .c (.val (g.1.2.2 55)), .c (.val (g.1.2.2 56)), .c (.val (g.1.2.2 57)), .c (.val (g.1.2.2 58)), .c (.val (g.1.2.2 59)), .c (.val (g.1.2.2 60)), .c (.val (g.1.2.2 61)), .c (.val (g.1.2.2 62)), .c (.val (g.1.2.2 63)), .c (.val (g.1.2.2 64)), .c (.val (g.1.2.2 65)), .c (.val (g.1.2.2 66)), .c (.val (g.1.2.2 67)), .c (.val (g.1.2.2 68)), .c (.val (g.1.2.2 69)), .c (.val (g.1.2.2 70)), .c (.val (g.1.2.2 71)), .c (.val (g.1.2.2 72)), .c (.val (g.1.2.2 73)), .c (.val (g.1.2.2 74)), .c (.val (g.1.2.2 75)), .c (.val (g.1.2.2 76)), .c (.val (g.1.2.2 77)), .c (.val (g.1.2.2 78)), .c (.val (g.1.2.2 79)), .c (.val (g.1.2.2 80)), .c (.val (g.1.2.2 81)), .c (.val (g.1.2.2 82)), .c (.val (g.1.2.2 83)), .c (.val (g.1.2.2 84)), .c (.val (g.1.2.2 85)), .c (.val (g.1.2.2 86)), .c (.val (g.1.2.2 87)), .c (.val (g.1.2.2 88)), .c (.val (g.1.2.2 89)), .c (.val (g.1.2.2 90)), .c (.val (g.1.2.2 91)), .c (.val (g.1.2.2 92)), .c (.val (g.1.2.2 93)), .c (.val (g.1.2.2 94)), .c (.val (g.1.2.2 95)), .c (.val (g.1.2.2 96)), .c (.val (g.1.2.2 97)), .c (.val (g.1.2.2 98)), .c (.val (g.1.2.2 99)), .c (.val (g.1.2.2 100)), .c (.val (g.1.2.2 101)), .c (.val (g.1.2.2 102)), .c (.val (g.1.2.2 103)), .c (.val (g.1.2.2 104)), .c (.val (g.1.2.2 105)), .c (.val (g.1.2.2 106)), .c (.val (g.1.2.2 107)), .c (.val (g.1.2.2 108)), .c (.val (g.1.2.2 109)), .c (.val (g.1.2.2 110)), .c (.val (g.1.2.2 111)), .c (.val (g.1.2.2 112)), .c (.val (g.1.2.2 113)), .c (.val (g.1.2.2 114)), .c (.val (g.1.2.2 115)), .c (.val (g.1.2.2 116)), .c (.val (g.1.2.2 117)), .c (.val (g.1.2.2 118)), .c (.val (g.1.2.2 119)), .c (.val (g.1.2.2 120)), .c (.val (g.1.2.2 121)), .c (.val (g.1.2.2 122)), .c (.val (g.1.2.2 123)), .c (.val (g.1.2.2 124)), .c (.val (g.1.2.2 125)), .c (.val (g.1.2.2 126)), .c (.val (g.1.2.2 127)), .c (.val (g.1.2.2 128)), .c (.val (g.1.2.2 129)), .c (.val (g.1.2.2 130)), .c (.val (g.1.2.2 131)), .c (.val (g.1.2.2 132)), .c (.val (g.1.2.2 133)), .c (.val (g.1.2.2 134)), .c (.val (g.1.2.2 135)), .c (.val (g.1.2.2 136)), .c (.val (g.1.2.2 137)), .c (.val (g.1.2.2 138)), .c (.val (g.1.2.2 139)), .c (.val (g.1.2.2 140))]) (fun g => [⟨26, false, ptC p, 0⟩, g.1.2.1.blk]) (fun g => 27 - g.1.1) ?_ ?_
  · refine ⟨[0, 1000 + 29], [0, 1, 5, 7, 8], [], fun vs => ?_⟩
    conv => whnf
    refine ⟨_, _, ?_, ?_, ⟨(0, OT.none, vs), Nat.zero_le _, Nat.zero_le _⟩, rfl, rfl⟩
    · exact ⟨fun _ => rfl, fun _ => rfl, fun _ => rfl, fun _ => rfl, fun _ => rfl, fun _ => rfl, fun _ => rfl, fun _ => rfl, fun _ => rfl, fun _ => rfl, fun _ => rfl, fun _ => rfl, stm _⟩
    · exact ⟨⟨rfl, rfl, rfl, fun _ => rfl⟩, ⟨rfl, rfl, rfl, fun _ => rfl⟩, trivial⟩
  · rintro ⟨⟨k, o, vs⟩, hk, ho⟩
    have hk : k ≤ 27 := hk
    have ho : o.l.length ≤ k * 12 := ho
    conv => whnf
    refine bcase_intro (fun hlt => ?_) (fun hge => ?_)
    · have hk27 : k < 27 := k_lt hlt
      conv => whnf
      refine bcase_intro (fun _ => ?_) (fun _ => ?_)
      · conv => whnf
        refine ⟨[0, 1], [0, 1, 5, 7, 8], [1], fun vs3 => ?_⟩
        conv => whnf
        refine ⟨o.new.1, ?_⟩
        conv => whnf
        refine ⟨_, _, ?_, ?_, ⟨(k + 1, o, vs3), hk27, (Nat.le_trans ho (Nat.mul_le_mul_right 12 (Nat.le_succ k)))⟩, by show 27 - (k + 1) < 27 - k; omega, rfl, rfl⟩
        · exact ⟨fun _ => rfl, fun _ => rfl, fun _ => rfl, fun _ => rfl, fun _ => rfl, fun _ => rfl, fun _ => rfl, fun _ => rfl, sint_eq (wrap_add1 hk27 (ir_le (Nat.le_refl 27))) _ _, fun _ => rfl, fun _ => rfl, fun _ => rfl, stm _⟩
        · exact ⟨⟨rfl, rfl, rfl, fun _ => rfl⟩, ⟨rfl, rfl, rfl, fun _ => rfl⟩, trivial⟩
      · conv => whnf
        refine ⟨fun _ _ => rfl, ?_⟩
        conv => whnf
        refine ⟨trivial, ⟨_, _, rfl, isPt_mk, isInt_mk⟩, rfl, ?_⟩
        rintro ⟨lc, nlc, capc, okc⟩ hc
        obtain ⟨a0, a1, a2, a3, a4, a5, a6, a7, a8, a9, a10, a11, rfl⟩ := len12 hc
        conv => whnf
        refine loop_st (G := {g : Nat × OT × (Nat → Value) // g.1 ≤ 6 ∧ g.2.1.l.length ≤ k * 12 + 2 * g.1}) (fun g => [.c (.int bits hb), .c (.int step hs), .c (.val (g.1.2.2 2)), .c (.val (g.1.2.2 3)), .c (.val (g.1.2.2 4)), .c (.ptr 0 0), .c (.val (g.1.2.2 6)), g.1.2.1.sl 1, .c (.int (k : Nat) (ir_le hk)), .c (.int ((k : Int).tmod 3) ((ir_le hk).tmod _)), .c (.int ((IntKind.i64.wrap ((k : Int).tdiv 3)).tmod 3) ((IR.wrap _).tmod _)), .c (.int (IntKind.i64.wrap ((k : Int).tdiv 9)) (IR.wrap _)), .c (.val (g.1.2.2 12)), .c (.sli nlc 2 0 12 capc okc), .c (.ptr 3 0), .c (.int (g.1.1 : Nat) (ir_6 g.2.1)), .c (.val (g.1.2.2 16)), .c (.val (g.1.2.2 17)), .c (.val (g.1.2.2 18)), .c (.val (g.1.2.2 19)), .c (.val (g.1.2.2 20)), .c (.val (g.1.2.2 21)), .c (.val (g.1.2.2 22)), .c (.val (g.1.2.2 23)), .c (.val (g.1.2.2 24)), .c (.val (g.1.2.2 25)), .c (.val (g.1.2.2 26)), .c (.val (g.1.2.2 27)), .c (.val (g.1.2.2 28)), .c (.val (g.1.2.2 29)), .c (.val (g.1.2.2 30)), .c (.val (g.1.2.2 31)), .c (.val (g.1.2.2 32)), .c (.val (g.1.2.2 33)), .c (.val (g.1.2.2 34)), .c (.val (g.1.2.2 35)), .c (.val (g.1.2.2 36)), .c (.val (g.1.2.2 37)), .c (.val (g.1.2.2 38)), .c (.val (g.1.2.2 39)), .c (.val (g.1.2.2 40)), .c (.val (g.1.2.2 41)), .c (.val (g.1.2.2 42)), .c (.val (g.1.2.2 43)), .c (.val (g.1.2.2 44)), .c (.val (g.1.2.2 45)), .c (.val (g.1.2.2 46)), .c (.val (g.1.2.2 47)), .c (.val (g.1.2.2 48)), .c (.val (g.1.2.2 49)), .c (.val (g.1.2.2 50)), .c (.val (g.1.2.2 51)), .c (.val (g.1.2.2 52)), .c (.val (g.1.2.2 53)), .c (.val (g.1.2.2 54)), .c (.val (g.1.2.2 55)), .c (.val (g.1.2.2 56)), .c (.val (g.1.2.2 57)), .c (.val (g.1.2.2 58)), .c (.val (g.1.2.2 59)), .c (.val (g.1.2.2 60)), .c (.val (g.1.2.2 61)), .c (.val (g.1.2.2 62)), .c (.val (g.1.2.2 63)), .c (.val (g.1.2.2 64)), .c (.val (g.1.2.2 65)), .c (.val (g.1.2.2 66)), .c (.val (g.1.2.2 67)), .c (.val (g.1.2.2 68)), .c (.val (g.1.2.2 69)), .c (.val (g.1.2.2 70)), .c (.val (g.1.2.2 71)), .c (.val (g.1.2.2 72)), .c (.val (g.1.2.2 73)), .c (.val (g.1.2.2 74)), .c (.val (g.1.2.2 75)), .c (.val (g.1.2.2 76)), .c (.val (g.1.2.2 77)), .c (.val (g.1.2.2 78)), .c (.val (g.1.2.2 79)), .c (.val (g.1.2.2 80)), .c (.val (g.1.2.2 81)), .c (.val (g.1.2.2 82)), .c (.val (g.1.2.2 83)), .c (.val (g.1.2.2 84)), .c (.val (g.1.2.2 85)), .c (.val (g.1.2.2 86)), .c (.val (g.1.2.2 87)), .c (.val (g.1.2.2 88)), .c (.val (g.1.2.2 89)), .c (.val (g.1.2.2 90)), .c (.val (g.1.2.2 91)), .c (.val (g.1.2.2 92)), .c (.val (g.1.2.2 93)), .c (.val (g.1.2.2 94)), .c (.val (g.1.2.2 95)), .c (.val (g.1.2.2 96)), .c (.val (g.1.2.2 97)), .c (.val (g.1.2.2 98)), .c (.val (g.1.2.2 99)), .c (.val (g.1.2.2 100)), .c (.val (g.1.2.2 101)), .c (.val (g.1.2.2 102)), .c (.val (g.1.2.2 103)), .c (.val (g.1.2.2 104)), .c (.val (g.1.2.2 105)), .c (.val (g.1.2.2 106)), .c (.val (g.1.2.2 107)), .c (.val (g.1.2.2 108)), .c (.val (g.1.2.2 109)), .c (.val (g.1.2.2 110)), .c (.val (g.1.2.2 111)), .c (.val (g.1.2.2 112)), .c (.val (g.1.2.2 113)), .c (.val (g.1.2.2 114)), .c (.val (g.1.2.2 115)), .c (.val (g.1.2.2 116)), .c (.val (g.1.2.2 117)), .c (.val (g.1.2.2 118)), .c (.val (g.1.2.2 119)), .c (.val (g.1.2.2 120)), .c (.val (g.1.2.2 121)), .c (.val (g.1.2.2 122)), .c (.val (g.1.2.2 123)), .c (.val (g.1.2.2 124)), .c (.val (g.1.2.2 125)), .c (.val (g.1.2.2 126)), .c (.val (g.1.2.2 127)), .c (.val (g.1.2.2 128)), .c (.val (g.1.2.2 129)), .c (.val (g.1.2.2 130)), .c (.val (g.1.2.2 131)), .c (.val (g.1.2.2 132)), .c (.val (g.1.2.2 133)), .c (.val (g.1.2.2 134)), .c (.val (g.1.2.2 135)), .c (.val (g.1.2.2 136)), .c (.val (g.1.2.2 137)), .c (.val (g.1.2.2 138)), .c (.val (g.1.2.2 139)), .c (.val (g.1.2.2 140))]) (fun g => [⟨26, false, ptC p, 0⟩, g.1.2.1.blk, ⟨29, nlc, trsC [a0, a1, a2, a3, a4, a5, a6, a7, a8, a9, a10, a11], (capc - 12) * 9⟩, ⟨105, false, [.int (0) (by decide), .int (0) (by decide), .int (-1) (by decide), .int (0) (by decide), .int (0) (by decide), .int (1) (by decide), .int (0) (by decide), .int (-1) (by decide), .int (0) (by decide), .int (0) (by decide), .int (1) (by decide), .int (0) (by decide), .int (-1) (by decide), .int (0) (by decide), .int (0) (by decide), .int (1) (by decide), .int (0) (by decide), .int (0) (by decide)], 0⟩]) (fun g => 6 - g.1.1) ?_ ?_
        · refine ⟨[0, 1, 3, 4], [0, 1, 5, 7, 8, 9, 10, 11, 13, 14, 15], [1], fun vs2 => ?_⟩
          conv => whnf
          refine ⟨o.new.1, ?_⟩
          conv => whnf
          refine ⟨_, _, ?_, ?_, ⟨(0, o, vs2), Nat.zero_le _, ho⟩, rfl, rfl⟩
          · exact ⟨fun _ => rfl, fun _ => rfl, fun _ => rfl, fun _ => rfl, fun _ => rfl, fun _ => rfl, fun _ => rfl, fun _ => rfl, fun _ => rfl, fun _ => rfl, fun _ => rfl, fun _ => rfl, stm _⟩
          · exact ⟨⟨rfl, rfl, rfl, fun _ => rfl⟩, ⟨rfl, rfl, rfl, fun _ => rfl⟩, ⟨rfl, rfl, rfl, fun _ => rfl⟩, ⟨rfl, rfl, rfl, fun _ => rfl⟩, trivial⟩
        · rintro ⟨⟨f, o2, vs2⟩, hf, ho2⟩
          have hf : f ≤ 6 := hf
          have ho2 : o2.l.length ≤ k * 12 + 2 * f := ho2
          have hcase : f = 6 ∨ f = 0 ∨ f = 1 ∨ f = 2 ∨ f = 3 ∨ f = 4 ∨ f = 5 := by omega
          rcases hcase with rfl | rfl | rfl | rfl | rfl | rfl | rfl
          · conv => whnf
            refine ⟨[0, 1], [0, 1, 5, 7, 8], [1], fun vs3 => ?_⟩
            conv => whnf
            refine ⟨o2.new.1, ?_⟩
            conv => whnf
            refine ⟨_, _, ?_, ?_, ⟨(k + 1, o2, vs3), hk27, by show o2.l.length ≤ (k + 1) * 12; omega⟩, by show 27 - (k + 1) < 27 - k; omega, rfl, rfl⟩
            · exact ⟨fun _ => rfl, fun _ => rfl, fun _ => rfl, fun _ => rfl, fun _ => rfl, fun _ => rfl, fun _ => rfl, fun _ => rfl, sint_eq (wrap_add1 hk27 (ir_le (Nat.le_refl 27))) _ _, fun _ => rfl, fun _ => rfl, fun _ => rfl, stm _⟩
            · exact ⟨⟨rfl, rfl, rfl, fun _ => rfl⟩, ⟨rfl, rfl, rfl, fun _ => rfl⟩, trivial⟩
          · conv => whnf
            repeat' (first
              | (refine bcase_intro (fun _ => ?_) (fun _ => ?_) <;> conv => whnf)
              | (refine ⟨rfl, ?_⟩
                 conv => whnf
                 refine ⟨o2.app (app2_le ho2 hk (by decide)), fun c2 k2 => ?_⟩
                 conv => whnf
                 refine ⟨[0, 5, 2, 3], [0, 1, 5, 7, 8, 9, 10, 11, 13, 14, 15], [1], fun vs3 => ?_⟩
                 conv => whnf
                 refine ⟨pureL_append (trsC_pure o2.l) (fun _ _ => rfl), ?_⟩
                 conv => whnf
                 refine ⟨_, _, ?_, ?_, ⟨(1, o2.push [a0, a1] rfl c2 k2, vs3), (by decide : 1 ≤ 6), push_le2 (n := 2) ho2 [a0, a1] rfl rfl c2 k2⟩, (by decide : 6 - 1 < 6 - 0), rfl, rfl⟩
                 · exact ⟨fun _ => rfl, fun _ => rfl, fun _ => rfl, fun _ => rfl, fun _ => rfl, fun _ => rfl, fun _ => rfl, fun ρ => OT.push_sl o2 [a0, a1] rfl c2 k2 1 ρ, fun _ => rfl, fun _ => rfl, fun _ => rfl, stm _⟩
                 · exact ⟨⟨rfl, rfl, rfl, fun _ => rfl⟩, OT.push_blk o2 [a0, a1] rfl c2 k2 (fun _ => rfl), ⟨rfl, rfl, rfl, fun _ => rfl⟩, ⟨rfl, rfl, rfl, fun _ => rfl⟩, trivial⟩)
              | (refine ⟨[0, 1, 2, 3], [0, 1, 5, 7, 8, 9, 10, 11, 13, 14, 15], [1], fun vs3 => ?_⟩
                 conv => whnf
                 refine ⟨o2.new.1, ?_⟩
                 conv => whnf
                 refine ⟨_, _, ?_, ?_, ⟨(1, o2, vs3), (by decide : 1 ≤ 6), Nat.le_trans ho2 (by omega)⟩, (by decide : 6 - 1 < 6 - 0), rfl, rfl⟩
                 · exact ⟨fun _ => rfl, fun _ => rfl, fun _ => rfl, fun _ => rfl, fun _ => rfl, fun _ => rfl, fun _ => rfl, fun _ => rfl, fun _ => rfl, fun _ => rfl, fun _ => rfl, fun _ => rfl, stm _⟩
                 · exact ⟨⟨rfl, rfl, rfl, fun _ => rfl⟩, ⟨rfl, rfl, rfl, fun _ => rfl⟩, ⟨rfl, rfl, rfl, fun _ => rfl⟩, ⟨rfl, rfl, rfl, fun _ => rfl⟩, trivial⟩)
              | (rw [eff_shr (ho := ?hos0) (hx := ?hxs0) (hy := ?hys0) (hb := ?hbs0)]
                 case hos0 => rfl
                 case hxs0 => rfl
                 case hys0 => rfl
                 case hbs0 => exact u64_wrap_nonneg _
                 conv => whnf))
          · conv => whnf
            repeat' (first
              | (refine bcase_intro (fun _ => ?_) (fun _ => ?_) <;> conv => whnf)
              | (refine ⟨rfl, ?_⟩
                 conv => whnf
                 refine ⟨o2.app (app2_le ho2 hk (by decide)), fun c2 k2 => ?_⟩
                 conv => whnf
                 refine ⟨[0, 5, 2, 3], [0, 1, 5, 7, 8, 9, 10, 11, 13, 14, 15], [1], fun vs3 => ?_⟩
                 conv => whnf
                 refine ⟨pureL_append (trsC_pure o2.l) (fun _ _ => rfl), ?_⟩
                 conv => whnf
                 refine ⟨_, _, ?_, ?_, ⟨(2, o2.push [a2, a3] rfl c2 k2, vs3), (by decide : 2 ≤ 6), push_le2 (n := 2) ho2 [a2, a3] rfl rfl c2 k2⟩, (by decide : 6 - 2 < 6 - 1), rfl, rfl⟩
                 · exact ⟨fun _ => rfl, fun _ => rfl, fun _ => rfl, fun _ => rfl, fun _ => rfl, fun _ => rfl, fun _ => rfl, fun ρ => OT.push_sl o2 [a2, a3] rfl c2 k2 1 ρ, fun _ => rfl, fun _ => rfl, fun _ => rfl, stm _⟩
                 · exact ⟨⟨rfl, rfl, rfl, fun _ => rfl⟩, OT.push_blk o2 [a2, a3] rfl c2 k2 (fun _ => rfl), ⟨rfl, rfl, rfl, fun _ => rfl⟩, ⟨rfl, rfl, rfl, fun _ => rfl⟩, trivial⟩)
              | (refine ⟨[0, 1, 2, 3], [0, 1, 5, 7, 8, 9, 10, 11, 13, 14, 15], [1], fun vs3 => ?_⟩
                 conv => whnf
                 refine ⟨o2.new.1, ?_⟩
                 conv => whnf
                 refine ⟨_, _, ?_, ?_, ⟨(2, o2, vs3), (by decide : 2 ≤ 6), Nat.le_trans ho2 (by omega)⟩, (by decide : 6 - 2 < 6 - 1), rfl, rfl⟩
                 · exact ⟨fun _ => rfl, fun _ => rfl, fun _ => rfl, fun _ => rfl, fun _ => rfl, fun _ => rfl, fun _ => rfl, fun _ => rfl, fun _ => rfl, fun _ => rfl, fun _ => rfl, fun _ => rfl, stm _⟩
                 · exact ⟨⟨rfl, rfl, rfl, fun _ => rfl⟩, ⟨rfl, rfl, rfl, fun _ => rfl⟩, ⟨rfl, rfl, rfl, fun _ => rfl⟩, ⟨rfl, rfl, rfl, fun _ => rfl⟩, trivial⟩)
              | (rw [eff_shr (ho := ?hos1) (hx := ?hxs1) (hy := ?hys1) (hb := ?hbs1)]
                 case hos1 => rfl
                 case hxs1 => rfl
                 case hys1 => rfl
                 case hbs1 => exact u64_wrap_nonneg _
                 conv => whnf))
          · conv => whnf
            repeat' (first
              | (refine bcase_intro (fun _ => ?_) (fun _ => ?_) <;> conv => whnf)
              | (refine ⟨rfl, ?_⟩
                 conv => whnf
                 refine ⟨o2.app (app2_le ho2 hk (by decide)), fun c2 k2 => ?_⟩
                 conv => whnf
                 refine ⟨[0, 5, 2, 3], [0, 1, 5, 7, 8, 9, 10, 11, 13, 14, 15], [1], fun vs3 => ?_⟩
                 conv => whnf
                 refine ⟨pureL_append (trsC_pure o2.l) (fun _ _ => rfl), ?_⟩
                 conv => whnf
                 refine ⟨_, _, ?_, ?_, ⟨(3, o2.push [a4, a5] rfl c2 k2, vs3), (by decide : 3 ≤ 6), push_le2 (n := 2) ho2 [a4, a5] rfl rfl c2 k2⟩, (by decide : 6 - 3 < 6 - 2), rfl, rfl⟩
                 · exact ⟨fun _ => rfl, fun _ => rfl, fun _ => rfl, fun _ => rfl, fun _ => rfl, fun _ => rfl, fun _ => rfl, fun ρ => OT.push_sl o2 [a4, a5] rfl c2 k2 1 ρ, fun _ => rfl, fun _ => rfl, fun _ => rfl, stm _⟩
                 · exact ⟨⟨rfl, rfl, rfl, fun _ => rfl⟩, OT.push_blk o2 [a4, a5] rfl c2 k2 (fun _ => rfl), ⟨rfl, rfl, rfl, fun _ => rfl⟩, ⟨rfl, rfl, rfl, fun _ => rfl⟩, trivial⟩)
              | (refine ⟨[0, 1, 2, 3], [0, 1, 5, 7, 8, 9, 10, 11, 13, 14, 15], [1], fun vs3 => ?_⟩
                 conv => whnf
                 refine ⟨o2.new.1, ?_⟩
                 conv => whnf
                 refine ⟨_, _, ?_, ?_, ⟨(3, o2, vs3), (by decide : 3 ≤ 6), Nat.le_trans ho2 (by omega)⟩, (by decide : 6 - 3 < 6 - 2), rfl, rfl⟩
                 · exact ⟨fun _ => rfl, fun _ => rfl, fun _ => rfl, fun _ => rfl, fun _ => rfl, fun _ => rfl, fun _ => rfl, fun _ => rfl, fun _ => rfl, fun _ => rfl, fun _ => rfl, fun _ => rfl, stm _⟩
                 · exact ⟨⟨rfl, rfl, rfl, fun _ => rfl⟩, ⟨rfl, rfl, rfl, fun _ => rfl⟩, ⟨rfl, rfl, rfl, fun _ => rfl⟩, ⟨rfl, rfl, rfl, fun _ => rfl⟩, trivial⟩)
              | (rw [eff_shr (ho := ?hos2) (hx := ?hxs2) (hy := ?hys2) (hb := ?hbs2)]
                 case hos2 => rfl
                 case hxs2 => rfl
                 case hys2 => rfl
                 case hbs2 => exact u64_wrap_nonneg _
                 conv => whnf))
          · conv => whnf
            repeat' (first
              | (refine bcase_intro (fun _ => ?_) (fun _ => ?_) <;> conv => whnf)
              | (refine ⟨rfl, ?_⟩
                 conv => whnf
                 refine ⟨o2.app (app2_le ho2 hk (by decide)), fun c2 k2 => ?_⟩
                 conv => whnf
                 refine ⟨[0, 5, 2, 3], [0, 1, 5, 7, 8, 9, 10, 11, 13, 14, 15], [1], fun vs3 => ?_⟩
                 conv => whnf
                 refine ⟨pureL_append (trsC_pure o2.l) (fun _ _ => rfl), ?_⟩
                 conv => whnf
                 refine ⟨_, _, ?_, ?_, ⟨(4, o2.push [a6, a7] rfl c2 k2, vs3), (by decide : 4 ≤ 6), push_le2 (n := 2) ho2 [a6, a7] rfl rfl c2 k2⟩, (by decide : 6 - 4 < 6 - 3), rfl, rfl⟩
                 · exact ⟨fun _ => rfl, fun _ => rfl, fun _ => rfl, fun _ => rfl, fun _ => rfl, fun _ => rfl, fun _ => rfl, fun ρ => OT.push_sl o2 [a6, a7] rfl c2 k2 1 ρ, fun _ => rfl, fun _ => rfl, fun _ => rfl, stm _⟩
                 · exact ⟨⟨rfl, rfl, rfl, fun _ => rfl⟩, OT.push_blk o2 [a6, a7] rfl c2 k2 (fun _ => rfl), ⟨rfl, rfl, rfl, fun _ => rfl⟩, ⟨rfl, rfl, rfl, fun _ => rfl⟩, trivial⟩)
              | (refine ⟨[0, 1, 2, 3], [0, 1, 5, 7, 8, 9, 10, 11, 13, 14, 15], [1], fun vs3 => ?_⟩
                 conv => whnf
                 refine ⟨o2.new.1, ?_⟩
                 conv => whnf
                 refine ⟨_, _, ?_, ?_, ⟨(4, o2, vs3), (by decide : 4 ≤ 6), Nat.le_trans ho2 (by omega)⟩, (by decide : 6 - 4 < 6 - 3), rfl, rfl⟩
                 · exact ⟨fun _ => rfl, fun _ => rfl, fun _ => rfl, fun _ => rfl, fun _ => rfl, fun _ => rfl, fun _ => rfl, fun _ => rfl, fun _ => rfl, fun _ => rfl, fun _ => rfl, fun _ => rfl, stm _⟩
                 · exact ⟨⟨rfl, rfl, rfl, fun _ => rfl⟩, ⟨rfl, rfl, rfl, fun _ => rfl⟩, ⟨rfl, rfl, rfl, fun _ => rfl⟩, ⟨rfl, rfl, rfl, fun _ => rfl⟩, trivial⟩)
              | (rw [eff_shr (ho := ?hos3) (hx := ?hxs3) (hy := ?hys3) (hb := ?hbs3)]
                 case hos3 => rfl
                 case hxs3 => rfl
                 case hys3 => rfl
                 case hbs3 => exact u64_wrap_nonneg _
                 conv => whnf))
          · conv => whnf
            repeat' (first
              | (refine bcase_intro (fun _ => ?_) (fun _ => ?_) <;> conv => whnf)
              | (refine ⟨rfl, ?_⟩
                 conv => whnf
                 refine ⟨o2.app (app2_le ho2 hk (by decide)), fun c2 k2 => ?_⟩
                 conv => whnf
                 refine ⟨[0, 5, 2, 3], [0, 1, 5, 7, 8, 9, 10, 11, 13, 14, 15], [1], fun vs3 => ?_⟩
                 conv => whnf
                 refine ⟨pureL_append (trsC_pure o2.l) (fun _ _ => rfl), ?_⟩
                 conv => whnf
                 refine ⟨_, _, ?_, ?_, ⟨(5, o2.push [a8, a9] rfl c2 k2, vs3), (by decide : 5 ≤ 6), push_le2 (n := 2) ho2 [a8, a9] rfl rfl c2 k2⟩, (by decide : 6 - 5 < 6 - 4), rfl, rfl⟩
                 · exact ⟨fun _ => rfl, fun _ => rfl, fun _ => rfl, fun _ => rfl, fun _ => rfl, fun _ => rfl, fun _ => rfl, fun ρ => OT.push_sl o2 [a8, a9] rfl c2 k2 1 ρ, fun _ => rfl, fun _ => rfl, fun _ => rfl, stm _⟩
                 · exact ⟨⟨rfl, rfl, rfl, fun _ => rfl⟩, OT.push_blk o2 [a8, a9] rfl c2 k2 (fun _ => rfl), ⟨rfl, rfl, rfl, fun _ => rfl⟩, ⟨rfl, rfl, rfl, fun _ => rfl⟩, trivial⟩)
              | (refine ⟨[0, 1, 2, 3], [0, 1, 5, 7, 8, 9, 10, 11, 13, 14, 15], [1], fun vs3 => ?_⟩
                 conv => whnf
                 refine ⟨o2.new.1, ?_⟩
                 conv => whnf
                 refine ⟨_, _, ?_, ?_, ⟨(5, o2, vs3), (by decide : 5 ≤ 6), Nat.le_trans ho2 (by omega)⟩, (by decide : 6 - 5 < 6 - 4), rfl, rfl⟩
                 · exact ⟨fun _ => rfl, fun _ => rfl, fun _ => rfl, fun _ => rfl, fun _ => rfl, fun _ => rfl, fun _ => rfl, fun _ => rfl, fun _ => rfl, fun _ => rfl, fun _ => rfl, fun _ => rfl, stm _⟩
                 · exact ⟨⟨rfl, rfl, rfl, fun _ => rfl⟩, ⟨rfl, rfl, rfl, fun _ => rfl⟩, ⟨rfl, rfl, rfl, fun _ => rfl⟩, ⟨rfl, rfl, rfl, fun _ => rfl⟩, trivial⟩)
              | (rw [eff_shr (ho := ?hos4) (hx := ?hxs4) (hy := ?hys4) (hb := ?hbs4)]
                 case hos4 => rfl
                 case hxs4 => rfl
                 case hys4 => rfl
                 case hbs4 => exact u64_wrap_nonneg _
                 conv => whnf))
          · conv => whnf
            repeat' (first
              | (refine bcase_intro (fun _ => ?_) (fun _ => ?_) <;> conv => whnf)
              | (refine ⟨rfl, ?_⟩
                 conv => whnf
                 refine ⟨o2.app (app2_le ho2 hk (by decide)), fun c2 k2 => ?_⟩
                 conv => whnf
                 refine ⟨[0, 5, 2, 3], [0, 1, 5, 7, 8, 9, 10, 11, 13, 14, 15], [1], fun vs3 => ?_⟩
                 conv => whnf
                 refine ⟨pureL_append (trsC_pure o2.l) (fun _ _ => rfl), ?_⟩
                 conv => whnf
                 refine ⟨_, _, ?_, ?_, ⟨(6, o2.push [a10, a11] rfl c2 k2, vs3), (by decide : 6 ≤ 6), push_le2 (n := 2) ho2 [a10, a11] rfl rfl c2 k2⟩, (by decide : 6 - 6 < 6 - 5), rfl, rfl⟩
                 · exact ⟨fun _ => rfl, fun _ => rfl, fun _ => rfl, fun _ => rfl, fun _ => rfl, fun _ => rfl, fun _ => rfl, fun ρ => OT.push_sl o2 [a10, a11] rfl c2 k2 1 ρ, fun _ => rfl, fun _ => rfl, fun _ => rfl, stm _⟩
                 · exact ⟨⟨rfl, rfl, rfl, fun _ => rfl⟩, OT.push_blk o2 [a10, a11] rfl c2 k2 (fun _ => rfl), ⟨rfl, rfl, rfl, fun _ => rfl⟩, ⟨rfl, rfl, rfl, fun _ => rfl⟩, trivial⟩)
              | (refine ⟨[0, 1, 2, 3], [0, 1, 5, 7, 8, 9, 10, 11, 13, 14, 15], [1], fun vs3 => ?_⟩
                 conv => whnf
                 refine ⟨o2.new.1, ?_⟩
                 conv => whnf
                 refine ⟨_, _, ?_, ?_, ⟨(6, o2, vs3), (by decide : 6 ≤ 6), Nat.le_trans ho2 (by omega)⟩, (by decide : 6 - 6 < 6 - 5), rfl, rfl⟩
                 · exact ⟨fun _ => rfl, fun _ => rfl, fun _ => rfl, fun _ => rfl, fun _ => rfl, fun _ => rfl, fun _ => rfl, fun _ => rfl, fun _ => rfl, fun _ => rfl, fun _ => rfl, fun _ => rfl, stm _⟩
                 · exact ⟨⟨rfl, rfl, rfl, fun _ => rfl⟩, ⟨rfl, rfl, rfl, fun _ => rfl⟩, ⟨rfl, rfl, rfl, fun _ => rfl⟩, ⟨rfl, rfl, rfl, fun _ => rfl⟩, trivial⟩)
              | (rw [eff_shr (ho := ?hos5) (hx := ?hxs5) (hy := ?hys5) (hb := ?hbs5)]
                 case hos5 => rfl
                 case hxs5 => rfl
                 case hys5 => rfl
                 case hbs5 => exact u64_wrap_nonneg _
                 conv => whnf))
    · have hk27 : k = 27 := Nat.le_antisymm hk (k_ge hge)
      subst hk27
      conv => whnf
      refine ⟨[1], [0], fun vs3 => ?_⟩
      conv => whnf
      refine ⟨o.new.1, ?_⟩
      conv => whnf
      exact ⟨_, [o.blk], rfl, ⟨⟨rfl, rfl, rfl, fun _ => rfl⟩, trivial⟩, ⟨o.new, trivial⟩, o.sl 0, fun _ => rfl, hc o (by omega)⟩
end Go.Proofs.YtefgchmbdijjdaaGreatDoor

namespace Go.Proofs.YtefgchmbdijjdaaGreatDoor
open Go.RowKit
set_option maxRecDepth 100000

structure ZI where
  x : Int
  hx : IR x
def intsC : List ZI → List C
  | [] => []
  | z :: l => .int z.x z.hx :: intsC l
theorem intsC_pure : ∀ l : List ZI, PureL (intsC l)
  | [] => fun _ _ => rfl
  | z :: l => fun ρ ρ' => by
    have h := intsC_pure l ρ ρ'
    rw [intsC, List.flatMap_cons, List.flatMap_cons, h]; rfl
theorem intsC_size : ∀ l : List ZI, sizeC (intsC l) = l.length
  | [] => rfl
  | z :: l => by rw [intsC, List.length_cons, ← intsC_size l]; show 1 + _ = _; omega
theorem intsC_append : ∀ a b : List ZI, intsC (a ++ b) = intsC a ++ intsC b
  | [], _ => rfl
  | z :: l, b => by rw [List.cons_append, intsC, intsC_append l b]; rfl
theorem subC_ints (l : List ZI) {k : Nat} (hk : k < l.length) : subC (intsC l) (0 + k * 1) 1 = some [.int l[k].x l[k].hx] := by
  have e : intsC l = intsC (l.take k) ++ ([.int l[k].x l[k].hx] ++ intsC (l.drop (k + 1))) := by
    have h : l = l.take k ++ (l[k] :: l.drop (k + 1)) := by rw [← List.drop_eq_getElem_cons hk, List.take_append_drop]
    rw [show intsC l = intsC (l.take k ++ (l[k] :: l.drop (k + 1))) by rw [← h], intsC_append]
    rfl
  have s : sizeC (intsC (l.take k)) = 0 + k * 1 := by rw [intsC_size]; simp; omega
  rw [e, ← s]
  exact subC_app _ [.int l[k].x l[k].hx] _
def isN (v : SV) : Prop := ∃ (k : Nat) (h : IR k), k ≤ 8 ∧ v = .c (.int k h)
theorem ir8 {k : Nat} (h : k ≤ 8) : IR k := by unfold IR; omega
theorem isN_mk {k : Nat} {h : IR k} (hk : k ≤ 8) : isN (.c (.int k h)) := ⟨k, h, hk, rfl⟩
theorem isN_succ {k : Nat} {h : IR (IntKind.i64.wrap ((k : Int) + 1))} (hk : k ≤ 7) : isN (.c (.int (IntKind.i64.wrap ((k : Int) + 1)) h)) := ⟨k + 1, ir8 (by omega), by omega, cint (wrap_add1 (show k < 8 by omega) (ir8 (Nat.le_refl 8))) _⟩
/-- the arguments of hill: two small numbers, a step, a list of numbers -/
def okHill (args : List SV) (ros : List Blk) : Prop := ∃ x y s nl len cap h ty L, args = [x, y, s, .c (.sli nl 0 0 len cap h)] ∧ isN x ∧ isN y ∧ isInt s ∧ ros = [⟨ty, true, intsC L, 0⟩] ∧ len ≤ L.length
def cHill : NewC := fun args ros K => okHill args ros ∧ ∀ p : PT, K (.agg (ptC p)) []
def okHills (args : List SV) (ros : List Blk) : Prop := ∃ n s nl len cap h ty L, args = [n, s, .c (.sli nl 0 0 len cap h)] ∧ isInt n ∧ isInt s ∧ ros = [⟨ty, true, intsC L, 0⟩] ∧ len ≤ L.length
def cHills : NewC := fun args ros K => okHills args ros ∧ ∀ o : OT, o.l.length ≤ 72 → K (o.sl 1) [o.blk]
theorem hill_ix {x y : Nat} (hx : x ≤ 8) (hy : y ≤ 8) {n : Nat} : (IntKind.i64.wrap (IntKind.i64.wrap ((y : Int) * 7) + (x : Int))).tmod (n : Int) = (((y * 7 + x) % n : Nat) : Int) := by
  rw [wrap_id (z := (y : Int) * 7) (by unfold IR; omega), wrap_id (by unfold IR; omega), show (y : Int) * 7 + x = ((y * 7 + x : Nat) : Int) by omega]
  rfl
theorem pt_mk {x y z : Int} {hx : IR x} {hy : IR y} {hz : IR z} : SameV (.agg [.int x hx, .int y hy, .int z hz]) (.agg (ptC ⟨x, y, z, hx, hy, hz⟩)) := fun _ => rfl
noncomputable def modF : FuncId → Option Func := lk [(12, Tryz.f12)]
theorem modF_ok : ∀ f fn, modF f = some fn → FnOk Tryz.prog f fn := lkF_ok fun x hx => by
  simp only [List.mem_cons, List.not_mem_nil, or_false] at hx
  subst hx
  · exact ⟨Tryz.func12, by kernel_rfl, by kernel_rfl⟩
set_option maxHeartbeats 4000000 in
theorem csHill : CSp Tryz.prog 100 cHill := csp_of (env_ok base_ok 20) mixed (inl_ok (env_ok base_ok 20) mixed modF_ok 1) ⟨Tryz.func100, by kernel_rfl, by kernel_rfl⟩ fun args ros K hc => by
  obtain ⟨⟨_, _, _, nl, len, cap, hl, ty, L, rfl, ⟨x, hxi, hx, rfl⟩, ⟨y, hyi, hy, rfl⟩, ⟨s, hs, rfl⟩, rfl, hL⟩, hc⟩ := hc
  refine ⟨fun ρ ρ' e => ?_, ?_⟩
  · have := e 0 (Nat.zero_lt_one)
    simp only [List.map, SV.den, C.den, C.cells, this]
  conv => whnf
  refine bcase_intro (fun hpos => ?_) (fun _ => ?_)
  · have hpos : 0 < len := len_pos hl hpos
    have hir : IR (((y * 7 + x) % len : Nat) : Int) := by have := Nat.mod_lt (y * 7 + x) hpos; have := hl.ir; unfold IR at *; omega
    conv => whnf
    rw [eff_rem (hi := hir) (ho := ?hor) (hx := ?hxr) (hy := ?hyr) (hb0 := ?hb0r) (hc := ?hcr)]
    case hor => rfl
    case hxr => rfl
    case hyr => rfl
    case hb0r => omega
    case hcr => exact hill_ix hx hy
    conv => whnf
    rw [eff_index_sli (ho := ?hoi) (hT := ?hTi) (hx := ?hxi) (hk := ?hki) (hlt := ?hlti)]
    case hoi => rfl
    case hTi => rfl
    case hxi => rfl
    case hki => rfl
    case hlti => exact Nat.mod_lt _ hpos
    conv => whnf
    rw [eff_load_sub (ho := ?hol) (hT := ?hTl) (hx := ?hxl) (hb := ?hbl) (hm := ?hml) (hv := ?hvl)]
    case hol => rfl
    case hTl => rfl
    case hxl => rfl
    case hbl => rfl
    case hml => exact subC_ints L (Nat.lt_of_lt_of_le (Nat.mod_lt _ hpos) hL)
    case hvl => rfl
    conv => whnf
    refine ⟨[0], [0], fun vs => ?_⟩
    conv => whnf
    refine ⟨intsC_pure L, ?_⟩
    conv => whnf
    exact ⟨_, [], rfl, ⟨⟨rfl, rfl, rfl, fun _ => rfl⟩, trivial⟩, trivial, _, pt_mk, hc _⟩
  · conv => whnf
    refine ⟨[0], [0], fun vs => ?_⟩
    conv => whnf
    refine ⟨intsC_pure L, ?_⟩
    conv => whnf
    exact ⟨_, [], rfl, ⟨⟨rfl, rfl, rfl, fun _ => rfl⟩, trivial⟩, trivial, _, pt_mk, hc _⟩
def hillsC : List (FuncId × NewC) := (100, cHill) :: shapeC
theorem hillsC_ok : AllC Tryz.prog hillsC := .cons csHill shapeC_ok
theorem hills_mod (n : Int) : ∃ M : Nat, M ≤ 6 ∧ IntKind.i64.wrap (1 + (IntKind.i64.wrap (n.tmod 6 + 6)).tmod 6) = M := by
  have h1 : -6 < n.tmod 6 := Int.lt_tmod_of_pos n (by decide)
  have h2 : n.tmod 6 < 6 := Int.tmod_lt_of_pos n (by decide)
  rw [wrap_id (z := n.tmod 6 + 6) (by unfold IR; omega)]
  have h3 : 0 ≤ (n.tmod 6 + 6).tmod 6 := Int.tmod_nonneg _ (by omega)
  have h4 : (n.tmod 6 + 6).tmod 6 < 6 := Int.tmod_lt_of_pos _ (by decide)
  rw [wrap_id (by unfold IR; omega)]
  exact ⟨(1 + (n.tmod 6 + 6).tmod 6).toNat, by omega, by omega⟩
theorem app2_h {y x n m : Nat} (h : n ≤ y * 12 + 2 * x) (hm : m = 2) (hy : y ≤ 8) (hx : x ≤ 8) : (n + m) * 9 ≤ 5000000000000 := by omega
theorem push_leh {a f : Nat} {o : OT} (h : o.l.length ≤ a + 2 * f) (m : List TR) (h2n : m.length = 2) (cap2 : Nat) (h2 : SliOk (o.nl && decide (m.length = 0)) (o.l.length + m.length) cap2) : (o.push m rfl cap2 h2).l.length ≤ a + 2 * (f + 1) := by
  simp only [OT.push, List.length_append]; omega
set_option maxHeartbeats 40000000 in
theorem csHills : CSp Tryz.prog 68 cHills := csp_of (env_ok base_ok 0) mixed (hnew_ok hillsC_ok (inl_ok (env_ok base_ok 20) mixed modF_ok 1)) ⟨Tryz.func68, by kernel_rfl, by kernel_rfl⟩ fun args ros K hc => by
  obtain ⟨⟨_, _, nl, len, cap, hl, ty, L, rfl, ⟨n, hn, rfl⟩, ⟨s, hs, rfl⟩, rfl, hL⟩, hc⟩ := hc
  obtain ⟨M, hM6, hM⟩ := hills_mod n
  have hM8 : M ≤ 8 := by omega
  refine ⟨fun ρ ρ' e => ?_, ?_⟩
  · have := e 0 (Nat.zero_lt_one)
    simp only [List.map, SV.den, C.den, C.cells, this]
  conv => whnf
  refine loop_st (G := {g : Nat × OT × (Nat → Value) // g.1 ≤ M ∧ g.2.1.l.length ≤ g.1 * 12}) (fun g => [.c (.int (M : Nat) (ir8 hM8)), .c (.int s hs), .c (.sli nl 0 0 len cap hl), .c (.val (g.1.2.2 3)), .c (.val (g.1.2.2 4)), .c (.val (g.1.2.2 5)), .c (.val (g.1.2.2 6)), g.1.2.1.sl 1, .c (.int (g.1.1 : Nat) (ir8 (Nat.le_trans g.2.1 hM8))), .c (.val (g.1.2.2 9)), .c (.val (g.1.2.2 10)), .c (.val (g.1.2.2 11)), .c (.val (g.1.2.2 12)), .c (.val (g.1.2.2 13)), .c (.val (g.1.2.2 14)), .c (.val (g.1.2.2 15)), .c (.val (g.1.2.2 16)), .c (.val (g.1.2.2 17)), .c (.val (g.1.2.2 18)), .c (.val (g.1.2.2 19)), .c (.val (g.1.2.2 20)), .c (.val (g.1.2.2 21)), .c (.val (g.1.2.2 22)), .c (.val (g.1.2.2 23)), .c (.val (g.1.2.2 24)), .c (.val (g.1.2.2 25)), .c (.val (g.1.2.2 26)), .c (.val (g.1.2.2 27)), .c (.val (g.1.2.2 28)), .c (.val (g.1.2.2 29)), .c (.val (g.1.2.2 30)), .c (.val (g.1.2.2 31)), .c (.val (g.1.2.2 32)), .c (.val (g.1.2.2 33)), .c (.val (g.1.2.2 34)), .c (.val (g.1.2.2 35)), .c (.val (g.1.2.2 36)), .c (.val (g.1.2.2 37)), .c (.val (g.1.2.2 38)), .c (.val (g.1.2.2 39)), .c (.val (g.1.2.2 40)), .c (.val (g.1.2.2 41)), .c (.val (g.1.2.2 42)), .c (.val (g.1.2.2 43)), .c (.val (g.1.2.2 44)), .c (.val (g.1.2.2 45)), .c (.val (g.1.2.2 46)), .c (.val (g.1.2.2 47)), .c (.val (g.1.2.2 48)), .c (.val (g.1.2.2 49)), .c (.val (g.1.2.2 50)), .c (.val (g.1.2.2 51)), .c (.val (g.1.2.2 52)), .c (.val (g.1.2.2 53)), .c (.val (g.1.2.2 54)), .c (.val (g.1.2.2 55)), .c (.val (g.1.2.2 56)), .c (.val (g.1.2.2 57)), .c (.val (g.1.2.2 58))]) (fun g => [⟨ty, true, intsC L, 0⟩, g.1.2.1.blk]) (fun g => M - g.1.1) ?_ ?_
  · refine ⟨[0, 1000 + 29], [0, 1, 2, 7, 8], [0], fun vs => ?_⟩
    conv => whnf
    refine ⟨intsC_pure L, ?_⟩
    conv => whnf
    refine ⟨_, _, ?_, ?_, ⟨(0, OT.none, vs), Nat.zero_le _, Nat.zero_le _⟩, rfl, rfl⟩
    · exact ⟨sint_eq hM _ _, fun _ => rfl, fun _ => rfl, fun _ => rfl, fun _ => rfl, fun _ => rfl, fun _ => rfl, fun _ => rfl, fun _ => rfl, fun _ => rfl, fun _ => rfl, fun _ => rfl, stm _⟩
    · exact ⟨⟨rfl, rfl, rfl, fun _ => rfl⟩, ⟨rfl, rfl, rfl, fun _ => rfl⟩, trivial⟩
  · rintro ⟨⟨y, o, vs⟩, hy, ho⟩
    have hy : y ≤ M := hy
    have ho : o.l.length ≤ y * 12 := ho
    conv => whnf
    refine bcase_intro (fun hlt => ?_) (fun hge => ?_)
    · have hyM : y < M := n_lt hlt
      have hy8 : y ≤ 8 := by omega
      have hy7 : y ≤ 7 := by omega
      conv => whnf
      refine loop_st (G := {g : Nat × OT × (Nat → Value) // g.1 ≤ M ∧ g.2.1.l.length ≤ y * 12 + 2 * g.1}) (fun g => [.c (.int (M : Nat) (ir8 hM8)), .c (.int s hs), .c (.sli nl 0 0 len cap hl), .c (.val (g.1.2.2 3)), .c (.val (g.1.2.2 4)), .c (.val (g.1.2.2 5)), .c (.val (g.1.2.2 6)), g.1.2.1.sl 1, .c (.int (y : Nat) (ir8 (Nat.le_trans hy hM8))), .c (.int (g.1.1 : Nat) (ir8 (Nat.le_trans g.2.1 hM8))), .c (.val (g.1.2.2 10)), .c (.val (g.1.2.2 11)), .c (.val (g.1.2.2 12)), .c (.val (g.1.2.2 13)), .c (.val (g.1.2.2 14)), .c (.val (g.1.2.2 15)), .c (.val (g.1.2.2 16)), .c (.val (g.1.2.2 17)), .c (.val (g.1.2.2 18)), .c (.val (g.1.2.2 19)), .c (.val (g.1.2.2 20)), .c (.val (g.1.2.2 21)), .c (.val (g.1.2.2 22)), .c (.val (g.1.2.2 23)), .c (.val (g.1.2.2 24)), .c (.val (g.1.2.2 25)), .c (.val (g.1.2.2 26)), .c (.val (g.1.2.2 27)), .c (.val (g.1.2.2 28)), .c (.val (g.1.2.2 29)), .c (.val (g.1.2.2 30)), .c (.val (g.1.2.2 31)), .c (.val (g.1.2.2 32)), .c (.val (g.1.2.2 33)), .c (.val (g.1.2.2 34)), .c (.val (g.1.2.2 35)), .c (.val (g.1.2.2 36)), .c (.val (g.1.2.2 37)), .c (.val (g.1.2.2 38)), .c (.val (g.1.2.2 39)), .c (.val (g.1.2.2 40)), .c (.val (g.1.2.2 41)), .c (.val (g.1.2.2 42)), .c (.val (g.1.2.2 43)), .c (.val (g.1.2.2 44)), .c (.val (g.1.2.2 45)), .c (.val (g.1.2.2 46)), .c (.val (g.1.2.2 47)), .c (.val (g.1.2.2 48)), .c (.val (g.1.2.2 49)), .c (.val (g.1.2.2 50)), .c (.val (g.1.2.2 51)), .c (.val (g.1.2.2 52)), .c (.val (g.1.2.2 53)), .c (.val (g.1.2.2 54)), .c (.val (g.1.2.2 55)), .c (.val (g.1.2.2 56)), .c (.val (g.1.2.2 57)), .c (.val (g.1.2.2 58))]) (fun g => [⟨ty, true, intsC L, 0⟩, g.1.2.1.blk]) (fun g => M - g.1.1) ?_ ?_
      · refine ⟨[0, 1], [0, 1, 2, 7, 8, 9], [0, 1], fun vs2 => ?_⟩
        conv => whnf
        refine ⟨intsC_pure L, o.new.1, ?_⟩
        conv => whnf
        refine ⟨_, _, ?_, ?_, ⟨(0, o, vs2), Nat.zero_le _, ho⟩, rfl, rfl⟩
        · exact ⟨fun _ => rfl, fun _ => rfl, fun _ => rfl, fun _ => rfl, fun _ => rfl, fun _ => rfl, fun _ => rfl, fun _ => rfl, fun _ => rfl, fun _ => rfl, fun _ => rfl, fun _ => rfl, stm _⟩
        · exact ⟨⟨rfl, rfl, rfl, fun _ => rfl⟩, ⟨rfl, rfl, rfl, fun _ => rfl⟩, trivial⟩
      · rintro ⟨⟨x, o2, vs2⟩, hx, ho2⟩
        have hx : x ≤ M := hx
        have ho2 : o2.l.length ≤ y * 12 + 2 * x := ho2
        conv => whnf
        refine bcase_intro (fun hlt => ?_) (fun hge => ?_)
        · have hxM : x < M := n_lt hlt
          have hx8 : x ≤ 8 := by omega
          have hx7 : x ≤ 7 := by omega
          conv => whnf
          refine ⟨⟨intsC_pure L, trivial⟩, ⟨_, _, _, _, _, _, _, _, _, rfl, isN_mk hx8, isN_mk hy8, isInt_mk, rfl, hL⟩, fun p1 => ?_⟩
          conv => whnf
          refine ⟨⟨intsC_pure L, trivial⟩, ⟨_, _, _, _, _, _, _, _, _, rfl, isN_succ hx7, isN_mk hy8, isInt_mk, rfl, hL⟩, fun p2 => ?_⟩
          conv => whnf
          refine ⟨⟨intsC_pure L, trivial⟩, ⟨_, _, _, _, _, _, _, _, _, rfl, isN_succ hx7, isN_succ hy7, isInt_mk, rfl, hL⟩, fun p3 => ?_⟩
          conv => whnf
          refine ⟨⟨intsC_pure L, trivial⟩, ⟨_, _, _, _, _, _, _, _, _, rfl, isN_mk hx8, isN_succ hy7, isInt_mk, rfl, hL⟩, fun p4 => ?_⟩
          conv => whnf
          refine ⟨fun _ _ => rfl, ?_⟩
          conv => whnf
          refine ⟨fun _ _ => rfl, ?_⟩
          conv => whnf
          refine ⟨fun _ _ => rfl, ?_⟩
          conv => whnf
          refine ⟨fun _ _ => rfl, ?_⟩
          conv => whnf
          refine ⟨trivial, ⟨_, _, _, _, rfl, ⟨p1, rfl⟩, ⟨p2, rfl⟩, ⟨p3, rfl⟩, ⟨p4, rfl⟩⟩, rfl, ?_⟩
          intro q hq
          conv => whnf
          rw [q.src]
          conv => whnf
          refine ⟨allOne_trs _, ?_⟩
          conv => whnf
          refine ⟨o2.app (app2_h ho2 hq hy8 hx8), fun c2 k2 => ?_⟩
          conv => whnf
          refine ⟨[0, 7], [0, 1, 2, 7, 8, 9], [0, 1], fun vs3 => ?_⟩
          conv => whnf
          refine ⟨intsC_pure L, pureL_append (trsC_pure o2.l) (trsC_pure q.l), ?_⟩
          conv => whnf
          refine ⟨_, _, ?_, ?_, ⟨(x + 1, o2.push q.l rfl c2 k2, vs3), hxM, push_leh ho2 _ hq c2 k2⟩, (by omega : M - (x + 1) < M - x), rfl, rfl⟩
          · exact ⟨fun _ => rfl, fun _ => rfl, fun _ => rfl, fun _ => rfl, fun _ => rfl, fun _ => rfl, fun _ => rfl, fun ρ => OT.push_sl o2 q.l rfl c2 k2 1 ρ, fun _ => rfl, sint_eq (wrap_add1 hxM (ir8 hM8)) _ _, fun _ => rfl, fun _ => rfl, stm _⟩
          · exact ⟨⟨rfl, rfl, rfl, fun _ => rfl⟩, OT.push_blk o2 q.l rfl c2 k2 (fun _ => rfl), trivial⟩
        · have hx6 : x ≤ 6 := by omega
          conv => whnf
          refine ⟨[0, 1], [0, 1, 2, 7, 8], [0, 1], fun vs3 => ?_⟩
          conv => whnf
          refine ⟨intsC_pure L, o2.new.1, ?_⟩
          conv => whnf
          refine ⟨_, _, ?_, ?_, ⟨(y + 1, o2, vs3), hyM, (by omega : o2.l.length ≤ (y + 1) * 12)⟩, (by omega : M - (y + 1) < M - y), rfl, rfl⟩
          · exact ⟨fun _ => rfl, fun _ => rfl, fun _ => rfl, fun _ => rfl, fun _ => rfl, fun _ => rfl, fun _ => rfl, fun _ => rfl, sint_eq (wrap_add1 hyM (ir8 hM8)) _ _, fun _ => rfl, fun _ => rfl, fun _ => rfl, stm _⟩
          · exact ⟨⟨rfl, rfl, rfl, fun _ => rfl⟩, ⟨rfl, rfl, rfl, fun _ => rfl⟩, trivial⟩
    · have hy6 : y ≤ 6 := by omega
      conv => whnf
      refine ⟨[0, 1], [0, 1], fun vs3 => ?_⟩
      conv => whnf
      refine ⟨intsC_pure L, o.new.1, ?_⟩
      conv => whnf
      exact ⟨_, [o.blk], rfl, ⟨⟨rfl, rfl, rfl, fun _ => rfl⟩, ⟨rfl, rfl, rfl, fun _ => rfl⟩, trivial⟩, ⟨o.new, trivial⟩, o.sl 1, fun _ => rfl, hc o (by omega)⟩
end Go.Proofs.YtefgchmbdijjdaaGreatDoor

namespace Go.Proofs.YtefgchmbdijjdaaGreatDoor
open Go.RowKit
set_option maxRecDepth 100000

/-- a list of numbers of the caller's, or an empty one -/
def okHs (v : C) (ty : TypeId) (L : List ZI) : Prop := (∃ nl len cap h, v = .sli nl 0 0 len cap h ∧ len ≤ L.length) ∨ (∃ a cap, v = .val (.slice a 0 cap) ∧ L = [] ∧ ty = 0)
def okShape (args : List SV) (ros : List Blk) : Prop := ∃ b nl len cap h ty L, args = [.c (.val (.int .u32 b)), .c (.sli nl 0 0 len cap h)] ∧ ros = [⟨ty, true, intsC L, 0⟩] ∧ len ≤ L.length
/-- an empty list of heights -/
def okShape0 (args : List SV) (ros : List Blk) : Prop := ∃ b a cap, args = [.c (.val (.int .u32 b)), .c (.val (.slice a 0 cap))] ∧ ros = []
def cShape : NewC := fun args ros K => (okShape args ros ∧ ∀ o : OT, o.l.length ≤ 324 → K (o.sl 1) [o.blk]) ∨ (okShape0 args ros ∧ ∀ o : OT, o.l.length ≤ 324 → K (o.sl 0) [o.blk])
def makeC : List (FuncId × NewC) := [(68, cHills), (25, cSome 324 okVox)]
theorem makeC_ok : AllC Tryz.prog makeC := .cons csHills (.cons csVox .nil)
theorem min30 (n : Nat) : minI (n : Int) 30 = ((min n 30 : Nat) : Int) := by unfold minI; split <;> omega
theorem sliOk_le {nl : Bool} {len cap k : Nat} (h : SliOk nl len cap) (hk : k ≤ len) : SliOk nl k cap := ⟨Nat.le_trans hk h.1, h.2.1, h.2.2⟩
set_option maxHeartbeats 4000000 in
theorem csShape : CSp Tryz.prog 19 cShape := csp_of (env_ok base_ok 0) mixed (hnew_ok makeC_ok (inl_ok (env_ok base_ok 20) mixed modF_ok 1)) ⟨Tryz.func19, by kernel_rfl, by kernel_rfl⟩ fun args ros K hc => by
  rcases hc with ⟨⟨b, nl, len, cap, hl, ty, L, rfl, rfl, hL⟩, hc⟩ | ⟨⟨b, a, cap, rfl, rfl⟩, hc⟩
  · refine ⟨fun ρ ρ' e => ?_, ?_⟩
    · have := e 0 (Nat.zero_lt_one)
      simp only [List.map, SV.den, C.den, C.cells, this]
    conv => whnf
    refine bcase_intro (fun _ => ?_) (fun _ => ?_)
    · conv => whnf
      rw [eff_slice_hi (h2 := sliOk_le hl (Nat.min_le_left len 30)) (ho := ?hos) (hT := ?hTs) (hx := ?hxs) (hk := ?hks) (hlt := ?hlts)]
      case hos => rfl
      case hTs => rfl
      case hxs => rfl
      case hks => exact cint (min30 len) (sliOk_le hl (Nat.min_le_left len 30)).ir
      case hlts => exact Nat.le_trans (Nat.min_le_left len 30) hl.1
      conv => whnf
      refine ⟨⟨intsC_pure L, trivial⟩, ⟨_, _, _, _, _, _, _, L, rfl, isInt_mk, isInt_mk, rfl, Nat.le_trans (Nat.min_le_left len 30) hL⟩, fun o ho => ?_⟩
      conv => whnf
      refine ⟨[0, 1], [0, 1], fun vs => ?_⟩
      conv => whnf
      refine ⟨intsC_pure L, o.new.1, ?_⟩
      conv => whnf
      exact ⟨_, [o.blk], rfl, ⟨⟨rfl, rfl, rfl, fun _ => rfl⟩, ⟨rfl, rfl, rfl, fun _ => rfl⟩, trivial⟩, ⟨o.new, trivial⟩, o.sl 1, fun _ => rfl, hc o (by omega)⟩
    · conv => whnf
      refine ⟨fun _ _ => rfl, ?_⟩
      conv => whnf
      refine ⟨trivial, ⟨_, _, _, rfl, isInt_mk, isInt_mk, isPt_mk⟩, rfl, fun o ho => ?_⟩
      conv => whnf
      refine ⟨[0, 1], [0, 1], fun vs => ?_⟩
      conv => whnf
      refine ⟨intsC_pure L, o.new.1, ?_⟩
      conv => whnf
      exact ⟨_, [o.blk], rfl, ⟨⟨rfl, rfl, rfl, fun _ => rfl⟩, ⟨rfl, rfl, rfl, fun _ => rfl⟩, trivial⟩, ⟨o.new, trivial⟩, o.sl 1, fun _ => rfl, hc o (by omega)⟩
  · refine ⟨fun ρ ρ' _ => rfl, ?_⟩
    conv => whnf
    refine ⟨fun _ _ => rfl, ?_⟩
    conv => whnf
    refine ⟨trivial, ⟨_, _, _, rfl, isInt_mk, isInt_mk, isPt_mk⟩, rfl, fun o ho => ?_⟩
    conv => whnf
    refine ⟨[0], [0], fun vs => ?_⟩
    conv => whnf
    refine ⟨o.new.1, ?_⟩
    conv => whnf
    exact ⟨_, [o.blk], rfl, ⟨⟨rfl, rfl, rfl, fun _ => rfl⟩, trivial⟩, ⟨o.new, trivial⟩, o.sl 0, fun _ => rfl, hc o (by omega)⟩
end Go.Proofs.YtefgchmbdijjdaaGreatDoor
