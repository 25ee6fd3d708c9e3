/- Lists of triangles that functions make: quad, cube, by the reckoner. -/
import Derived.Test.YtefgchmbdijjdaaGreatDoorBas
namespace Go.Proofs.YtefgchmbdijjdaaGreatDoor
open Go.RowKit
set_option maxRecDepth 100000

/-- a list of triangles of the call's own -/
structure OT where
  l : List TR
  nl : Bool
  cap : Nat
  ok : SliOk nl l.length cap
def OT.sl (o : OT) (b : Nat) : SV := .c (.sli o.nl b 0 o.l.length o.cap o.ok)
def OT.blk (o : OT) : Blk := ⟨29, o.nl, trsC o.l, (o.cap - o.l.length) * 9⟩
def OT.none : OT := ⟨[], true, 0, by unfold SliOk; decide⟩
theorem OT.new (o : OT) : NewB o.blk := by
  refine ⟨trsC_pure o.l, ?_⟩
  cases h : o.nl with
  | false => exact .inl h
  | true =>
    right
    have h1 := o.ok.1; have h2 := o.ok.2.2 h
    have : o.l = [] := List.eq_nil_of_length_eq_zero (by omega)
    unfold OT.blk Blk.void
    rw [h, this]; rfl
theorem OT.app (o : OT) {m : Nat} (hm : (o.l.length + m) * 9 ≤ 5000000000000) : o.blk.ty = 29 ∧ o.blk.ro = o.nl ∧ sizeC o.blk.cs = o.l.length * 9 ∧ (o.nl = false → sizeC o.blk.cs + o.blk.tl = o.cap * 9) ∧ (o.l.length + m) * 9 ≤ 5000000000000 := by
  have h1 : sizeC o.blk.cs = o.l.length * 9 := by show sizeC (trsC o.l) = _; rw [trsC_size]; omega
  refine ⟨rfl, rfl, h1, fun _ => ?_, hm⟩
  rw [h1]
  show o.l.length * 9 + (o.cap - o.l.length) * 9 = o.cap * 9
  have := o.ok.1
  omega
def OT.push (o : OT) (m : List TR) {n : Nat} (hn : m.length = n) (cap2 : Nat) (h2 : SliOk (o.nl && decide (n = 0)) (o.l.length + n) cap2) : OT := ⟨o.l ++ m, o.nl && decide (n = 0), cap2, by rw [List.length_append, hn]; exact h2⟩
theorem OT.push_sl (o : OT) (m : List TR) {n : Nat} (hn : m.length = n) (cap2 : Nat) (h2 : SliOk (o.nl && decide (n = 0)) (o.l.length + n) cap2) (b : Nat) (ρ : Rho) : (SV.c (.sli (o.nl && decide (n = 0)) b 0 (o.l.length + n) cap2 h2)).den ρ = ((o.push m hn cap2 h2).sl b).den ρ := by
  simp only [OT.sl, OT.push, SV.den, C.den, C.cells, List.length_append, hn]
theorem OT.push_blk (o : OT) (m : List TR) {n : Nat} (hn : m.length = n) (cap2 : Nat) (h2 : SliOk (o.nl && decide (n = 0)) (o.l.length + n) cap2) {cs : List C} (hcs : ∀ ρ, cellsL ρ cs = cellsL ρ (trsC m)) :
    29 = (o.push m hn cap2 h2).blk.ty ∧ (o.nl && decide (n = 0)) = (o.push m hn cap2 h2).blk.ro ∧ (cap2 - (o.l.length + n)) * 9 = (o.push m hn cap2 h2).blk.tl ∧ ∀ ρ, cellsL ρ (trsC o.l ++ cs) = cellsL ρ (o.push m hn cap2 h2).blk.cs := by
  refine ⟨rfl, rfl, ?_, fun ρ => ?_⟩
  · simp only [OT.push, OT.blk, List.length_append, hn]
  · show _ = cellsL ρ (trsC (o.l ++ m))
    rw [trsC_append, cellsL_append, cellsL_append, hcs]
theorem subC_trs_all (l : List TR) : subC (trsC l) 0 (l.length * 9) = some (trsC l) := by
  have h := subC_app [] (trsC l) []
  rw [trsC_size, List.append_nil, List.nil_append, Nat.mul_comm] at h
  exact h
theorem OT.src (o : OT) : subC o.blk.cs 0 (o.l.length * 9) = some (trsC o.l) := subC_trs_all o.l
def isPt (v : SV) : Prop := ∃ p : PT, v = .agg (ptC p)
theorem isPt_mk {x y z : Int} {hx : IR x} {hy : IR y} {hz : IR z} : isPt (.agg [.int x hx, .int y hy, .int z hz]) := ⟨⟨x, y, z, hx, hy, hz⟩, rfl⟩
def isInt (v : SV) : Prop := ∃ (n : Int) (h : IR n), v = .c (.int n h)
theorem isInt_mk {x : Int} {hx : IR x} : isInt (.c (.int x hx)) := ⟨x, hx, rfl⟩
def cQuad : NewC := fun args ros K => (∃ a b c d, args = [a, b, c, d] ∧ isPt a ∧ isPt b ∧ isPt c ∧ isPt d) ∧ ros = [] ∧ ∀ o : OT, o.l.length = 2 → K (o.sl 0) [o.blk]
theorem csQuad : CSp Tryz.prog 101 cQuad := csp_of (env_ok base_ok 20) mixed (inl_ok (env_ok base_ok 20) mixed noF_ok 0) ⟨Tryz.func101, by kernel_rfl, by kernel_rfl⟩ fun args ros K hc => by
  obtain ⟨⟨_, _, _, _, rfl, ⟨p1, rfl⟩, ⟨p2, rfl⟩, ⟨p3, rfl⟩, ⟨p4, rfl⟩⟩, rfl, hc⟩ := hc
  refine ⟨fun _ _ _ => rfl, ?_⟩
  conv => whnf
  refine ⟨[4], [], fun vs => ?_⟩
  conv => whnf
  exact ⟨_, [(OT.mk [⟨p1, p2, p3⟩, ⟨p1, p3, p4⟩] false 2 (by unfold SliOk; simp)).blk], rfl, ⟨⟨rfl, rfl, rfl, fun _ => rfl⟩, trivial⟩, ⟨OT.new _, trivial⟩, OT.sl (OT.mk [⟨p1, p2, p3⟩, ⟨p1, p3, p4⟩] false 2 (by unfold SliOk; simp)) 0, fun _ => rfl, hc _ rfl⟩
theorem len_cons {α : Type} {l : List α} {n : Nat} (h : l.length = n + 1) : ∃ a m, l = a :: m ∧ m.length = n := by
  cases l with
  | nil => cases h
  | cons a m => exact ⟨a, m, rfl, by simpa using h⟩
theorem len12 {l : List TR} (h : l.length = 12) : ∃ a b c d e f g i j k m n, l = [a, b, c, d, e, f, g, i, j, k, m, n] := by
  obtain ⟨a0, l0, rfl, h0⟩ := len_cons h
  obtain ⟨a1, l1, rfl, h1⟩ := len_cons h0
  obtain ⟨a2, l2, rfl, h2⟩ := len_cons h1
  obtain ⟨a3, l3, rfl, h3⟩ := len_cons h2
  obtain ⟨a4, l4, rfl, h4⟩ := len_cons h3
  obtain ⟨a5, l5, rfl, h5⟩ := len_cons h4
  obtain ⟨a6, l6, rfl, h6⟩ := len_cons h5
  obtain ⟨a7, l7, rfl, h7⟩ := len_cons h6
  obtain ⟨a8, l8, rfl, h8⟩ := len_cons h7
  obtain ⟨a9, l9, rfl, h9⟩ := len_cons h8
  obtain ⟨a10, l10, rfl, h10⟩ := len_cons h9
  obtain ⟨a11, l11, rfl, h11⟩ := len_cons h10
  have := List.eq_nil_of_length_eq_zero h11
  subst this
  exact ⟨a0, a1, a2, a3, a4, a5, a6, a7, a8, a9, a10, a11, rfl⟩
def cCube : NewC := fun args ros K => (∃ a b, args = [a, b] ∧ isPt a ∧ isInt b) ∧ ros = [] ∧ ∀ o : OT, o.l.length = 12 → K (o.sl 0) [o.blk]
def shapeC : List (FuncId × NewC) := [(101, cQuad)]
theorem shapeC_ok : AllC Tryz.prog shapeC := .cons csQuad .nil
set_option maxHeartbeats 4000000 in
theorem csCube : CSp Tryz.prog 73 cCube := csp_of (env_ok base_ok 20) mixed (hnew_ok shapeC_ok (inl_ok (env_ok base_ok 20) mixed noF_ok 0)) ⟨Tryz.func73, by kernel_rfl, by kernel_rfl⟩ fun args ros K hc => by
  obtain ⟨⟨_, _, rfl, ⟨p, rfl⟩, ⟨s, hs, rfl⟩⟩, rfl, hc⟩ := hc
  refine ⟨fun _ _ _ => rfl, ?_⟩
  conv => whnf
  refine ⟨fun _ _ => rfl, ?_⟩
  conv => whnf
  refine ⟨fun _ _ => rfl, ?_⟩
  conv => whnf
  refine ⟨fun _ _ => rfl, ?_⟩
  conv => whnf
  refine ⟨fun _ _ => rfl, ?_⟩
  conv => whnf
  refine ⟨trivial, ⟨_, _, _, _, rfl, isPt_mk, isPt_mk, isPt_mk, isPt_mk⟩, rfl, ?_⟩
  intro o1 e1
  conv => whnf
  refine ⟨fun _ _ => rfl, ?_⟩
  conv => whnf
  refine ⟨fun _ _ => rfl, ?_⟩
  conv => whnf
  refine ⟨fun _ _ => rfl, ?_⟩
  conv => whnf
  refine ⟨fun _ _ => rfl, ?_⟩
  conv => whnf
  refine ⟨trivial, ⟨_, _, _, _, rfl, isPt_mk, isPt_mk, isPt_mk, isPt_mk⟩, rfl, ?_⟩
  intro o2 e2
  conv => whnf
  rw [o2.src]
  conv => whnf
  refine ⟨allOne_trs _, ?_⟩
  conv => whnf
  refine ⟨o1.app (by omega), fun c2 k2 => ?_⟩
  conv => whnf
  refine ⟨fun _ _ => rfl, ?_⟩
  conv => whnf
  refine ⟨fun _ _ => rfl, ?_⟩
  conv => whnf
  refine ⟨fun _ _ => rfl, ?_⟩
  conv => whnf
  refine ⟨fun _ _ => rfl, ?_⟩
  conv => whnf
  refine ⟨trivial, ⟨_, _, _, _, rfl, isPt_mk, isPt_mk, isPt_mk, isPt_mk⟩, rfl, ?_⟩
  intro o3 e3
  conv => whnf
  rw [o3.src]
  conv => whnf
  refine ⟨allOne_trs _, ?_⟩
  conv => whnf
  refine ⟨⟨rfl, rfl, by simp only [sizeC_append, trsC_size]; omega, fun _ => by have := k2.1; simp only [sizeC_append, trsC_size]; omega, by omega⟩, fun c3 k3 => ?_⟩
  conv => whnf
  refine ⟨fun _ _ => rfl, ?_⟩
  conv => whnf
  refine ⟨fun _ _ => rfl, ?_⟩
  conv => whnf
  refine ⟨fun _ _ => rfl, ?_⟩
  conv => whnf
  refine ⟨fun _ _ => rfl, ?_⟩
  conv => whnf
  refine ⟨trivial, ⟨_, _, _, _, rfl, isPt_mk, isPt_mk, isPt_mk, isPt_mk⟩, rfl, ?_⟩
  intro o4 e4
  conv => whnf
  rw [o4.src]
  conv => whnf
  refine ⟨allOne_trs _, ?_⟩
  conv => whnf
  refine ⟨⟨rfl, rfl, by simp only [sizeC_append, trsC_size]; omega, fun _ => by have := k3.1; simp only [sizeC_append, trsC_size]; omega, by omega⟩, fun c4 k4 => ?_⟩
  conv => whnf
  refine ⟨fun _ _ => rfl, ?_⟩
  conv => whnf
  refine ⟨fun _ _ => rfl, ?_⟩
  conv => whnf
  refine ⟨fun _ _ => rfl, ?_⟩
  conv => whnf
  refine ⟨fun _ _ => rfl, ?_⟩
  conv => whnf
  refine ⟨trivial, ⟨_, _, _, _, rfl, isPt_mk, isPt_mk, isPt_mk, isPt_mk⟩, rfl, ?_⟩
  intro o5 e5
  conv => whnf
  rw [o5.src]
  conv => whnf
  refine ⟨allOne_trs _, ?_⟩
  conv => whnf
  refine ⟨⟨rfl, rfl, by simp only [sizeC_append, trsC_size]; omega, fun _ => by have := k4.1; simp only [sizeC_append, trsC_size]; omega, by omega⟩, fun c5 k5 => ?_⟩
  conv => whnf
  refine ⟨fun _ _ => rfl, ?_⟩
  conv => whnf
  refine ⟨fun _ _ => rfl, ?_⟩
  conv => whnf
  refine ⟨fun _ _ => rfl, ?_⟩
  conv => whnf
  refine ⟨fun _ _ => rfl, ?_⟩
  conv => whnf
  refine ⟨trivial, ⟨_, _, _, _, rfl, isPt_mk, isPt_mk, isPt_mk, isPt_mk⟩, rfl, ?_⟩
  intro o6 e6
  conv => whnf
  rw [o6.src]
  conv => whnf
  refine ⟨allOne_trs _, ?_⟩
  conv => whnf
  refine ⟨⟨rfl, rfl, by simp only [sizeC_append, trsC_size]; omega, fun _ => by have := k5.1; simp only [sizeC_append, trsC_size]; omega, by omega⟩, fun c6 k6 => ?_⟩
  conv => whnf
  refine ⟨[12], [0], fun vs => ?_⟩
  conv => whnf
  refine ⟨pureL_append (pureL_append (pureL_append (pureL_append (pureL_append (trsC_pure _) (trsC_pure _)) (trsC_pure _)) (trsC_pure _)) (trsC_pure _)) (trsC_pure _), ?_⟩
  conv => whnf
  have h6 : SliOk (o1.nl && decide (o2.l.length = 0) && decide (o3.l.length = 0) && decide (o4.l.length = 0) && decide (o5.l.length = 0) && decide (o6.l.length = 0)) (o1.l ++ o2.l ++ o3.l ++ o4.l ++ o5.l ++ o6.l).length c6 := by
    simp only [List.length_append]; exact k6
  refine ⟨_, [(OT.mk _ _ c6 h6).blk], rfl, ⟨⟨rfl, rfl, ?_, fun ρ => ?_⟩, trivial⟩, ⟨OT.new _, trivial⟩, (OT.mk _ _ c6 h6).sl 0, fun ρ => ?_, hc _ ?_⟩
  · simp only [OT.blk, List.length_append]
  · simp only [OT.blk, trsC_append]
  · simp only [OT.sl, SV.den, C.den, C.cells, List.length_append]
  · simp only [List.length_append]; omega
end Go.Proofs.YtefgchmbdijjdaaGreatDoor
