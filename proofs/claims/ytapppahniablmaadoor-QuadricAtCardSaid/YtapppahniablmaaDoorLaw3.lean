/- law 10: QuadricSums, by the reckoner. -/
import Derived.Test.YtapppahniablmaaDoorLaw2
namespace Go.Proofs.YtapppahniablmaaDoor
open Go.RowKit
set_option maxRecDepth 100000

theorem qAt_add (a0 a1 a2 a3 a4 a5 a6 a7 a8 a9 b0 b1 b2 b3 b4 b5 b6 b7 b8 b9 x y z : Int) : qAt (a0 + b0) (a1 + b1) (a2 + b2) (a3 + b3) (a4 + b4) (a5 + b5) (a6 + b6) (a7 + b7) (a8 + b8) (a9 + b9) x y z = qAt a0 a1 a2 a3 a4 a5 a6 a7 a8 a9 x y z + qAt b0 b1 b2 b3 b4 b5 b6 b7 b8 b9 x y z := by unfold qAt; grind
theorem sq_nn (a b : Int) : ¬ (a * a + b * b < 0) := by have h1 : 0 ≤ a * a := by cases Int.le_total 0 a with | inl h => exact Int.mul_nonneg h h | inr h => exact Int.mul_nonneg_of_nonpos_of_nonpos h h
                                                        have h2 : 0 ≤ b * b := by cases Int.le_total 0 b with | inl h => exact Int.mul_nonneg h h | inr h => exact Int.mul_nonneg_of_nonpos_of_nonpos h h
                                                        omega
set_option maxHeartbeats 8000000 in
def dLawSum : Dn
  | [.agg [.int _ _, .int _ _, .int _ _, .int _ _, .int _ _, .int _ _, .int _ _, .int _ _, .int _ _], .agg [.int _ _, .int _ _, .int _ _, .int _ _, .int _ _, .int _ _, .int _ _, .int _ _, .int _ _], .agg [.int _ _, .int _ _, .int _ _, .int _ _, .int _ _, .int _ _, .int _ _, .int _ _, .int _ _, .int _ _, .int _ _, .int _ _]] =>
    some (none, .c (.val (.bool true)))
  | _ => none
theorem spLawSum : SpOk Tryd.prog 6 dLawSum := sp_of2 (un := 20) (n := 0) ⟨Tryd.func6, by kernel_rfl, by kernel_rfl⟩ base11_ok noF_ok fun args p v hd => by
  unfold dLawSum at hd
  split at hd
  · rename_i x1 hx1 y1 hy1 z1 hz1 x2 hx2 y2 hy2 z2 hz2 x3 hx3 y3 hy3 z3 hz3 x4 hx4 y4 hy4 z4 hz4 x5 hx5 y5 hy5 z5 hz5 x6 hx6 y6 hy6 z6 hz6 x7 hx7 y7 hy7 z7 hz7 x8 hx8 y8 hy8 z8 hz8 x9 hx9 y9 hy9 z9 hz9 x10 hx10 y10 hy10 z10 hz10
    cases hd
    refine ⟨[.agg [.int x1 hx1, .int y1 hy1, .int z1 hz1, .int x2 hx2, .int y2 hy2, .int z2 hz2, .int x3 hx3, .int y3 hy3, .int z3 hz3], .agg [.int x4 hx4, .int y4 hy4, .int z4 hz4, .int x5 hx5, .int y5 hy5, .int z5 hz5, .int x6 hx6, .int y6 hy6, .int z6 hz6], .agg [.int x7 hx7, .int y7 hy7, .int z7 hz7, .int x8 hx8, .int y8 hy8, .int z8 hz8, .int x9 hx9, .int y9 hy9, .int z9 hz9, .int x10 hx10, .int y10 hy10, .int z10 hz10]], fun _ => rfl, fun _ _ => rfl, fun _ _ => rfl, fun _ => ?_⟩
    conv => whnf
    refine bcase_true ?_ ?_
    · simp only [cond_true, Bool.and_self, decide_true]
    conv => whnf
    refine bcase_true ?_ ?_
    · simp only [cond_true, Bool.and_eq_true, decide_eq_true_eq]
      exact ⟨Int.add_comm _ _, Int.add_comm _ _, Int.add_comm _ _, Int.add_comm _ _, Int.add_comm _ _, Int.add_comm _ _, Int.add_comm _ _, Int.add_comm _ _, Int.add_comm _ _, Int.add_comm _ _⟩
    conv => whnf
    refine bcase_true ?_ ?_
    · simp only [cond_true, Bool.and_eq_true, decide_eq_true_eq]
      exact ⟨Int.add_assoc _ _ _, Int.add_assoc _ _ _, Int.add_assoc _ _ _, Int.add_assoc _ _ _, Int.add_assoc _ _ _, Int.add_assoc _ _ _, Int.add_assoc _ _ _, Int.add_assoc _ _ _, Int.add_assoc _ _ _, Int.add_assoc _ _ _⟩
    conv => whnf
    refine bcase_true ?_ ?_
    · simp only [cond_true, Bool.and_eq_true, decide_eq_true_eq]
      exact ⟨Int.add_zero _, Int.add_zero _, Int.add_zero _, Int.add_zero _, Int.add_zero _, Int.add_zero _, Int.add_zero _, Int.add_zero _, Int.add_zero _, Int.add_zero _⟩
    conv => whnf
    refine bcase_true ?_ ?_
    · simp only [cond_true, qAt_add, decide_true]
    conv => whnf
    intro ρ
    simp only [cond_true, val_sq, sq_nn, decide_false, Bool.not_false]
    rfl
  · cases hd
end Go.Proofs.YtapppahniablmaaDoor
