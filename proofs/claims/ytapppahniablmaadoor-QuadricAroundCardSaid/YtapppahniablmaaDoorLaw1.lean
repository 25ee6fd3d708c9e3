/- law 10: QuadricOf, by the reckoner. -/
import Derived.Test.YtapppahniablmaaDoorLaw
namespace Go.Proofs.YtapppahniablmaaDoor
open Go.RowKit
set_option maxRecDepth 100000

def base10 : List (FuncId × Dn) := (11, dSanity) :: base9
theorem base10_ok : AllOk base10 := .cons spSanity <| base9_ok
theorem bcase_true {b : Bool} {X Y : Prop} (h : b = true) (hx : X) : bcase b X Y := bcase_intro (fun _ => hx) (fun h1 => by rw [h] at h1; cases h1)
section
variable (x1 y1 z1 x2 y2 z2 x3 y3 z3 : Int)
theorem plA_cyc : plA x2 y2 z2 x3 y3 z3 x1 y1 z1 = plA x1 y1 z1 x2 y2 z2 x3 y3 z3 := by unfold plA; grind
theorem plA_swap : plA x2 y2 z2 x1 y1 z1 x3 y3 z3 = -plA x1 y1 z1 x2 y2 z2 x3 y3 z3 := by unfold plA; grind
theorem plA_aab : plA x1 y1 z1 x1 y1 z1 x2 y2 z2 = 0 := by unfold plA; grind
theorem plB_cyc : plB x2 y2 z2 x3 y3 z3 x1 y1 z1 = plB x1 y1 z1 x2 y2 z2 x3 y3 z3 := by unfold plB; grind
theorem plB_swap : plB x2 y2 z2 x1 y1 z1 x3 y3 z3 = -plB x1 y1 z1 x2 y2 z2 x3 y3 z3 := by unfold plB; grind
theorem plB_aab : plB x1 y1 z1 x1 y1 z1 x2 y2 z2 = 0 := by unfold plB; grind
theorem plC_cyc : plC x2 y2 z2 x3 y3 z3 x1 y1 z1 = plC x1 y1 z1 x2 y2 z2 x3 y3 z3 := by unfold plC; grind
theorem plC_swap : plC x2 y2 z2 x1 y1 z1 x3 y3 z3 = -plC x1 y1 z1 x2 y2 z2 x3 y3 z3 := by unfold plC; grind
theorem plC_aab : plC x1 y1 z1 x1 y1 z1 x2 y2 z2 = 0 := by unfold plC; grind
theorem plD_cyc : plD x2 y2 z2 x3 y3 z3 x1 y1 z1 = plD x1 y1 z1 x2 y2 z2 x3 y3 z3 := by unfold plD plA plB plC; grind
theorem plD_swap : plD x2 y2 z2 x1 y1 z1 x3 y3 z3 = -plD x1 y1 z1 x2 y2 z2 x3 y3 z3 := by unfold plD plA plB plC; grind
theorem plD_aab : plD x1 y1 z1 x1 y1 z1 x2 y2 z2 = 0 := by unfold plD plA plB plC; grind
end
def dLawOf : Dn
  | [.agg [.int _ _, .int _ _, .int _ _], .agg [.int _ _, .int _ _, .int _ _], .agg [.int _ _, .int _ _, .int _ _]] =>
    some (none, .c (.val (.bool true)))
  | _ => none
theorem spLawOf : SpOk Tryd.prog 3 dLawOf := sp_of2 (un := 20) (n := 0) ⟨Tryd.func3, by kernel_rfl, by kernel_rfl⟩ base10_ok noF_ok fun args p v hd => by
  unfold dLawOf at hd
  split at hd
  · rename_i x1 hx1 y1 hy1 z1 hz1 x2 hx2 y2 hy2 z2 hz2 x3 hx3 y3 hy3 z3 hz3
    cases hd
    refine ⟨[.agg [.int x1 hx1, .int y1 hy1, .int z1 hz1], .agg [.int x2 hx2, .int y2 hy2, .int z2 hz2], .agg [.int x3 hx3, .int y3 hy3, .int z3 hz3]], fun _ => rfl, fun _ _ => rfl, fun _ _ => rfl, fun _ => ?_⟩
    conv => whnf
    refine bcase_true ?_ ?_
    · simp only [cond_true, Bool.and_self, decide_true]
    conv => whnf
    refine bcase_true ?_ ?_
    · simp only [cond_true, show plA x2 y2 z2 x3 y3 z3 x1 y1 z1 = _ from plA_cyc x1 y1 z1 x2 y2 z2 x3 y3 z3, show plB x2 y2 z2 x3 y3 z3 x1 y1 z1 = _ from plB_cyc x1 y1 z1 x2 y2 z2 x3 y3 z3, show plC x2 y2 z2 x3 y3 z3 x1 y1 z1 = _ from plC_cyc x1 y1 z1 x2 y2 z2 x3 y3 z3, show plD x2 y2 z2 x3 y3 z3 x1 y1 z1 = _ from plD_cyc x1 y1 z1 x2 y2 z2 x3 y3 z3, Bool.and_self, decide_true]
    conv => whnf
    refine bcase_true ?_ ?_
    · simp only [cond_true, show plA x2 y2 z2 x1 y1 z1 x3 y3 z3 = _ from plA_swap x1 y1 z1 x2 y2 z2 x3 y3 z3, show plB x2 y2 z2 x1 y1 z1 x3 y3 z3 = _ from plB_swap x1 y1 z1 x2 y2 z2 x3 y3 z3, show plC x2 y2 z2 x1 y1 z1 x3 y3 z3 = _ from plC_swap x1 y1 z1 x2 y2 z2 x3 y3 z3, show plD x2 y2 z2 x1 y1 z1 x3 y3 z3 = _ from plD_swap x1 y1 z1 x2 y2 z2 x3 y3 z3, Int.neg_mul_neg, Bool.and_self, decide_true]
    conv => whnf
    intro ρ
    simp only [cond_true, show plA x1 y1 z1 x1 y1 z1 x2 y2 z2 = _ from plA_aab x1 y1 z1 x2 y2 z2, show plB x1 y1 z1 x1 y1 z1 x2 y2 z2 = _ from plB_aab x1 y1 z1 x2 y2 z2, show plC x1 y1 z1 x1 y1 z1 x2 y2 z2 = _ from plC_aab x1 y1 z1 x2 y2 z2, show plD x1 y1 z1 x1 y1 z1 x2 y2 z2 = _ from plD_aab x1 y1 z1 x2 y2 z2, Int.mul_zero, decide_true, Bool.and_self]
    rfl
  · cases hd
end Go.Proofs.YtapppahniablmaaDoor
