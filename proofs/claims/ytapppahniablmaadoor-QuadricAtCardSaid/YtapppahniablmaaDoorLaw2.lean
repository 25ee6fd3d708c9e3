/- law 10: QuadricValues, by the reckoner. -/
import Derived.Test.YtapppahniablmaaDoorLaw1
namespace Go.Proofs.YtapppahniablmaaDoor
open Go.RowKit
set_option maxRecDepth 100000

def dVal10 : Dn
  | [.agg [.int x1 hx1, .int y1 hy1, .int z1 hz1, .int x2 hx2, .int y2 hy2, .int z2 hz2, .int x3 hx3, .int y3 hy3, .int z3 hz3], .agg [.int x hx, .int y hy, .int z hz]] =>
    some (none, .agg [.wid 3491 (plA x1 y1 z1 x2 y2 z2 x3 y3 z3 * x + plB x1 y1 z1 x2 y2 z2 x3 y3 z3 * y + (plC x1 y1 z1 x2 y2 z2 x3 y3 z3 * z + plD x1 y1 z1 x2 y2 z2 x3 y3 z3)) (sm_addj (sm_addj (Sm.mul (plA_sm hx1 hy1 hz1 hx2 hy2 hz2 hx3 hy3 hz3) (smI hx)) (Sm.mul (plB_sm hx1 hy1 hz1 hx2 hy2 hz2 hx3 hy3 hz3) (smI hy))) (sm_addj (Sm.mul (plC_sm hx1 hy1 hz1 hx2 hy2 hz2 hx3 hy3 hz3) (smI hz)) (plD_sm hx1 hy1 hz1 hx2 hy2 hz2 hx3 hy3 hz3)))])
  | _ => none
theorem spVal10 : SpOk Tryd.prog 14 dVal10 := sp_of2 (un := 20) (n := 0) ⟨Tryd.func14, by kernel_rfl, by kernel_rfl⟩ base10_ok noF_ok fun args p v hd => by
  unfold dVal10 at hd
  split at hd
  · rename_i x1 hx1 y1 hy1 z1 hz1 x2 hx2 y2 hy2 z2 hz2 x3 hx3 y3 hy3 z3 hz3 x hx y hy z hz
    cases hd
    refine ⟨[.agg [.int x1 hx1, .int y1 hy1, .int z1 hz1, .int x2 hx2, .int y2 hy2, .int z2 hz2, .int x3 hx3, .int y3 hy3, .int z3 hz3], .agg [.int x hx, .int y hy, .int z hz]], fun _ => rfl, fun _ _ => rfl, fun _ _ => rfl, fun _ => ?_⟩
    conv => whnf
    exact fun _ => rfl
  · cases hd
def base11 : List (FuncId × Dn) := (14, dVal10) :: base10
theorem base11_ok : AllOk base11 := .cons spVal10 <| base10_ok
theorem val_sq (A B C D x y z : Int) : qAt (A * A) (2 * (A * B)) (2 * (A * C)) (2 * (A * D)) (B * B) (2 * (B * C)) (2 * (B * D)) (C * C) (2 * (C * D)) (D * D) x y z = (A * x + B * y + (C * z + D)) * (A * x + B * y + (C * z + D)) := by unfold qAt; grind
theorem bcase_false {b : Bool} {X Y : Prop} (h : b = false) (hy : Y) : bcase b X Y := bcase_intro (fun h1 => by rw [h] at h1; cases h1) (fun _ => hy)
section
variable (x1 y1 z1 x2 y2 z2 x3 y3 z3 : Int)
theorem pl_c1 : plA x1 y1 z1 x2 y2 z2 x3 y3 z3 * x1 + plB x1 y1 z1 x2 y2 z2 x3 y3 z3 * y1 + (plC x1 y1 z1 x2 y2 z2 x3 y3 z3 * z1 + plD x1 y1 z1 x2 y2 z2 x3 y3 z3) = 0 := by unfold plD plA plB plC; grind
theorem pl_c2 : plA x1 y1 z1 x2 y2 z2 x3 y3 z3 * x2 + plB x1 y1 z1 x2 y2 z2 x3 y3 z3 * y2 + (plC x1 y1 z1 x2 y2 z2 x3 y3 z3 * z2 + plD x1 y1 z1 x2 y2 z2 x3 y3 z3) = 0 := by unfold plD plA plB plC; grind
theorem pl_c3 : plA x1 y1 z1 x2 y2 z2 x3 y3 z3 * x3 + plB x1 y1 z1 x2 y2 z2 x3 y3 z3 * y3 + (plC x1 y1 z1 x2 y2 z2 x3 y3 z3 * z3 + plD x1 y1 z1 x2 y2 z2 x3 y3 z3) = 0 := by unfold plD plA plB plC; grind
end
def dLawVal : Dn
  | [.agg [.int _ _, .int _ _, .int _ _, .int _ _, .int _ _, .int _ _, .int _ _, .int _ _, .int _ _], .agg [.int _ _, .int _ _, .int _ _]] =>
    some (none, .c (.val (.bool true)))
  | _ => none
theorem spLawVal : SpOk Tryd.prog 4 dLawVal := sp_of2 (un := 20) (n := 0) ⟨Tryd.func4, by kernel_rfl, by kernel_rfl⟩ base11_ok noF_ok fun args p v hd => by
  unfold dLawVal at hd
  split at hd
  · rename_i x1 hx1 y1 hy1 z1 hz1 x2 hx2 y2 hy2 z2 hz2 x3 hx3 y3 hy3 z3 hz3 x hx y hy z hz
    cases hd
    refine ⟨[.agg [.int x1 hx1, .int y1 hy1, .int z1 hz1, .int x2 hx2, .int y2 hy2, .int z2 hz2, .int x3 hx3, .int y3 hy3, .int z3 hz3], .agg [.int x hx, .int y hy, .int z hz]], fun _ => rfl, fun _ _ => rfl, fun _ _ => rfl, fun _ => ?_⟩
    conv => whnf
    refine bcase_false ?_ ?_
    · simp only [val_sq, pl_c1, Int.mul_zero, decide_true, Bool.not_true]
    conv => whnf
    refine bcase_false ?_ ?_
    · simp only [val_sq, pl_c2, Int.mul_zero, decide_true, Bool.not_true]
    conv => whnf
    refine bcase_false ?_ ?_
    · simp only [val_sq, pl_c3, Int.mul_zero, decide_true, Bool.not_true]
    conv => whnf
    intro ρ
    simp only [cond_true, val_sq, decide_true]
    rfl
  · cases hd
end Go.Proofs.YtapppahniablmaaDoor
