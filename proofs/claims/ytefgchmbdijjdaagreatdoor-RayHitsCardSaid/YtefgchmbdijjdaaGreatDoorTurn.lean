/- Plain laws of rays: corners in another order, multiples. -/
import Derived.Test.YtefgchmbdijjdaaGreatDoorRyb
namespace Go.Proofs.YtefgchmbdijjdaaGreatDoor
open Go.RowKit
set_option maxRecDepth 100000

theorem sgL_c (x : Int) (l : List Int) : sgL (x :: l) = if x.sign = 0 then sgL l else x.sign := rfl
theorem pass_iff (d a b c : V3) : passZ d a b c = true ↔ sideZ d a b ≠ 0 ∧ sideZ d b c = sideZ d a b ∧ sideZ d c a = sideZ d a b := by
 unfold passZ; simp only [Bool.and_eq_true, decide_eq_true_eq]
/-! scaling -/
section
variable {a : Int} (ha : 0 < a)
include ha
end
end Go.Proofs.YtefgchmbdijjdaaGreatDoor
