/- law 02: sanity. -/
import Derived.Test.YtmooplnklcgfjaaGreatDoorE7
namespace Go.Proofs.YtmooplnklcgfjaaGreatDoor
open Go.RowKit
set_option maxRecDepth 100000

def dSanity : Dn
  | [] =>
    some (none, .c (.val (.bool true)))
  | _ => none
set_option maxHeartbeats 8000000 in
theorem spSanity : SpOk Tryz.prog 7 dSanity := sp_of2 (un := 20) (n := 0) ⟨Tryz.func7, by kernel_rfl, by kernel_rfl⟩ baseE10_ok noF_ok fun args p v hd => by
  unfold dSanity at hd
  split at hd
  · skip
    cases hd
    refine ⟨[], fun _ => rfl, fun _ _ => rfl, fun _ _ => rfl, fun _ => ?_⟩
    conv => whnf
    exact fun _ => rfl
  · cases hd
def baseL0 : List (FuncId × Dn) := (7, dSanity) :: baseE10
theorem baseL0_ok : AllOk baseL0 := .cons spSanity <| baseE10_ok
end Go.Proofs.YtmooplnklcgfjaaGreatDoor
