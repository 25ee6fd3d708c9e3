/- law 10: number and sanity, by the reckoner. -/
import Derived.Test.YtapppahniablmaaDoorQua
namespace Go.Proofs.YtapppahniablmaaDoor
open Go.RowKit
set_option maxRecDepth 100000

def dNum10l : Dn
  | [.c (.int n hn)] =>
    some (none, .agg [.wid 64 n (smI hn)])
  | _ => none
theorem spNum10l : SpOk Tryd.prog 17 dNum10l := sp_of2 (un := 20) (n := 0) ⟨Tryd.func17, by kernel_rfl, by kernel_rfl⟩ base8_ok noF_ok fun args p v hd => by
  unfold dNum10l at hd
  split at hd
  · rename_i n hn
    cases hd
    refine ⟨[.c (.int n hn)], fun _ => rfl, fun _ _ => rfl, fun _ _ => rfl, fun _ => ?_⟩
    conv => whnf
    exact fun _ => rfl
  · cases hd
theorem readers_ok : AllR [(23, dAround)] := .cons spAroundQ .nil
def base9 : List (FuncId × Dn) := (17, dNum10l) :: base8
theorem base9_ok : AllOk base9 := .cons spNum10l <| base8_ok
def dSanity : Dn
  | [] => some (none, .c (.val (.bool true)))
  | _ => none
theorem spSanity : SpOk Tryd.prog 11 dSanity := sp_of3 (un := 20) (n := 0) ⟨Tryd.func11, by kernel_rfl, by kernel_rfl⟩ base9_ok readers_ok noF_ok fun args p v hd => by
  unfold dSanity at hd
  split at hd
  · cases hd
    refine ⟨[], fun _ => rfl, fun _ _ => rfl, fun _ _ => rfl, fun _ => ?_⟩
    conv => whnf
    exact fun _ => rfl
  · cases hd
end Go.Proofs.YtapppahniablmaaDoor
