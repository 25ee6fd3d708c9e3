/- law 22: RayCrosses, by the reckoner. -/
import Derived.Test.YtefgchmbdijjdaaGreatDoorRyN
namespace Go.Proofs.YtefgchmbdijjdaaGreatDoor
open Go.RowKit
set_option maxRecDepth 100000

def baseL : List (FuncId × Dn) := (13, dNearL) :: (11, dSanity) :: baseM1
theorem baseL_ok : AllOk baseL := .cons spNearL <| .cons spSanity <| baseM1_ok
def dLawCr : Dn
  | [.agg [.int _ _, .int _ _, .int _ _, .int _ _, .int _ _, .int _ _, .int _ _], .agg [.int _ _, .int _ _, .int _ _, .int _ _, .int _ _, .int _ _, .int _ _, .int _ _, .int _ _]] =>
    some (none, .c (.val (.bool true)))
  | _ => none
set_option maxHeartbeats 8000000 in
theorem spLawCr : SpOk Tryz.prog 3 dLawCr := sp_of2 (un := 20) (n := 0) ⟨Tryz.func3, by kernel_rfl, by kernel_rfl⟩ baseL_ok noF_ok fun args p v hd => by
  unfold dLawCr at hd
  split at hd
  · rename_i rx hrx ry hry rz hrz rw hrw d0 hd0 d1 hd1 d2 hd2 x1 hx1 y1 hy1 z1 hz1 x2 hx2 y2 hy2 z2 hz2 x3 hx3 y3 hy3 z3 hz3
    cases hd
    refine ⟨[.agg [.int rx hrx, .int ry hry, .int rz hrz, .int rw hrw, .int d0 hd0, .int d1 hd1, .int d2 hd2], .agg [.int x1 hx1, .int y1 hy1, .int z1 hz1, .int x2 hx2, .int y2 hy2, .int z2 hz2, .int x3 hx3, .int y3 hy3, .int z3 hz3]], fun _ => rfl, fun _ _ => rfl, fun _ _ => rfl, fun _ => ?_⟩
    conv => whnf
    refine ⟨⟨by decide, by decide⟩, ?_⟩
    conv => whnf
    refine ⟨⟨by decide, by decide⟩, ?_⟩
    conv => whnf
    refine ⟨⟨by decide, by decide⟩, ?_⟩
    conv => whnf
    refine ⟨⟨by decide, by decide⟩, ?_⟩
    conv => whnf
    refine ⟨⟨by decide, by decide⟩, ?_⟩
    conv => whnf
    refine ⟨⟨by decide, by decide⟩, ?_⟩
    conv => whnf
    refine ⟨⟨by decide, by decide⟩, ?_⟩
    conv => whnf
    refine ⟨⟨by decide, by decide⟩, ?_⟩
    conv => whnf
    refine ⟨⟨by decide, by decide⟩, ?_⟩
    conv => whnf
    refine bcase_intro (fun h1 => absurd h1 (by simp)) (fun _ => ?_)
    conv => whnf
    refine bcase_intro (fun h1 => absurd h1 (by simp)) (fun _ => ?_)
    conv => whnf
    refine bcase_intro (fun h1 => absurd h1 (by simp)) (fun _ => ?_)
    conv => whnf
    refine bcase_intro (fun h1 => absurd h1 (by simp)) (fun _ => ?_)
    conv => whnf
    refine bcase_intro (fun h1 => absurd h1 (by simp)) (fun _ => ?_)
    conv => whnf
    refine bcase_intro (fun h1 => absurd h1 (by simp)) (fun _ => ?_)
    conv => whnf
    refine bcase_intro (fun h1 => absurd h1 (by simp)) (fun _ => ?_)
    conv => whnf
    refine bcase_intro (fun h1 => absurd h1 (by simp)) (fun _ => ?_)
    conv => whnf
    exact fun ρ => sbool_e rfl ρ
  · cases hd
end Go.Proofs.YtefgchmbdijjdaaGreatDoor
