/- law 22: RayBoxes, by the reckoner. -/
import Derived.Test.YtefgchmbdijjdaaGreatDoorRyN
import Derived.Test.YtefgchmbdijjdaaGreatDoorRyR
namespace Go.Proofs.YtefgchmbdijjdaaGreatDoor
open Go.RowKit
set_option maxRecDepth 100000

def baseM2 : List (FuncId × Dn) := (13, dNearL) :: (11, dSanity) :: baseM1
theorem baseM2_ok : AllOk baseM2 := .cons spNearL <| .cons spSanity <| baseM1_ok
def dSmall8 : Dn
  | [.agg [.int x hx, .int y hy, .int z hz]] =>
    some (none, .agg [.int (x % 8) (ir_emod hx (by decide)), .int (y % 8) (ir_emod hy (by decide)), .int (z % 8) (ir_emod hz (by decide))])
  | _ => none
theorem spSmall8 : SpOk Tryz.prog 16 dSmall8 := sp_of2 (un := 20) (n := 0) ⟨Tryz.func16, by kernel_rfl, by kernel_rfl⟩ baseM2_ok noF_ok fun args p v hd => by
  unfold dSmall8 at hd
  split at hd
  · rename_i x hx y hy z hz
    cases hd
    refine ⟨[.agg [.int x hx, .int y hy, .int z hz]], fun _ => rfl, fun _ _ => rfl, fun _ _ => rfl, fun _ => ?_⟩
    conv => whnf
    refine ⟨⟨by decide, by decide⟩, ?_⟩
    conv => whnf
    refine ⟨⟨by decide, by decide⟩, ?_⟩
    conv => whnf
    refine ⟨⟨by decide, by decide⟩, ?_⟩
    conv => whnf
    exact fun ρ => ints3_sv rfl rfl rfl ρ
  · cases hd
noncomputable def baseM3 : List (FuncId × Dn) := (16, dSmall8) :: (17, dBox) :: (18, dBox) :: baseM2
theorem baseM3_ok : AllOk baseM3 := .cons spSmall8 <| .cons spBoxY <| .cons spBox22 baseM2_ok
def dLawBx : Dn
  | [.agg [.int _ _, .int _ _, .int _ _, .int _ _, .int _ _, .int _ _, .int _ _], .agg [.int _ _, .int _ _, .int _ _], .agg [.int _ _, .int _ _, .int _ _]] =>
    some (none, .c (.val (.bool true)))
  | _ => none
set_option maxHeartbeats 8000000 in
theorem spLawBx : SpOk Tryz.prog 4 dLawBx := sp_of2 (un := 20) (n := 0) ⟨Tryz.func4, by kernel_rfl, by kernel_rfl⟩ baseM3_ok noF_ok fun args p v hd => by
  unfold dLawBx at hd
  split at hd
  · rename_i rx hrx ry hry rz hrz rw hrw d0 hd0 d1 hd1 d2 hd2 x1 hx1 y1 hy1 z1 hz1 x2 hx2 y2 hy2 z2 hz2
    cases hd
    refine ⟨[.agg [.int rx hrx, .int ry hry, .int rz hrz, .int rw hrw, .int d0 hd0, .int d1 hd1, .int d2 hd2], .agg [.int x1 hx1, .int y1 hy1, .int z1 hz1], .agg [.int x2 hx2, .int y2 hy2, .int z2 hz2]], fun _ => rfl, fun _ _ => rfl, fun _ _ => rfl, fun _ => ?_⟩
    conv => whnf
    refine bcase_intro (fun h1 => absurd h1 (by simp)) (fun _ => ?_)
    conv => whnf
    refine bcase_intro (fun h1 => absurd h1 (by simp)) (fun _ => ?_)
    conv => whnf
    refine bcase_intro (fun h1 => absurd h1 (by simp)) (fun _ => ?_)
    conv => whnf
    refine bcase_intro (fun h1 => absurd h1 (by simp)) (fun _ => ?_)
    conv => whnf
    refine bcase_intro (fun h1 => absurd h1 (by simp)) (fun _ => ?_)
    conv => whnf
    refine bcase_intro (fun h1 => absurd h1 (by simp)) (fun _ => ?_)
    conv => whnf
    refine bcase_intro (fun h1 => absurd h1 (by simp)) (fun _ => ?_)
    conv => whnf
    refine bcase_intro (fun h1 => absurd h1 (by simp)) (fun _ => ?_)
    conv => whnf
    refine bcase_intro (fun h1 => absurd h1 (by simp)) (fun _ => ?_)
    conv => whnf
    refine bcase_intro (fun h1 => absurd h1 (by simp)) (fun _ => ?_)
    conv => whnf
    refine bcase_intro (fun h1 => absurd h1 (by simp)) (fun _ => ?_)
    conv => whnf
    refine bcase_intro (fun h1 => absurd h1 (by simp)) (fun _ => ?_)
    conv => whnf
    exact fun ρ => sbool_e rfl ρ
  · cases hd
end Go.Proofs.YtefgchmbdijjdaaGreatDoor
