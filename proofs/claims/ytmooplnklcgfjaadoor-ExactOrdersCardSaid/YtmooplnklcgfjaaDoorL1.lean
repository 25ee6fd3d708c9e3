/- law 02: orders. -/
import Derived.Test.YtmooplnklcgfjaaDoorL0
namespace Go.Proofs.YtmooplnklcgfjaaDoor
open Go.RowKit
set_option maxRecDepth 100000

def dLawOr : Dn
  | [.agg [.int _ _, .int _ _, .int _ _, .int _ _, .int _ _, .int _ _], .agg [.int _ _, .int _ _, .int _ _, .int _ _, .int _ _, .int _ _]] =>
    some (none, .c (.val (.bool true)))
  | _ => none
set_option maxHeartbeats 16000000 in
theorem spLawOr : SpOk Tryd.prog 4 dLawOr := sp_of2 (un := 20) (n := 0) ⟨Tryd.func4, by kernel_rfl, by kernel_rfl⟩ baseL1_ok noF_ok fun args p v hd => by
  unfold dLawOr at hd
  split at hd
  · rename_i x1 hx1 y1 hy1 z1 hz1 x2 hx2 y2 hy2 z2 hz2 x3 hx3 y3 hy3 z3 hz3 x4 hx4 y4 hy4 z4 hz4
    cases hd
    refine ⟨[.agg [.int x1 hx1, .int y1 hy1, .int z1 hz1, .int x2 hx2, .int y2 hy2, .int z2 hz2], .agg [.int x3 hx3, .int y3 hy3, .int z3 hz3, .int x4 hx4, .int y4 hy4, .int z4 hz4]], fun _ => rfl, fun _ _ => rfl, fun _ _ => rfl, fun _ => ?_⟩
    conv => whnf
    refine bcase_intro (fun _ => ?_) (fun h => Bool.noConfusion ((cneg (det_s1 (⟨x1, y1, z1⟩ : V3) (⟨x2, y2, z2⟩ : V3) (⟨x3, y3, z3⟩ : V3) (⟨x4, y4, z4⟩ : V3))).symm.trans h))
    conv => whnf
    refine bcase_intro (fun _ => ?_) (fun h => Bool.noConfusion ((cneg (det_s2 (⟨x1, y1, z1⟩ : V3) (⟨x2, y2, z2⟩ : V3) (⟨x3, y3, z3⟩ : V3) (⟨x4, y4, z4⟩ : V3))).symm.trans h))
    conv => whnf
    refine bcase_intro (fun _ => ?_) (fun h => Bool.noConfusion ((cneg (det_s3 (⟨x1, y1, z1⟩ : V3) (⟨x2, y2, z2⟩ : V3) (⟨x3, y3, z3⟩ : V3) (⟨x4, y4, z4⟩ : V3))).symm.trans h))
    conv => whnf
    refine bcase_intro (fun _ => ?_) (fun h => Bool.noConfusion ((czero (det_0a (⟨x1, y1, z1⟩ : V3) (⟨x3, y3, z3⟩ : V3) (⟨x4, y4, z4⟩ : V3))).symm.trans h))
    conv => whnf
    refine bcase_intro (fun _ => ?_) (fun h => Bool.noConfusion ((czero (det_0b (⟨x1, y1, z1⟩ : V3) (⟨x2, y2, z2⟩ : V3) (⟨x3, y3, z3⟩ : V3))).symm.trans h))
    conv => whnf
    refine bcase_intro (fun b1 => ?_) (fun b1 => ?_)
    · conv => whnf
      refine bcase_intro (fun c1 => ?_) (fun c1 => ?_)
      · conv => whnf
        refine bcase_intro (fun _ => ?_) (fun h => Bool.noConfusion ((cneg (det_s4 (⟨x1, y1, z1⟩ : V3) (⟨x2, y2, z2⟩ : V3) (⟨x3, y3, z3⟩ : V3) (⟨x4, y4, z4⟩ : V3))).symm.trans h))
        conv => whnf
        refine bcase_intro (fun _ => ?_) (fun h => Bool.noConfusion ((czero (det_0c (⟨x1, y1, z1⟩ : V3) (⟨x2, y2, z2⟩ : V3) (⟨x4, y4, z4⟩ : V3))).symm.trans h))
        conv => whnf
        exact fun ρ => sbool_e rfl ρ
      conv => whnf
      refine bcase_intro (fun c2 => ?_) (fun c2 => ?_)
      · conv => whnf
        refine bcase_intro (fun _ => ?_) (fun h => Bool.noConfusion ((cneg (det_s4 (⟨x1, y1, z1⟩ : V3) (⟨x2, y2, z2⟩ : V3) (⟨x3, y3, z3⟩ : V3) (⟨x4, y4, z4⟩ : V3))).symm.trans h))
        conv => whnf
        refine bcase_intro (fun _ => ?_) (fun h => Bool.noConfusion ((czero (det_0c (⟨x1, y1, z1⟩ : V3) (⟨x2, y2, z2⟩ : V3) (⟨x4, y4, z4⟩ : V3))).symm.trans h))
        conv => whnf
        exact fun ρ => sbool_e rfl ρ
      conv => whnf
      refine bcase_intro (fun _ => ?_) (fun h => Bool.noConfusion ((cneg (det_s4 (⟨x1, y1, z1⟩ : V3) (⟨x2, y2, z2⟩ : V3) (⟨x3, y3, z3⟩ : V3) (⟨x4, y4, z4⟩ : V3))).symm.trans h))
      conv => whnf
      refine bcase_intro (fun _ => ?_) (fun h => Bool.noConfusion ((czero (det_0c (⟨x1, y1, z1⟩ : V3) (⟨x2, y2, z2⟩ : V3) (⟨x4, y4, z4⟩ : V3))).symm.trans h))
      conv => whnf
      exact fun ρ => sbool_e (less_tr c1 c2) ρ
    obtain ⟨q1, q2⟩ := less_eq (p := (⟨x1, y1, z1⟩ : V3)) (q := (⟨x2, y2, z2⟩ : V3)) b1
    conv => whnf
    refine bcase_intro (fun _ => ?_) (fun h => Bool.noConfusion (q1.symm.trans h))
    conv => whnf
    refine bcase_intro (fun _ => ?_) (fun h => Bool.noConfusion (q2.symm.trans h))
    conv => whnf
    refine bcase_intro (fun _ => ?_) (fun h => Bool.noConfusion ((cneg (det_s4 (⟨x1, y1, z1⟩ : V3) (⟨x2, y2, z2⟩ : V3) (⟨x3, y3, z3⟩ : V3) (⟨x4, y4, z4⟩ : V3))).symm.trans h))
    conv => whnf
    refine bcase_intro (fun _ => ?_) (fun h => Bool.noConfusion ((czero (det_0c (⟨x1, y1, z1⟩ : V3) (⟨x2, y2, z2⟩ : V3) (⟨x4, y4, z4⟩ : V3))).symm.trans h))
    conv => whnf
    refine bcase_intro (fun _ => ?_) (fun h => Bool.noConfusion (q2.symm.trans h))
    conv => whnf
    exact fun ρ => sbool_e rfl ρ
  · cases hd
end Go.Proofs.YtmooplnklcgfjaaDoor
