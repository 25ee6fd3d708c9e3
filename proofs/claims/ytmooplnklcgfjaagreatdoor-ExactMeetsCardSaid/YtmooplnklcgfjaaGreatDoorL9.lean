/- law 02: triangles meet in any order. -/
import Derived.Test.YtmooplnklcgfjaaGreatDoorEU
namespace Go.Proofs.YtmooplnklcgfjaaGreatDoor
open Go.RowKit
set_option maxRecDepth 100000

def dLawMe : Dn
  | [.agg [.int _ _, .int _ _, .int _ _, .int _ _, .int _ _, .int _ _, .int _ _, .int _ _, .int _ _], .agg [.int _ _, .int _ _, .int _ _, .int _ _, .int _ _, .int _ _, .int _ _, .int _ _, .int _ _], .agg [.int _ _, .int _ _]] =>
    some (none, .c (.val (.bool true)))
  | _ => none
set_option maxHeartbeats 16000000 in
theorem spLawMe : SpOk Tryz.prog 3 dLawMe := sp_of2 (un := 20) (n := 0) ⟨Tryz.func3, by kernel_rfl, by kernel_rfl⟩ baseU_ok noF_ok fun args p v hd => by
  unfold dLawMe at hd
  split at hd
  · rename_i x1 hx1 y1 hy1 z1 hz1 x2 hx2 y2 hy2 z2 hz2 x3 hx3 y3 hy3 z3 hz3 x4 hx4 y4 hy4 z4 hz4 x5 hx5 y5 hy5 z5 hz5 x6 hx6 y6 hy6 z6 hz6 q0 hq0 q1 hq1
    cases hd
    refine ⟨[.agg [.int x1 hx1, .int y1 hy1, .int z1 hz1, .int x2 hx2, .int y2 hy2, .int z2 hz2, .int x3 hx3, .int y3 hy3, .int z3 hz3], .agg [.int x4 hx4, .int y4 hy4, .int z4 hz4, .int x5 hx5, .int y5 hy5, .int z5 hz5, .int x6 hx6, .int y6 hy6, .int z6 hz6], .agg [.int q0 hq0, .int q1 hq1]], fun _ => rfl, fun _ _ => rfl, fun _ _ => rfl, fun _ => ?_⟩
    conv => whnf
    refine ⟨by decide, ?_⟩
    conv => whnf
    refine ⟨by decide, ?_⟩
    conv => whnf
    refine bcase_intro (fun _ => ?_) (fun h => Bool.noConfusion ((beq_self_eq_true (meetV ⟨(g4 hx1 hy1 hz1), (g4 hx2 hy2 hz2), (g4 hx3 hy3 hz3)⟩ ⟨(g4 hx4 hy4 hz4), (g4 hx5 hy5 hz5), (g4 hx6 hy6 hz6)⟩)).symm.trans h))
    conv => whnf
    exact fun ρ => sbool_e (me_2 q0 q1 ⟨(g4 hx1 hy1 hz1), (g4 hx2 hy2 hz2), (g4 hx3 hy3 hz3)⟩ ⟨(g4 hx4 hy4 hz4), (g4 hx5 hy5 hz5), (g4 hx6 hy6 hz6)⟩) ρ
  · cases hd
end Go.Proofs.YtmooplnklcgfjaaGreatDoor
