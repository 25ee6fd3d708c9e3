/- law 10: QuadricKeeps, by the reckoner. -/
import Derived.Test.YtapppahniablmaaDoorLaw3
namespace Go.Proofs.YtapppahniablmaaDoor
open Go.RowKit
set_option maxRecDepth 100000

set_option maxHeartbeats 8000000 in
def dLawKeep : Dn
  | [.agg [.int _ _, .int _ _, .int _ _, .int _ _, .int _ _, .int _ _, .int _ _, .int _ _, .int _ _], .agg [.int _ _, .int _ _, .int _ _, .int _ _, .int _ _, .int _ _, .int _ _, .int _ _, .int _ _], .agg [.int _ _, .int _ _, .int _ _]] =>
    some (none, .c (.val (.bool true)))
  | _ => none
theorem spLawKeep : SpOk Tryd.prog 10 dLawKeep := sp_of3 (un := 20) (n := 0) ⟨Tryd.func10, by kernel_rfl, by kernel_rfl⟩ base11_ok readers_ok noF_ok fun args p v hd => by
  unfold dLawKeep at hd
  split at hd
  · rename_i x1 hx1 y1 hy1 z1 hz1 x2 hx2 y2 hy2 z2 hz2 x3 hx3 y3 hy3 z3 hz3 x4 hx4 y4 hy4 z4 hz4 x5 hx5 y5 hy5 z5 hz5 x6 hx6 y6 hy6 z6 hz6 x7 hx7 y7 hy7 z7 hz7
    cases hd
    refine ⟨[.agg [.int x1 hx1, .int y1 hy1, .int z1 hz1, .int x2 hx2, .int y2 hy2, .int z2 hz2, .int x3 hx3, .int y3 hy3, .int z3 hz3], .agg [.int x4 hx4, .int y4 hy4, .int z4 hz4, .int x5 hx5, .int y5 hy5, .int z5 hz5, .int x6 hx6, .int y6 hy6, .int z6 hz6], .agg [.int x7 hx7, .int y7 hy7, .int z7 hz7]], fun _ => rfl, fun _ _ => rfl, fun _ _ => rfl, fun _ => ?_⟩
    conv => whnf
    refine bcase_true ?_ ?_
    · simp only [cond_true, Bool.and_self, decide_true]
    conv => whnf
    refine bcase_true ?_ ?_
    · simp only [cond_true, Bool.and_self, decide_true]
    conv => whnf
    refine bcase_true ?_ ?_
    · simp only [cond_true, Bool.and_self, decide_true]
    conv => whnf
    refine bcase_true ?_ ?_
    · simp only [cond_true, Bool.and_self, decide_true]
    conv => whnf
    refine bcase_true ?_ ?_
    · simp only [cond_true, Bool.and_self, decide_true]
    conv => whnf
    refine bcase_true ?_ ?_
    · simp only [cond_true, decide_true]
    conv => whnf
    intro ρ
    simp only [cond_true, Bool.and_self, decide_true]
    rfl
  · cases hd
end Go.Proofs.YtapppahniablmaaDoor
