/- law 02: points of a small grid. -/
import Derived.Test.YtmooplnklcgfjaaGreatDoorEA
namespace Go.Proofs.YtmooplnklcgfjaaGreatDoor
open Go.RowKit
set_option maxRecDepth 100000

def dLawGr : Dn
  | [.agg [.int _ _, .int _ _, .int _ _], .agg [.int _ _, .int _ _, .int _ _], .agg [.int _ _, .int _ _, .int _ _, .int _ _, .int _ _, .int _ _]] =>
    some (none, .c (.val (.bool true)))
  | _ => none
set_option maxHeartbeats 16000000 in
theorem spLawGr : SpOk Tryz.prog 6 dLawGr := sp_of2 (un := 20) (n := 0) ⟨Tryz.func6, by kernel_rfl, by kernel_rfl⟩ baseAg_ok noF_ok fun args p v hd => by
  unfold dLawGr at hd
  split at hd
  · rename_i x1 hx1 y1 hy1 z1 hz1 x2 hx2 y2 hy2 z2 hz2 x3 hx3 y3 hy3 z3 hz3 x4 hx4 y4 hy4 z4 hz4
    cases hd
    refine ⟨[.agg [.int x1 hx1, .int y1 hy1, .int z1 hz1], .agg [.int x2 hx2, .int y2 hy2, .int z2 hz2], .agg [.int x3 hx3, .int y3 hy3, .int z3 hz3, .int x4 hx4, .int y4 hy4, .int z4 hz4]], fun _ => rfl, fun _ _ => rfl, fun _ _ => rfl, fun _ => ?_⟩
    conv => whnf
    refine ⟨by decide, ?_⟩
    conv => whnf
    refine ⟨by decide, ?_⟩
    conv => whnf
    refine ⟨by decide, ?_⟩
    conv => whnf
    refine ⟨by decide, ?_⟩
    conv => whnf
    exact fun _ => rfl
  · cases hd
end Go.Proofs.YtmooplnklcgfjaaGreatDoor
