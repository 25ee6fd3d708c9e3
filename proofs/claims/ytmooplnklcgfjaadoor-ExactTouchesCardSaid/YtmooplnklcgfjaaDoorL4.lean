/- law 02: segments touch triangles as in the reference. -/
import Derived.Test.YtmooplnklcgfjaaDoorEG
import Derived.Test.YtmooplnklcgfjaaDoorE9
namespace Go.Proofs.YtmooplnklcgfjaaDoor
open Go.RowKit
set_option maxRecDepth 100000

def baseT3 : List (FuncId × Dn) := (12, dTouch2) :: baseP
theorem baseT3_ok : AllOk baseT3 := .cons spTouch2 <| baseP_ok
theorem tS (p q a b c : V3) : (touchV q p a b c == touchV p q a b c) = true := by rw [touch_swap]; exact beq_self_eq_true _
def dLawTo : Dn
  | [.agg [.int _ _, .int _ _, .int _ _], .agg [.int _ _, .int _ _, .int _ _], .agg [.int _ _, .int _ _, .int _ _, .int _ _, .int _ _, .int _ _, .int _ _, .int _ _, .int _ _]] =>
    some (none, .c (.val (.bool true)))
  | _ => none
set_option maxHeartbeats 16000000 in
theorem spLawTo : SpOk Tryd.prog 3 dLawTo := sp_of2 (un := 20) (n := 0) ⟨Tryd.func3, by kernel_rfl, by kernel_rfl⟩ baseT3_ok noF_ok fun args p v hd => by
  unfold dLawTo at hd
  split at hd
  · rename_i x1 hx1 y1 hy1 z1 hz1 x2 hx2 y2 hy2 z2 hz2 x3 hx3 y3 hy3 z3 hz3 x4 hx4 y4 hy4 z4 hz4 x5 hx5 y5 hy5 z5 hz5
    cases hd
    refine ⟨[.agg [.int x1 hx1, .int y1 hy1, .int z1 hz1], .agg [.int x2 hx2, .int y2 hy2, .int z2 hz2], .agg [.int x3 hx3, .int y3 hy3, .int z3 hz3, .int x4 hx4, .int y4 hy4, .int z4 hz4, .int x5 hx5, .int y5 hy5, .int z5 hz5]], fun _ => rfl, fun _ _ => rfl, fun _ _ => rfl, fun _ => ?_⟩
    conv => whnf
    refine ⟨by decide, ?_⟩
    conv => whnf
    refine ⟨by decide, ?_⟩
    conv => whnf
    refine ⟨by decide, ?_⟩
    conv => whnf
    refine bcase_intro (fun _ => ?_) (fun h => Bool.noConfusion ((beq_self_eq_true (touchV ⟨x1 % 5, y1 % 5, z1 % 5⟩ ⟨x2 % 5, y2 % 5, z2 % 5⟩ ⟨x3 % 5, y3 % 5, z3 % 5⟩ ⟨x4 % 5, y4 % 5, z4 % 5⟩ ⟨x5 % 5, y5 % 5, z5 % 5⟩)).symm.trans h))
    conv => whnf
    exact fun ρ => sbool_e (tS ⟨x1 % 5, y1 % 5, z1 % 5⟩ ⟨x2 % 5, y2 % 5, z2 % 5⟩ ⟨x3 % 5, y3 % 5, z3 % 5⟩ ⟨x4 % 5, y4 % 5, z4 % 5⟩ ⟨x5 % 5, y5 % 5, z5 % 5⟩) ρ
  · cases hd
end Go.Proofs.YtmooplnklcgfjaaDoor
