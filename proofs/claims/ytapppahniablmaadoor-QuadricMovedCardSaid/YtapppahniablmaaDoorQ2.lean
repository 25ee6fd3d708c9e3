/- quadric and lithophaneref10: planes, by the reckoner. -/
import Derived.Test.YtapppahniablmaaDoorQ1
namespace Go.Proofs.YtapppahniablmaaDoor
open Go.RowKit
set_option maxRecDepth 100000

theorem wid_eq {j k : Nat} {y z : Int} {hy : Sm j y} {hz : Sm k z} (h : y = z) (ρ : Rho) : (C.wid j y hy).cells ρ = (C.wid k z hz).cells ρ := by subst h; rfl
theorem cells_congr {ρ : Rho} {x y : C} {l m : List C} (h1 : x.cells ρ = y.cells ρ) (h2 : cellsL ρ l = cellsL ρ m) : cellsL ρ (x :: l) = cellsL ρ (y :: m) := by rw [cellsL_cons, cellsL_cons, h1, h2]
theorem agg_congr {ρ : Rho} {l m : List C} (h : cellsL ρ l = cellsL ρ m) : (SV.agg l).den ρ = (SV.agg m).den ρ := by rw [den_agg, den_agg, h]
def base5 : List (FuncId × Dn) := (54, dNormal2) :: (34, dNum10) :: (35, dMul10) :: (36, dAdd10) :: base4
theorem base5_ok : AllOk base5 := .cons spNormal2 <| .cons spNum10 <| .cons spMul10 <| .cons spAdd10 <| base4_ok
def dPlane10 : Dn
  | [.agg [.int x1 hx1, .int y1 hy1, .int z1 hz1, .int x2 hx2, .int y2 hy2, .int z2 hz2, .int x3 hx3, .int y3 hy3, .int z3 hz3]] =>
    some (none, .agg [.wid 517 ((y2 - y1) * (z3 - z1) - (z2 - z1) * (y3 - y1)) (sm_subj (Sm.mul (sm_subj (smI hy2) (smI hy1)) (sm_subj (smI hz3) (smI hz1))) (Sm.mul (sm_subj (smI hz2) (smI hz1)) (sm_subj (smI hy3) (smI hy1)))), .wid 517 ((z2 - z1) * (x3 - x1) - (x2 - x1) * (z3 - z1)) (sm_subj (Sm.mul (sm_subj (smI hz2) (smI hz1)) (sm_subj (smI hx3) (smI hx1))) (Sm.mul (sm_subj (smI hx2) (smI hx1)) (sm_subj (smI hz3) (smI hz1)))), .wid 517 ((x2 - x1) * (y3 - y1) - (y2 - y1) * (x3 - x1)) (sm_subj (Sm.mul (sm_subj (smI hx2) (smI hx1)) (sm_subj (smI hy3) (smI hy1))) (Sm.mul (sm_subj (smI hy2) (smI hy1)) (sm_subj (smI hx3) (smI hx1)))), .wid 1810 (0 - (((y2 - y1) * (z3 - z1) - (z2 - z1) * (y3 - y1)) * x1 + (((z2 - z1) * (x3 - x1) - (x2 - x1) * (z3 - z1)) * y1 + ((x2 - x1) * (y3 - y1) - (y2 - y1) * (x3 - x1)) * z1))) (sm_subj (smI (n := 0) (by decide)) (sm_addj (Sm.mul (sm_subj (Sm.mul (sm_subj (smI hy2) (smI hy1)) (sm_subj (smI hz3) (smI hz1))) (Sm.mul (sm_subj (smI hz2) (smI hz1)) (sm_subj (smI hy3) (smI hy1)))) (smI hx1)) (sm_addj (Sm.mul (sm_subj (Sm.mul (sm_subj (smI hz2) (smI hz1)) (sm_subj (smI hx3) (smI hx1))) (Sm.mul (sm_subj (smI hx2) (smI hx1)) (sm_subj (smI hz3) (smI hz1)))) (smI hy1)) (Sm.mul (sm_subj (Sm.mul (sm_subj (smI hx2) (smI hx1)) (sm_subj (smI hy3) (smI hy1))) (Sm.mul (sm_subj (smI hy2) (smI hy1)) (sm_subj (smI hx3) (smI hx1)))) (smI hz1)))))])
  | _ => none
theorem spPlane10 : SpOk Tryd.prog 33 dPlane10 := sp_of2 (un := 20) (n := 0) ⟨Tryd.func33, by kernel_rfl, by kernel_rfl⟩ base5_ok noF_ok fun args p v hd => by
  unfold dPlane10 at hd
  split at hd
  · rename_i x1 hx1 y1 hy1 z1 hz1 x2 hx2 y2 hy2 z2 hz2 x3 hx3 y3 hy3 z3 hz3
    cases hd
    refine ⟨[.agg [.int x1 hx1, .int y1 hy1, .int z1 hz1, .int x2 hx2, .int y2 hy2, .int z2 hz2, .int x3 hx3, .int y3 hy3, .int z3 hz3]], fun _ => rfl, fun _ _ => rfl, fun _ _ => rfl, fun _ => ?_⟩
    conv => whnf
    exact fun _ => rfl
  · cases hd
set_option maxHeartbeats 4000000 in
def dPlaneQ : Dn
  | [.agg [.int x1 hx1, .int y1 hy1, .int z1 hz1, .int x2 hx2, .int y2 hy2, .int z2 hz2, .int x3 hx3, .int y3 hy3, .int z3 hz3]] =>
    some (none, .agg [.wid 517 ((y2 - y1) * (z3 - z1) - (z2 - z1) * (y3 - y1)) (sm_subj (Sm.mul (sm_subj (smI hy2) (smI hy1)) (sm_subj (smI hz3) (smI hz1))) (Sm.mul (sm_subj (smI hz2) (smI hz1)) (sm_subj (smI hy3) (smI hy1)))), .wid 517 ((z2 - z1) * (x3 - x1) - (x2 - x1) * (z3 - z1)) (sm_subj (Sm.mul (sm_subj (smI hz2) (smI hz1)) (sm_subj (smI hx3) (smI hx1))) (Sm.mul (sm_subj (smI hx2) (smI hx1)) (sm_subj (smI hz3) (smI hz1)))), .wid 517 ((x2 - x1) * (y3 - y1) - (y2 - y1) * (x3 - x1)) (sm_subj (Sm.mul (sm_subj (smI hx2) (smI hx1)) (sm_subj (smI hy3) (smI hy1))) (Sm.mul (sm_subj (smI hy2) (smI hy1)) (sm_subj (smI hx3) (smI hx1)))), .wid 1746 (0 - ((y2 - y1) * (z3 - z1) - (z2 - z1) * (y3 - y1)) * x1 - ((z2 - z1) * (x3 - x1) - (x2 - x1) * (z3 - z1)) * y1 - ((x2 - x1) * (y3 - y1) - (y2 - y1) * (x3 - x1)) * z1) (sm_subj (sm_subj (sm_subj sm0 (Sm.mul (sm_subj (Sm.mul (sm_subj (smI hy2) (smI hy1)) (sm_subj (smI hz3) (smI hz1))) (Sm.mul (sm_subj (smI hz2) (smI hz1)) (sm_subj (smI hy3) (smI hy1)))) (smI hx1))) (Sm.mul (sm_subj (Sm.mul (sm_subj (smI hz2) (smI hz1)) (sm_subj (smI hx3) (smI hx1))) (Sm.mul (sm_subj (smI hx2) (smI hx1)) (sm_subj (smI hz3) (smI hz1)))) (smI hy1))) (Sm.mul (sm_subj (Sm.mul (sm_subj (smI hx2) (smI hx1)) (sm_subj (smI hy3) (smI hy1))) (Sm.mul (sm_subj (smI hy2) (smI hy1)) (sm_subj (smI hx3) (smI hx1)))) (smI hz1)))])
  | _ => none
theorem spPlaneQ : SpOk Tryd.prog 28 dPlaneQ := sp_of2 (un := 20) (n := 2) ⟨Tryd.func28, by kernel_rfl, by kernel_rfl⟩ base5_ok noF_ok fun args p v hd => by
  unfold dPlaneQ at hd
  split at hd
  · rename_i x1 hx1 y1 hy1 z1 hz1 x2 hx2 y2 hy2 z2 hz2 x3 hx3 y3 hy3 z3 hz3
    cases hd
    refine ⟨[.agg [.int x1 hx1, .int y1 hy1, .int z1 hz1, .int x2 hx2, .int y2 hy2, .int z2 hz2, .int x3 hx3, .int y3 hy3, .int z3 hz3]], fun _ => rfl, fun _ _ => rfl, fun _ _ => rfl, fun _ => ?_⟩
    conv => whnf
    exact fun _ => rfl
  · cases hd
def base6 : List (FuncId × Dn) := (33, dPlane10) :: (28, dPlaneQ) :: base5
theorem base6_ok : AllOk base6 := .cons spPlane10 <| .cons spPlaneQ <| base5_ok
end Go.Proofs.YtapppahniablmaaDoor
