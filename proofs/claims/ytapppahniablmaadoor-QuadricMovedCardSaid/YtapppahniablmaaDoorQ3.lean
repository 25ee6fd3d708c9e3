/- quadric and lithophaneref10: quadrics, by the reckoner. -/
import Derived.Test.YtapppahniablmaaDoorQ2
namespace Go.Proofs.YtapppahniablmaaDoor
open Go.RowKit
set_option maxRecDepth 100000

/-- the plane of a triangle -/
def plA (_ y1 z1 _ y2 z2 _ y3 z3 : Int) : Int := (y2 - y1) * (z3 - z1) - (z2 - z1) * (y3 - y1)
def plB (x1 _ z1 x2 _ z2 x3 _ z3 : Int) : Int := (z2 - z1) * (x3 - x1) - (x2 - x1) * (z3 - z1)
def plC (x1 y1 _ x2 y2 _ x3 y3 _ : Int) : Int := (x2 - x1) * (y3 - y1) - (y2 - y1) * (x3 - x1)
def plD (x1 y1 z1 x2 y2 z2 x3 y3 z3 : Int) : Int := -(plA x1 y1 z1 x2 y2 z2 x3 y3 z3 * x1 + plB x1 y1 z1 x2 y2 z2 x3 y3 z3 * y1 + plC x1 y1 z1 x2 y2 z2 x3 y3 z3 * z1)
section
variable {x1 y1 z1 x2 y2 z2 x3 y3 z3 : Int} (h1 : IR x1) (h2 : IR y1) (h3 : IR z1) (h4 : IR x2) (h5 : IR y2) (h6 : IR z2) (h7 : IR x3) (h8 : IR y3) (h9 : IR z3)
include h1 h2 h3 h4 h5 h6 h7 h8 h9
theorem plA_sm : Sm 517 (plA x1 y1 z1 x2 y2 z2 x3 y3 z3) := by
  have _ := h1; have _ := h4; have _ := h7
  exact sm_subj (Sm.mul (sm_subj (smI h5) (smI h2)) (sm_subj (smI h9) (smI h3))) (Sm.mul (sm_subj (smI h6) (smI h3)) (sm_subj (smI h8) (smI h2)))
theorem plB_sm : Sm 517 (plB x1 y1 z1 x2 y2 z2 x3 y3 z3) := by
  have _ := h2; have _ := h5; have _ := h8
  exact sm_subj (Sm.mul (sm_subj (smI h6) (smI h3)) (sm_subj (smI h7) (smI h1))) (Sm.mul (sm_subj (smI h4) (smI h1)) (sm_subj (smI h9) (smI h3)))
theorem plC_sm : Sm 517 (plC x1 y1 z1 x2 y2 z2 x3 y3 z3) := by
  have _ := h3; have _ := h6; have _ := h9
  exact sm_subj (Sm.mul (sm_subj (smI h4) (smI h1)) (sm_subj (smI h8) (smI h2))) (Sm.mul (sm_subj (smI h5) (smI h2)) (sm_subj (smI h7) (smI h1)))
theorem plD_sm : Sm 1745 (plD x1 y1 z1 x2 y2 z2 x3 y3 z3) :=
  (sm_addj (sm_addj (Sm.mul (plA_sm h1 h2 h3 h4 h5 h6 h7 h8 h9) (smI h1)) (Sm.mul (plB_sm h1 h2 h3 h4 h5 h6 h7 h8 h9) (smI h2))) (Sm.mul (plC_sm h1 h2 h3 h4 h5 h6 h7 h8 h9) (smI h3))).neg
end
def dPlane10b : Dn
  | [.agg [.int x1 hx1, .int y1 hy1, .int z1 hz1, .int x2 hx2, .int y2 hy2, .int z2 hz2, .int x3 hx3, .int y3 hy3, .int z3 hz3]] => some (none, .agg [.wid 517 (plA x1 y1 z1 x2 y2 z2 x3 y3 z3) (plA_sm hx1 hy1 hz1 hx2 hy2 hz2 hx3 hy3 hz3), .wid 517 (plB x1 y1 z1 x2 y2 z2 x3 y3 z3) (plB_sm hx1 hy1 hz1 hx2 hy2 hz2 hx3 hy3 hz3), .wid 517 (plC x1 y1 z1 x2 y2 z2 x3 y3 z3) (plC_sm hx1 hy1 hz1 hx2 hy2 hz2 hx3 hy3 hz3), .wid 1745 (plD x1 y1 z1 x2 y2 z2 x3 y3 z3) (plD_sm hx1 hy1 hz1 hx2 hy2 hz2 hx3 hy3 hz3)])
  | _ => none
theorem spPlane10b : SpOk Tryd.prog 33 dPlane10b := ⟨spPlane10.1, fun args p v hd => by
  unfold dPlane10b at hd
  split at hd
  · rename_i x1 hx1 y1 hy1 z1 hz1 x2 hx2 y2 hy2 z2 hz2 x3 hx3 y3 hy3 z3 hz3
    cases hd
    refine ⟨fun _ _ => rfl, fun _ ρ w => ?_⟩
    refine ((spPlane10.2 _ _ _ rfl).2 (fun q hq => by cases hq) ρ w).mono fun e w' he => ⟨he.1.trans (congrArg Ending.returned ?_), he.2⟩
    refine agg_congr (cells_congr rfl (cells_congr rfl (cells_congr rfl (cells_congr (wid_eq ?_ ρ) rfl))))
    unfold plD plA plB plC
    simp only [Int.sub_eq_add_neg, Int.neg_add, Int.zero_add, Int.add_assoc]
  · cases hd⟩
def dPlaneQb : Dn
  | [.agg [.int x1 hx1, .int y1 hy1, .int z1 hz1, .int x2 hx2, .int y2 hy2, .int z2 hz2, .int x3 hx3, .int y3 hy3, .int z3 hz3]] => some (none, .agg [.wid 517 (plA x1 y1 z1 x2 y2 z2 x3 y3 z3) (plA_sm hx1 hy1 hz1 hx2 hy2 hz2 hx3 hy3 hz3), .wid 517 (plB x1 y1 z1 x2 y2 z2 x3 y3 z3) (plB_sm hx1 hy1 hz1 hx2 hy2 hz2 hx3 hy3 hz3), .wid 517 (plC x1 y1 z1 x2 y2 z2 x3 y3 z3) (plC_sm hx1 hy1 hz1 hx2 hy2 hz2 hx3 hy3 hz3), .wid 1745 (plD x1 y1 z1 x2 y2 z2 x3 y3 z3) (plD_sm hx1 hy1 hz1 hx2 hy2 hz2 hx3 hy3 hz3)])
  | _ => none
theorem spPlaneQb : SpOk Tryd.prog 28 dPlaneQb := ⟨spPlaneQ.1, fun args p v hd => by
  unfold dPlaneQb at hd
  split at hd
  · rename_i x1 hx1 y1 hy1 z1 hz1 x2 hx2 y2 hy2 z2 hz2 x3 hx3 y3 hy3 z3 hz3
    cases hd
    refine ⟨fun _ _ => rfl, fun _ ρ w => ?_⟩
    refine ((spPlaneQ.2 _ _ _ rfl).2 (fun q hq => by cases hq) ρ w).mono fun e w' he => ⟨he.1.trans (congrArg Ending.returned ?_), he.2⟩
    refine agg_congr (cells_congr rfl (cells_congr rfl (cells_congr rfl (cells_congr (wid_eq ?_ ρ) rfl))))
    unfold plD plA plB plC
    simp only [Int.sub_eq_add_neg, Int.neg_add, Int.zero_add, Int.add_assoc]
  · cases hd⟩
def base7 : List (FuncId × Dn) := (33, dPlane10b) :: (28, dPlaneQb) :: base5
theorem base7_ok : AllOk base7 := .cons spPlane10b <| .cons spPlaneQb <| base5_ok
set_option maxHeartbeats 4000000 in
def dOf10 : Dn
  | [.agg [.int x1 hx1, .int y1 hy1, .int z1 hz1, .int x2 hx2, .int y2 hy2, .int z2 hz2, .int x3 hx3, .int y3 hy3, .int z3 hz3]] =>
    some (none, .agg [.wid 1034 (plA x1 y1 z1 x2 y2 z2 x3 y3 z3 * plA x1 y1 z1 x2 y2 z2 x3 y3 z3) (Sm.mul (plA_sm hx1 hy1 hz1 hx2 hy2 hz2 hx3 hy3 hz3) (plA_sm hx1 hy1 hz1 hx2 hy2 hz2 hx3 hy3 hz3)), .wid 1098 (2 * (plA x1 y1 z1 x2 y2 z2 x3 y3 z3 * plB x1 y1 z1 x2 y2 z2 x3 y3 z3)) (Sm.mul (smI (n := 2) (by decide)) (Sm.mul (plA_sm hx1 hy1 hz1 hx2 hy2 hz2 hx3 hy3 hz3) (plB_sm hx1 hy1 hz1 hx2 hy2 hz2 hx3 hy3 hz3))), .wid 1098 (2 * (plA x1 y1 z1 x2 y2 z2 x3 y3 z3 * plC x1 y1 z1 x2 y2 z2 x3 y3 z3)) (Sm.mul (smI (n := 2) (by decide)) (Sm.mul (plA_sm hx1 hy1 hz1 hx2 hy2 hz2 hx3 hy3 hz3) (plC_sm hx1 hy1 hz1 hx2 hy2 hz2 hx3 hy3 hz3))), .wid 2326 (2 * (plA x1 y1 z1 x2 y2 z2 x3 y3 z3 * plD x1 y1 z1 x2 y2 z2 x3 y3 z3)) (Sm.mul (smI (n := 2) (by decide)) (Sm.mul (plA_sm hx1 hy1 hz1 hx2 hy2 hz2 hx3 hy3 hz3) (plD_sm hx1 hy1 hz1 hx2 hy2 hz2 hx3 hy3 hz3))), .wid 1034 (plB x1 y1 z1 x2 y2 z2 x3 y3 z3 * plB x1 y1 z1 x2 y2 z2 x3 y3 z3) (Sm.mul (plB_sm hx1 hy1 hz1 hx2 hy2 hz2 hx3 hy3 hz3) (plB_sm hx1 hy1 hz1 hx2 hy2 hz2 hx3 hy3 hz3)), .wid 1098 (2 * (plB x1 y1 z1 x2 y2 z2 x3 y3 z3 * plC x1 y1 z1 x2 y2 z2 x3 y3 z3)) (Sm.mul (smI (n := 2) (by decide)) (Sm.mul (plB_sm hx1 hy1 hz1 hx2 hy2 hz2 hx3 hy3 hz3) (plC_sm hx1 hy1 hz1 hx2 hy2 hz2 hx3 hy3 hz3))), .wid 2326 (2 * (plB x1 y1 z1 x2 y2 z2 x3 y3 z3 * plD x1 y1 z1 x2 y2 z2 x3 y3 z3)) (Sm.mul (smI (n := 2) (by decide)) (Sm.mul (plB_sm hx1 hy1 hz1 hx2 hy2 hz2 hx3 hy3 hz3) (plD_sm hx1 hy1 hz1 hx2 hy2 hz2 hx3 hy3 hz3))), .wid 1034 (plC x1 y1 z1 x2 y2 z2 x3 y3 z3 * plC x1 y1 z1 x2 y2 z2 x3 y3 z3) (Sm.mul (plC_sm hx1 hy1 hz1 hx2 hy2 hz2 hx3 hy3 hz3) (plC_sm hx1 hy1 hz1 hx2 hy2 hz2 hx3 hy3 hz3)), .wid 2326 (2 * (plC x1 y1 z1 x2 y2 z2 x3 y3 z3 * plD x1 y1 z1 x2 y2 z2 x3 y3 z3)) (Sm.mul (smI (n := 2) (by decide)) (Sm.mul (plC_sm hx1 hy1 hz1 hx2 hy2 hz2 hx3 hy3 hz3) (plD_sm hx1 hy1 hz1 hx2 hy2 hz2 hx3 hy3 hz3))), .wid 3490 (plD x1 y1 z1 x2 y2 z2 x3 y3 z3 * plD x1 y1 z1 x2 y2 z2 x3 y3 z3) (Sm.mul (plD_sm hx1 hy1 hz1 hx2 hy2 hz2 hx3 hy3 hz3) (plD_sm hx1 hy1 hz1 hx2 hy2 hz2 hx3 hy3 hz3))])
  | _ => none
theorem spOf10 : SpOk Tryd.prog 13 dOf10 := sp_of2 (un := 20) (n := 0) ⟨Tryd.func13, by kernel_rfl, by kernel_rfl⟩ base7_ok noF_ok fun args p v hd => by
  unfold dOf10 at hd
  split at hd
  · rename_i x1 hx1 y1 hy1 z1 hz1 x2 hx2 y2 hy2 z2 hz2 x3 hx3 y3 hy3 z3 hz3
    cases hd
    refine ⟨[.agg [.int x1 hx1, .int y1 hy1, .int z1 hz1, .int x2 hx2, .int y2 hy2, .int z2 hz2, .int x3 hx3, .int y3 hy3, .int z3 hz3]], fun _ => rfl, fun _ _ => rfl, fun _ _ => rfl, fun _ => ?_⟩
    conv => whnf
    exact fun _ => rfl
  · cases hd
end Go.Proofs.YtapppahniablmaaDoor
