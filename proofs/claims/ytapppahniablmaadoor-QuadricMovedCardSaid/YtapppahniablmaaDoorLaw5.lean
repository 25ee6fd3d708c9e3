/- law 10: QuadricMoved, by the reckoner. -/
import Derived.Test.YtapppahniablmaaDoorLaw4
namespace Go.Proofs.YtapppahniablmaaDoor
open Go.RowKit
set_option maxRecDepth 100000

theorem qAt_sm {j0 j1 j2 j3 j4 j5 j6 j7 j8 j9 : Nat} {q0 q1 q2 q3 q4 q5 q6 q7 q8 q9 x y z : Int} (h0 : Sm j0 q0) (h1 : Sm j1 q1) (h2 : Sm j2 q2) (h3 : Sm j3 q3) (h4 : Sm j4 q4) (h5 : Sm j5 q5) (h6 : Sm j6 q6) (h7 : Sm j7 q7) (h8 : Sm j8 q8) (h9 : Sm j9 q9) (hx : IR x) (hy : IR y) (hz : IR z) : Sm ((((((((((0 + (j0 + 128) + 1) + (j1 + 128) + 1) + (j2 + 128) + 1) + (j3 + 128) + 1) + (j4 + 128) + 1) + (j5 + 128) + 1) + (j6 + 128) + 1) + (j7 + 128) + 1) + (j8 + 128) + 1) + (j9 + 128) + 1) (qAt q0 q1 q2 q3 q4 q5 q6 q7 q8 q9 x y z) := by
  have h := (sm_addj (sm_addj (sm_addj (sm_addj (sm_addj (sm_addj (sm_addj (sm_addj (sm_addj (sm_addj sm0 (Sm.mul h0 (Sm.mul (smI hx) (smI hx)))) (Sm.mul h1 (Sm.mul (smI hx) (smI hy)))) (Sm.mul h2 (Sm.mul (smI hx) (smI hz)))) (Sm.mul h3 (Sm.mul (smI hx) (smI (n := 1) (by decide))))) (Sm.mul h4 (Sm.mul (smI hy) (smI hy)))) (Sm.mul h5 (Sm.mul (smI hy) (smI hz)))) (Sm.mul h6 (Sm.mul (smI hy) (smI (n := 1) (by decide))))) (Sm.mul h7 (Sm.mul (smI hz) (smI hz)))) (Sm.mul h8 (Sm.mul (smI hz) (smI (n := 1) (by decide))))) (Sm.mul h9 (Sm.mul (smI (n := 1) (by decide)) (smI (n := 1) (by decide)))))
  have e : qAt q0 q1 q2 q3 q4 q5 q6 q7 q8 q9 x y z = 0 + q0 * (x * x) + q1 * (x * y) + q2 * (x * z) + q3 * (x * 1) + q4 * (y * y) + q5 * (y * z) + q6 * (y * 1) + q7 * (z * z) + q8 * (z * 1) + q9 * (1 * 1) := (by unfold qAt; grind)
  rw [e]; exact h
def dCutM : Dn
  | [.agg [.int x hx, .int y hy, .int z hz]] =>
    some (none, .agg [.int (x.tmod 1073741824) (hx.tmod _), .int (y.tmod 1073741824) (hy.tmod _), .int (z.tmod 1073741824) (hz.tmod _)])
  | _ => none
theorem spCutM : SpOk Tryd.prog 26 dCutM := sp_of2 (un := 20) (n := 0) ⟨Tryd.func26, by kernel_rfl, by kernel_rfl⟩ base11_ok noF_ok fun args p v hd => by
  unfold dCutM at hd
  split at hd
  · rename_i x hx y hy z hz
    cases hd
    refine ⟨[.agg [.int x hx, .int y hy, .int z hz]], fun _ => rfl, fun _ _ => rfl, fun _ _ => rfl, fun _ => ?_⟩
    conv => whnf
    exact fun _ => rfl
  · cases hd
def valM (x1 y1 z1 x2 y2 z2 x3 y3 z3 x4 y4 z4 : Int) : Int := qAt (plA x1 y1 z1 x2 y2 z2 x3 y3 z3 * plA x1 y1 z1 x2 y2 z2 x3 y3 z3) (2 * (plA x1 y1 z1 x2 y2 z2 x3 y3 z3 * plB x1 y1 z1 x2 y2 z2 x3 y3 z3)) (2 * (plA x1 y1 z1 x2 y2 z2 x3 y3 z3 * plC x1 y1 z1 x2 y2 z2 x3 y3 z3)) (2 * (plA x1 y1 z1 x2 y2 z2 x3 y3 z3 * plD x1 y1 z1 x2 y2 z2 x3 y3 z3)) (plB x1 y1 z1 x2 y2 z2 x3 y3 z3 * plB x1 y1 z1 x2 y2 z2 x3 y3 z3) (2 * (plB x1 y1 z1 x2 y2 z2 x3 y3 z3 * plC x1 y1 z1 x2 y2 z2 x3 y3 z3)) (2 * (plB x1 y1 z1 x2 y2 z2 x3 y3 z3 * plD x1 y1 z1 x2 y2 z2 x3 y3 z3)) (plC x1 y1 z1 x2 y2 z2 x3 y3 z3 * plC x1 y1 z1 x2 y2 z2 x3 y3 z3) (2 * (plC x1 y1 z1 x2 y2 z2 x3 y3 z3 * plD x1 y1 z1 x2 y2 z2 x3 y3 z3)) (plD x1 y1 z1 x2 y2 z2 x3 y3 z3 * plD x1 y1 z1 x2 y2 z2 x3 y3 z3) x4 y4 z4
theorem valM_sm {x1 y1 z1 x2 y2 z2 x3 y3 z3 x4 y4 z4 : Int} (hx1 : IR x1) (hy1 : IR y1) (hz1 : IR z1) (hx2 : IR x2) (hy2 : IR y2) (hz2 : IR z2) (hx3 : IR x3) (hy3 : IR y3) (hz3 : IR z3) (hx4 : IR x4) (hy4 : IR y4) (hz4 : IR z4) : Sm 18154 (valM x1 y1 z1 x2 y2 z2 x3 y3 z3 x4 y4 z4) := by
  have h := qAt_sm (Sm.mul (plA_sm hx1 hy1 hz1 hx2 hy2 hz2 hx3 hy3 hz3) (plA_sm hx1 hy1 hz1 hx2 hy2 hz2 hx3 hy3 hz3)) (Sm.mul (smI (n := 2) (by decide)) (Sm.mul (plA_sm hx1 hy1 hz1 hx2 hy2 hz2 hx3 hy3 hz3) (plB_sm hx1 hy1 hz1 hx2 hy2 hz2 hx3 hy3 hz3))) (Sm.mul (smI (n := 2) (by decide)) (Sm.mul (plA_sm hx1 hy1 hz1 hx2 hy2 hz2 hx3 hy3 hz3) (plC_sm hx1 hy1 hz1 hx2 hy2 hz2 hx3 hy3 hz3))) (Sm.mul (smI (n := 2) (by decide)) (Sm.mul (plA_sm hx1 hy1 hz1 hx2 hy2 hz2 hx3 hy3 hz3) (plD_sm hx1 hy1 hz1 hx2 hy2 hz2 hx3 hy3 hz3))) (Sm.mul (plB_sm hx1 hy1 hz1 hx2 hy2 hz2 hx3 hy3 hz3) (plB_sm hx1 hy1 hz1 hx2 hy2 hz2 hx3 hy3 hz3)) (Sm.mul (smI (n := 2) (by decide)) (Sm.mul (plB_sm hx1 hy1 hz1 hx2 hy2 hz2 hx3 hy3 hz3) (plC_sm hx1 hy1 hz1 hx2 hy2 hz2 hx3 hy3 hz3))) (Sm.mul (smI (n := 2) (by decide)) (Sm.mul (plB_sm hx1 hy1 hz1 hx2 hy2 hz2 hx3 hy3 hz3) (plD_sm hx1 hy1 hz1 hx2 hy2 hz2 hx3 hy3 hz3))) (Sm.mul (plC_sm hx1 hy1 hz1 hx2 hy2 hz2 hx3 hy3 hz3) (plC_sm hx1 hy1 hz1 hx2 hy2 hz2 hx3 hy3 hz3)) (Sm.mul (smI (n := 2) (by decide)) (Sm.mul (plC_sm hx1 hy1 hz1 hx2 hy2 hz2 hx3 hy3 hz3) (plD_sm hx1 hy1 hz1 hx2 hy2 hz2 hx3 hy3 hz3))) (Sm.mul (plD_sm hx1 hy1 hz1 hx2 hy2 hz2 hx3 hy3 hz3) (plD_sm hx1 hy1 hz1 hx2 hy2 hz2 hx3 hy3 hz3)) hx4 hy4 hz4
  exact h
set_option maxHeartbeats 8000000 in
def dValM : Dn
  | [.agg [.int x1 hx1, .int y1 hy1, .int z1 hz1, .int x2 hx2, .int y2 hy2, .int z2 hz2, .int x3 hx3, .int y3 hy3, .int z3 hz3, .int x4 hx4, .int y4 hy4, .int z4 hz4]] =>
    some (none, .agg [.wid 18154 (valM x1 y1 z1 x2 y2 z2 x3 y3 z3 x4 y4 z4) (valM_sm hx1 hy1 hz1 hx2 hy2 hz2 hx3 hy3 hz3 hx4 hy4 hz4)])
  | _ => none
theorem spValM : SpOk Tryd.prog 27 dValM := sp_of2 (un := 20) (n := 0) ⟨Tryd.func27, by kernel_rfl, by kernel_rfl⟩ base11_ok noF_ok fun args p v hd => by
  unfold dValM at hd
  split at hd
  · rename_i x1 hx1 y1 hy1 z1 hz1 x2 hx2 y2 hy2 z2 hz2 x3 hx3 y3 hy3 z3 hz3 x4 hx4 y4 hy4 z4 hz4
    cases hd
    refine ⟨[.agg [.int x1 hx1, .int y1 hy1, .int z1 hz1, .int x2 hx2, .int y2 hy2, .int z2 hz2, .int x3 hx3, .int y3 hy3, .int z3 hz3, .int x4 hx4, .int y4 hy4, .int z4 hz4]], fun _ => rfl, fun _ _ => rfl, fun _ _ => rfl, fun _ => ?_⟩
    conv => whnf
    intro ρ
    refine agg_congr (cells_congr (wid_eq ?_ ρ) rfl)
    rfl
  · cases hd
def base12 : List (FuncId × Dn) := (26, dCutM) :: (27, dValM) :: base11
theorem base12_ok : AllOk base12 := .cons spCutM <| .cons spValM <| base11_ok
def eM (x1 y1 z1 x2 y2 z2 x3 y3 z3 x4 y4 z4 : Int) : Int := plA x1 y1 z1 x2 y2 z2 x3 y3 z3 * x4 + plB x1 y1 z1 x2 y2 z2 x3 y3 z3 * y4 + (plC x1 y1 z1 x2 y2 z2 x3 y3 z3 * z4 + plD x1 y1 z1 x2 y2 z2 x3 y3 z3)
theorem valM_sq (x1 y1 z1 x2 y2 z2 x3 y3 z3 x4 y4 z4 : Int) : valM x1 y1 z1 x2 y2 z2 x3 y3 z3 x4 y4 z4 = eM x1 y1 z1 x2 y2 z2 x3 y3 z3 x4 y4 z4 * eM x1 y1 z1 x2 y2 z2 x3 y3 z3 x4 y4 z4 := by unfold valM eM; exact val_sq ..
theorem eM_move (x1 y1 z1 x2 y2 z2 x3 y3 z3 x4 y4 z4 x y z : Int) : eM (x1 + x) (y1 + y) (z1 + z) (x2 + x) (y2 + y) (z2 + z) (x3 + x) (y3 + y) (z3 + z) (x4 + x) (y4 + y) (z4 + z) = eM x1 y1 z1 x2 y2 z2 x3 y3 z3 x4 y4 z4 := by unfold eM plD plA plB plC; grind
theorem eM_scale (x1 y1 z1 x2 y2 z2 x3 y3 z3 x4 y4 z4 n : Int) : eM (x1 * n) (y1 * n) (z1 * n) (x2 * n) (y2 * n) (z2 * n) (x3 * n) (y3 * n) (z3 * n) (x4 * n) (y4 * n) (z4 * n) = n * n * n * eM x1 y1 z1 x2 y2 z2 x3 y3 z3 x4 y4 z4 := by unfold eM plD plA plB plC; grind
theorem valM_move (x1 y1 z1 x2 y2 z2 x3 y3 z3 x4 y4 z4 x y z : Int) : valM (x1 + x) (y1 + y) (z1 + z) (x2 + x) (y2 + y) (z2 + z) (x3 + x) (y3 + y) (z3 + z) (x4 + x) (y4 + y) (z4 + z) = valM x1 y1 z1 x2 y2 z2 x3 y3 z3 x4 y4 z4 := by rw [valM_sq, valM_sq, eM_move]
theorem valM_scale (x1 y1 z1 x2 y2 z2 x3 y3 z3 x4 y4 z4 n : Int) : valM (x1 * n) (y1 * n) (z1 * n) (x2 * n) (y2 * n) (z2 * n) (x3 * n) (y3 * n) (z3 * n) (x4 * n) (y4 * n) (z4 * n) = valM x1 y1 z1 x2 y2 z2 x3 y3 z3 x4 y4 z4 * (1 * n * n * n * n * n * n) := by rw [valM_sq, valM_sq, eM_scale]; grind
theorem tmod_bd (a : Int) {m : Int} (hm : 0 < m) : -m < a.tmod m ∧ a.tmod m < m := ⟨Int.neg_lt_of_neg_lt (by have h := Int.tmod_lt_of_pos (-a) hm; rw [Int.neg_tmod] at h; exact h), Int.tmod_lt_of_pos a hm⟩
theorem wrap_tadd (a b : Int) : IntKind.i64.wrap (a.tmod 1073741824 + b.tmod 1073741824) = a.tmod 1073741824 + b.tmod 1073741824 := by
  have h1 := tmod_bd a (m := 1073741824) (by decide)
  have h2 := tmod_bd b (m := 1073741824) (by decide)
  exact wrap_id (by unfold IR; omega)
theorem wrap_tmul (a n : Int) : IntKind.i64.wrap (a.tmod 1073741824 * n.tmod 100) = a.tmod 1073741824 * n.tmod 100 := by
  have h1 := tmod_bd a (m := 1073741824) (by decide)
  have h2 := tmod_bd n (m := 100) (by decide)
  refine wrap_id ?_
  unfold IR
  generalize a.tmod 1073741824 = p at *
  generalize n.tmod 100 = q at *
  have h3 : p * q ≤ 1073741824 * 100 ∧ -(1073741824 * 100) ≤ p * q := by
    have e1 := Int.mul_nonneg (show 0 ≤ 1073741824 - p by omega) (show 0 ≤ 100 - q by omega)
    have e2 := Int.mul_nonneg (show 0 ≤ 1073741824 + p by omega) (show 0 ≤ 100 + q by omega)
    have e3 := Int.mul_nonneg (show 0 ≤ 1073741824 - p by omega) (show 0 ≤ 100 + q by omega)
    have e4 := Int.mul_nonneg (show 0 ≤ 1073741824 + p by omega) (show 0 ≤ 100 - q by omega)
    simp only [Int.sub_mul, Int.add_mul, Int.mul_sub, Int.mul_add] at e1 e2 e3 e4
    omega
  omega
set_option maxHeartbeats 8000000 in
def dLawMove : Dn
  | [.agg [.int _ _, .int _ _, .int _ _, .int _ _, .int _ _, .int _ _, .int _ _, .int _ _, .int _ _, .int _ _, .int _ _, .int _ _], .agg [.int _ _, .int _ _, .int _ _], .c (.int _ _)] =>
    some (none, .c (.val (.bool true)))
  | _ => none
theorem spLawMove : SpOk Tryd.prog 9 dLawMove := sp_of2 (un := 20) (n := 0) ⟨Tryd.func9, by kernel_rfl, by kernel_rfl⟩ base12_ok noF_ok fun args p v hd => by
  unfold dLawMove at hd
  split at hd
  · rename_i x1 hx1 y1 hy1 z1 hz1 x2 hx2 y2 hy2 z2 hz2 x3 hx3 y3 hy3 z3 hz3 x4 hx4 y4 hy4 z4 hz4 x hx y hy z hz n hn
    cases hd
    refine ⟨[.agg [.int x1 hx1, .int y1 hy1, .int z1 hz1, .int x2 hx2, .int y2 hy2, .int z2 hz2, .int x3 hx3, .int y3 hy3, .int z3 hz3, .int x4 hx4, .int y4 hy4, .int z4 hz4], .agg [.int x hx, .int y hy, .int z hz], .c (.int n hn)], fun _ => rfl, fun _ _ => rfl, fun _ _ => rfl, fun _ => ?_⟩
    conv => whnf
    refine bcase_true ?_ ?_
    · refine decide_eq_true ?_
      simp only [wrap_tadd]
      exact (valM_move ..).symm
    · conv => whnf
      intro ρ
      have e := decide_eq_true (valM_scale (x1.tmod 1073741824) (y1.tmod 1073741824) (z1.tmod 1073741824) (x2.tmod 1073741824) (y2.tmod 1073741824) (z2.tmod 1073741824) (x3.tmod 1073741824) (y3.tmod 1073741824) (z3.tmod 1073741824) (x4.tmod 1073741824) (y4.tmod 1073741824) (z4.tmod 1073741824) (n.tmod 100))
      simp only [wrap_tmul]
      rw [e]
      rfl
  · cases hd
end Go.Proofs.YtapppahniablmaaDoor
