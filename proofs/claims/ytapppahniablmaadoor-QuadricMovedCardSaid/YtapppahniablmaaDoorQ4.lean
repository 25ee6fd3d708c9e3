/- quadric: quadrics, by the reckoner. -/
import Derived.Test.YtapppahniablmaaDoorQ3
namespace Go.Proofs.YtapppahniablmaaDoor
open Go.RowKit
set_option maxRecDepth 100000

noncomputable def fxq : FuncId → Option Func := lk [(30, Tryd.f30), (31, Tryd.f31), (37, Tryd.f37)]
theorem fxq_ok : ∀ f fn, fxq f = some fn → FnOk Tryd.prog f fn := lkF_ok fun x hx => by
  simp only [List.mem_cons, List.not_mem_nil, or_false] at hx
  rcases hx with rfl | rfl | rfl
  · exact ⟨Tryd.func30, by kernel_rfl, by kernel_rfl⟩
  · exact ⟨Tryd.func31, by kernel_rfl, by kernel_rfl⟩
  · exact ⟨Tryd.func37, by kernel_rfl, by kernel_rfl⟩
theorem two_mul (x : Int) : x * 2 = 2 * x := Int.mul_comm _ _
set_option maxHeartbeats 8000000 in
def dOfQ : Dn
  | [.agg [.int x1 hx1, .int y1 hy1, .int z1 hz1, .int x2 hx2, .int y2 hy2, .int z2 hz2, .int x3 hx3, .int y3 hy3, .int z3 hz3]] =>
    some (none, .agg [.wid 1034 (plA x1 y1 z1 x2 y2 z2 x3 y3 z3 * plA x1 y1 z1 x2 y2 z2 x3 y3 z3) (Sm.mul (plA_sm hx1 hy1 hz1 hx2 hy2 hz2 hx3 hy3 hz3) (plA_sm hx1 hy1 hz1 hx2 hy2 hz2 hx3 hy3 hz3)), .wid 1098 (2 * (plA x1 y1 z1 x2 y2 z2 x3 y3 z3 * plB x1 y1 z1 x2 y2 z2 x3 y3 z3)) (Sm.mul (smI (n := 2) (by decide)) (Sm.mul (plA_sm hx1 hy1 hz1 hx2 hy2 hz2 hx3 hy3 hz3) (plB_sm hx1 hy1 hz1 hx2 hy2 hz2 hx3 hy3 hz3))), .wid 1098 (2 * (plA x1 y1 z1 x2 y2 z2 x3 y3 z3 * plC x1 y1 z1 x2 y2 z2 x3 y3 z3)) (Sm.mul (smI (n := 2) (by decide)) (Sm.mul (plA_sm hx1 hy1 hz1 hx2 hy2 hz2 hx3 hy3 hz3) (plC_sm hx1 hy1 hz1 hx2 hy2 hz2 hx3 hy3 hz3))), .wid 2326 (2 * (plA x1 y1 z1 x2 y2 z2 x3 y3 z3 * plD x1 y1 z1 x2 y2 z2 x3 y3 z3)) (Sm.mul (smI (n := 2) (by decide)) (Sm.mul (plA_sm hx1 hy1 hz1 hx2 hy2 hz2 hx3 hy3 hz3) (plD_sm hx1 hy1 hz1 hx2 hy2 hz2 hx3 hy3 hz3))), .wid 1034 (plB x1 y1 z1 x2 y2 z2 x3 y3 z3 * plB x1 y1 z1 x2 y2 z2 x3 y3 z3) (Sm.mul (plB_sm hx1 hy1 hz1 hx2 hy2 hz2 hx3 hy3 hz3) (plB_sm hx1 hy1 hz1 hx2 hy2 hz2 hx3 hy3 hz3)), .wid 1098 (2 * (plB x1 y1 z1 x2 y2 z2 x3 y3 z3 * plC x1 y1 z1 x2 y2 z2 x3 y3 z3)) (Sm.mul (smI (n := 2) (by decide)) (Sm.mul (plB_sm hx1 hy1 hz1 hx2 hy2 hz2 hx3 hy3 hz3) (plC_sm hx1 hy1 hz1 hx2 hy2 hz2 hx3 hy3 hz3))), .wid 2326 (2 * (plB x1 y1 z1 x2 y2 z2 x3 y3 z3 * plD x1 y1 z1 x2 y2 z2 x3 y3 z3)) (Sm.mul (smI (n := 2) (by decide)) (Sm.mul (plB_sm hx1 hy1 hz1 hx2 hy2 hz2 hx3 hy3 hz3) (plD_sm hx1 hy1 hz1 hx2 hy2 hz2 hx3 hy3 hz3))), .wid 1034 (plC x1 y1 z1 x2 y2 z2 x3 y3 z3 * plC x1 y1 z1 x2 y2 z2 x3 y3 z3) (Sm.mul (plC_sm hx1 hy1 hz1 hx2 hy2 hz2 hx3 hy3 hz3) (plC_sm hx1 hy1 hz1 hx2 hy2 hz2 hx3 hy3 hz3)), .wid 2326 (2 * (plC x1 y1 z1 x2 y2 z2 x3 y3 z3 * plD x1 y1 z1 x2 y2 z2 x3 y3 z3)) (Sm.mul (smI (n := 2) (by decide)) (Sm.mul (plC_sm hx1 hy1 hz1 hx2 hy2 hz2 hx3 hy3 hz3) (plD_sm hx1 hy1 hz1 hx2 hy2 hz2 hx3 hy3 hz3))), .wid 3490 (plD x1 y1 z1 x2 y2 z2 x3 y3 z3 * plD x1 y1 z1 x2 y2 z2 x3 y3 z3) (Sm.mul (plD_sm hx1 hy1 hz1 hx2 hy2 hz2 hx3 hy3 hz3) (plD_sm hx1 hy1 hz1 hx2 hy2 hz2 hx3 hy3 hz3))])
  | _ => none
theorem spOfQ : SpOk Tryd.prog 12 dOfQ := sp_of2 (un := 20) (n := 5) ⟨Tryd.func12, by kernel_rfl, by kernel_rfl⟩ base7_ok fxq_ok fun args p v hd => by
  unfold dOfQ at hd
  split at hd
  · rename_i x1 hx1 y1 hy1 z1 hz1 x2 hx2 y2 hy2 z2 hz2 x3 hx3 y3 hy3 z3 hz3
    cases hd
    refine ⟨[.agg [.int x1 hx1, .int y1 hy1, .int z1 hz1, .int x2 hx2, .int y2 hy2, .int z2 hz2, .int x3 hx3, .int y3 hy3, .int z3 hz3]], fun _ => rfl, fun _ _ => rfl, fun _ _ => rfl, fun _ => ?_⟩
    conv => whnf
    refine bcase_intro (fun h => ?_) (fun _ => ?_)
    · conv => whnf
      intro ρ
      simp only [Bool.and_eq_true, decide_eq_true_eq] at h
      obtain ⟨e1, e2, e3, e4⟩ := h
      refine agg_congr (cells_congr (wid_eq ?_ ρ) (cells_congr (wid_eq ?_ ρ) (cells_congr (wid_eq ?_ ρ) (cells_congr (wid_eq ?_ ρ) (cells_congr (wid_eq ?_ ρ) (cells_congr (wid_eq ?_ ρ) (cells_congr (wid_eq ?_ ρ) (cells_congr (wid_eq ?_ ρ) (cells_congr (wid_eq ?_ ρ) (cells_congr (wid_eq ?_ ρ) rfl))))))))))
      all_goals simp [e1, e2, e3, e4]
    · conv => whnf
      intro ρ
      refine agg_congr (cells_congr (wid_eq ?_ ρ) (cells_congr (wid_eq ?_ ρ) (cells_congr (wid_eq ?_ ρ) (cells_congr (wid_eq ?_ ρ) (cells_congr (wid_eq ?_ ρ) (cells_congr (wid_eq ?_ ρ) (cells_congr (wid_eq ?_ ρ) (cells_congr (wid_eq ?_ ρ) (cells_congr (wid_eq ?_ ρ) (cells_congr (wid_eq ?_ ρ) rfl))))))))))
      all_goals first | rfl | exact two_mul _
  · cases hd
set_option maxHeartbeats 8000000 in
def dSumQ : Dn
  | [.agg [.wid ja0 a0 ha0, .wid ja1 a1 ha1, .wid ja2 a2 ha2, .wid ja3 a3 ha3, .wid ja4 a4 ha4, .wid ja5 a5 ha5, .wid ja6 a6 ha6, .wid ja7 a7 ha7, .wid ja8 a8 ha8, .wid ja9 a9 ha9], .agg [.wid jb0 b0 hb0, .wid jb1 b1 hb1, .wid jb2 b2 hb2, .wid jb3 b3 hb3, .wid jb4 b4 hb4, .wid jb5 b5 hb5, .wid jb6 b6 hb6, .wid jb7 b7 hb7, .wid jb8 b8 hb8, .wid jb9 b9 hb9]] =>
    if ja0 ≤ 20000000 ∧ ja1 ≤ 20000000 ∧ ja2 ≤ 20000000 ∧ ja3 ≤ 20000000 ∧ ja4 ≤ 20000000 ∧ ja5 ≤ 20000000 ∧ ja6 ≤ 20000000 ∧ ja7 ≤ 20000000 ∧ ja8 ≤ 20000000 ∧ ja9 ≤ 20000000 ∧ jb0 ≤ 20000000 ∧ jb1 ≤ 20000000 ∧ jb2 ≤ 20000000 ∧ jb3 ≤ 20000000 ∧ jb4 ≤ 20000000 ∧ jb5 ≤ 20000000 ∧ jb6 ≤ 20000000 ∧ jb7 ≤ 20000000 ∧ jb8 ≤ 20000000 ∧ jb9 ≤ 20000000 then some (none, .agg [.wid (ja0 + jb0 + 1) (a0 + b0) (sm_addj ha0 hb0), .wid (ja1 + jb1 + 1) (a1 + b1) (sm_addj ha1 hb1), .wid (ja2 + jb2 + 1) (a2 + b2) (sm_addj ha2 hb2), .wid (ja3 + jb3 + 1) (a3 + b3) (sm_addj ha3 hb3), .wid (ja4 + jb4 + 1) (a4 + b4) (sm_addj ha4 hb4), .wid (ja5 + jb5 + 1) (a5 + b5) (sm_addj ha5 hb5), .wid (ja6 + jb6 + 1) (a6 + b6) (sm_addj ha6 hb6), .wid (ja7 + jb7 + 1) (a7 + b7) (sm_addj ha7 hb7), .wid (ja8 + jb8 + 1) (a8 + b8) (sm_addj ha8 hb8), .wid (ja9 + jb9 + 1) (a9 + b9) (sm_addj ha9 hb9)]) else none
  | _ => none
theorem spSumQ : SpOk Tryd.prog 19 dSumQ := sp_of2 (un := 20) (n := 0) ⟨Tryd.func19, by kernel_rfl, by kernel_rfl⟩ base7_ok noF_ok fun args p v hd => by
  unfold dSumQ at hd
  split at hd
  · rename_i ja0 a0 ha0 ja1 a1 ha1 ja2 a2 ha2 ja3 a3 ha3 ja4 a4 ha4 ja5 a5 ha5 ja6 a6 ha6 ja7 a7 ha7 ja8 a8 ha8 ja9 a9 ha9 jb0 b0 hb0 jb1 b1 hb1 jb2 b2 hb2 jb3 b3 hb3 jb4 b4 hb4 jb5 b5 hb5 jb6 b6 hb6 jb7 b7 hb7 jb8 b8 hb8 jb9 b9 hb9
    split at hd
    · rename_i hcon
      cases hd
      refine ⟨[.agg [.wid 20000000 a0 (ha0.mono hcon.1), .wid 20000000 a1 (ha1.mono hcon.2.1), .wid 20000000 a2 (ha2.mono hcon.2.2.1), .wid 20000000 a3 (ha3.mono hcon.2.2.2.1), .wid 20000000 a4 (ha4.mono hcon.2.2.2.2.1), .wid 20000000 a5 (ha5.mono hcon.2.2.2.2.2.1), .wid 20000000 a6 (ha6.mono hcon.2.2.2.2.2.2.1), .wid 20000000 a7 (ha7.mono hcon.2.2.2.2.2.2.2.1), .wid 20000000 a8 (ha8.mono hcon.2.2.2.2.2.2.2.2.1), .wid 20000000 a9 (ha9.mono hcon.2.2.2.2.2.2.2.2.2.1)], .agg [.wid 20000000 b0 (hb0.mono hcon.2.2.2.2.2.2.2.2.2.2.1), .wid 20000000 b1 (hb1.mono hcon.2.2.2.2.2.2.2.2.2.2.2.1), .wid 20000000 b2 (hb2.mono hcon.2.2.2.2.2.2.2.2.2.2.2.2.1), .wid 20000000 b3 (hb3.mono hcon.2.2.2.2.2.2.2.2.2.2.2.2.2.1), .wid 20000000 b4 (hb4.mono hcon.2.2.2.2.2.2.2.2.2.2.2.2.2.2.1), .wid 20000000 b5 (hb5.mono hcon.2.2.2.2.2.2.2.2.2.2.2.2.2.2.2.1), .wid 20000000 b6 (hb6.mono hcon.2.2.2.2.2.2.2.2.2.2.2.2.2.2.2.2.1), .wid 20000000 b7 (hb7.mono hcon.2.2.2.2.2.2.2.2.2.2.2.2.2.2.2.2.2.1), .wid 20000000 b8 (hb8.mono hcon.2.2.2.2.2.2.2.2.2.2.2.2.2.2.2.2.2.2.1), .wid 20000000 b9 (hb9.mono hcon.2.2.2.2.2.2.2.2.2.2.2.2.2.2.2.2.2.2.2)]], fun _ => rfl, fun _ _ => rfl, fun _ _ => rfl, fun _ => ?_⟩
      conv => whnf
      exact fun _ => rfl
    · cases hd
  · cases hd
set_option maxHeartbeats 8000000 in
def dSum10 : Dn
  | [.agg [.wid ja0 a0 ha0, .wid ja1 a1 ha1, .wid ja2 a2 ha2, .wid ja3 a3 ha3, .wid ja4 a4 ha4, .wid ja5 a5 ha5, .wid ja6 a6 ha6, .wid ja7 a7 ha7, .wid ja8 a8 ha8, .wid ja9 a9 ha9], .agg [.wid jb0 b0 hb0, .wid jb1 b1 hb1, .wid jb2 b2 hb2, .wid jb3 b3 hb3, .wid jb4 b4 hb4, .wid jb5 b5 hb5, .wid jb6 b6 hb6, .wid jb7 b7 hb7, .wid jb8 b8 hb8, .wid jb9 b9 hb9]] =>
    if ja0 ≤ 20000000 ∧ ja1 ≤ 20000000 ∧ ja2 ≤ 20000000 ∧ ja3 ≤ 20000000 ∧ ja4 ≤ 20000000 ∧ ja5 ≤ 20000000 ∧ ja6 ≤ 20000000 ∧ ja7 ≤ 20000000 ∧ ja8 ≤ 20000000 ∧ ja9 ≤ 20000000 ∧ jb0 ≤ 20000000 ∧ jb1 ≤ 20000000 ∧ jb2 ≤ 20000000 ∧ jb3 ≤ 20000000 ∧ jb4 ≤ 20000000 ∧ jb5 ≤ 20000000 ∧ jb6 ≤ 20000000 ∧ jb7 ≤ 20000000 ∧ jb8 ≤ 20000000 ∧ jb9 ≤ 20000000 then some (none, .agg [.wid (ja0 + jb0 + 1) (a0 + b0) (sm_addj ha0 hb0), .wid (ja1 + jb1 + 1) (a1 + b1) (sm_addj ha1 hb1), .wid (ja2 + jb2 + 1) (a2 + b2) (sm_addj ha2 hb2), .wid (ja3 + jb3 + 1) (a3 + b3) (sm_addj ha3 hb3), .wid (ja4 + jb4 + 1) (a4 + b4) (sm_addj ha4 hb4), .wid (ja5 + jb5 + 1) (a5 + b5) (sm_addj ha5 hb5), .wid (ja6 + jb6 + 1) (a6 + b6) (sm_addj ha6 hb6), .wid (ja7 + jb7 + 1) (a7 + b7) (sm_addj ha7 hb7), .wid (ja8 + jb8 + 1) (a8 + b8) (sm_addj ha8 hb8), .wid (ja9 + jb9 + 1) (a9 + b9) (sm_addj ha9 hb9)]) else none
  | _ => none
theorem spSum10 : SpOk Tryd.prog 21 dSum10 := sp_of2 (un := 20) (n := 0) ⟨Tryd.func21, by kernel_rfl, by kernel_rfl⟩ base7_ok noF_ok fun args p v hd => by
  unfold dSum10 at hd
  split at hd
  · rename_i ja0 a0 ha0 ja1 a1 ha1 ja2 a2 ha2 ja3 a3 ha3 ja4 a4 ha4 ja5 a5 ha5 ja6 a6 ha6 ja7 a7 ha7 ja8 a8 ha8 ja9 a9 ha9 jb0 b0 hb0 jb1 b1 hb1 jb2 b2 hb2 jb3 b3 hb3 jb4 b4 hb4 jb5 b5 hb5 jb6 b6 hb6 jb7 b7 hb7 jb8 b8 hb8 jb9 b9 hb9
    split at hd
    · rename_i hcon
      cases hd
      refine ⟨[.agg [.wid 20000000 a0 (ha0.mono hcon.1), .wid 20000000 a1 (ha1.mono hcon.2.1), .wid 20000000 a2 (ha2.mono hcon.2.2.1), .wid 20000000 a3 (ha3.mono hcon.2.2.2.1), .wid 20000000 a4 (ha4.mono hcon.2.2.2.2.1), .wid 20000000 a5 (ha5.mono hcon.2.2.2.2.2.1), .wid 20000000 a6 (ha6.mono hcon.2.2.2.2.2.2.1), .wid 20000000 a7 (ha7.mono hcon.2.2.2.2.2.2.2.1), .wid 20000000 a8 (ha8.mono hcon.2.2.2.2.2.2.2.2.1), .wid 20000000 a9 (ha9.mono hcon.2.2.2.2.2.2.2.2.2.1)], .agg [.wid 20000000 b0 (hb0.mono hcon.2.2.2.2.2.2.2.2.2.2.1), .wid 20000000 b1 (hb1.mono hcon.2.2.2.2.2.2.2.2.2.2.2.1), .wid 20000000 b2 (hb2.mono hcon.2.2.2.2.2.2.2.2.2.2.2.2.1), .wid 20000000 b3 (hb3.mono hcon.2.2.2.2.2.2.2.2.2.2.2.2.2.1), .wid 20000000 b4 (hb4.mono hcon.2.2.2.2.2.2.2.2.2.2.2.2.2.2.1), .wid 20000000 b5 (hb5.mono hcon.2.2.2.2.2.2.2.2.2.2.2.2.2.2.2.1), .wid 20000000 b6 (hb6.mono hcon.2.2.2.2.2.2.2.2.2.2.2.2.2.2.2.2.1), .wid 20000000 b7 (hb7.mono hcon.2.2.2.2.2.2.2.2.2.2.2.2.2.2.2.2.2.1), .wid 20000000 b8 (hb8.mono hcon.2.2.2.2.2.2.2.2.2.2.2.2.2.2.2.2.2.2.1), .wid 20000000 b9 (hb9.mono hcon.2.2.2.2.2.2.2.2.2.2.2.2.2.2.2.2.2.2.2)]], fun _ => rfl, fun _ _ => rfl, fun _ _ => rfl, fun _ => ?_⟩
      conv => whnf
      exact fun _ => rfl
    · cases hd
  · cases hd
/-- the value of a quadric at a point -/
def qAt (q0 q1 q2 q3 q4 q5 q6 q7 q8 q9 x y z : Int) : Int :=
  q0 * (x * x) + q1 * (x * y) + q2 * (x * z) + q3 * x + q4 * (y * y) + q5 * (y * z) + q6 * y + q7 * (z * z) + q8 * z + q9
set_option maxHeartbeats 8000000 in
def dAt10 : Dn
  | [.agg [.wid jq0 q0 hq0, .wid jq1 q1 hq1, .wid jq2 q2 hq2, .wid jq3 q3 hq3, .wid jq4 q4 hq4, .wid jq5 q5 hq5, .wid jq6 q6 hq6, .wid jq7 q7 hq7, .wid jq8 q8 hq8, .wid jq9 q9 hq9], .agg [.int x hx, .int y hy, .int z hz]] =>
    if jq0 ≤ 1000000 ∧ jq1 ≤ 1000000 ∧ jq2 ≤ 1000000 ∧ jq3 ≤ 1000000 ∧ jq4 ≤ 1000000 ∧ jq5 ≤ 1000000 ∧ jq6 ≤ 1000000 ∧ jq7 ≤ 1000000 ∧ jq8 ≤ 1000000 ∧ jq9 ≤ 1000000 then some (none, .agg [.wid ((((((((((0 + (jq0 + 128) + 1) + (jq1 + 128) + 1) + (jq2 + 128) + 1) + (jq3 + 128) + 1) + (jq4 + 128) + 1) + (jq5 + 128) + 1) + (jq6 + 128) + 1) + (jq7 + 128) + 1) + (jq8 + 128) + 1) + (jq9 + 128) + 1) (qAt q0 q1 q2 q3 q4 q5 q6 q7 q8 q9 x y z) (by have h := (sm_addj (sm_addj (sm_addj (sm_addj (sm_addj (sm_addj (sm_addj (sm_addj (sm_addj (sm_addj sm0 (Sm.mul hq0 (Sm.mul (smI hx) (smI hx)))) (Sm.mul hq1 (Sm.mul (smI hx) (smI hy)))) (Sm.mul hq2 (Sm.mul (smI hx) (smI hz)))) (Sm.mul hq3 (Sm.mul (smI hx) (smI (n := 1) (by decide))))) (Sm.mul hq4 (Sm.mul (smI hy) (smI hy)))) (Sm.mul hq5 (Sm.mul (smI hy) (smI hz)))) (Sm.mul hq6 (Sm.mul (smI hy) (smI (n := 1) (by decide))))) (Sm.mul hq7 (Sm.mul (smI hz) (smI hz)))) (Sm.mul hq8 (Sm.mul (smI hz) (smI (n := 1) (by decide))))) (Sm.mul hq9 (Sm.mul (smI (n := 1) (by decide)) (smI (n := 1) (by decide))))); have e : qAt q0 q1 q2 q3 q4 q5 q6 q7 q8 q9 x y z = 0 + q0 * (x * x) + q1 * (x * y) + q2 * (x * z) + q3 * (x * 1) + q4 * (y * y) + q5 * (y * z) + q6 * (y * 1) + q7 * (z * z) + q8 * (z * 1) + q9 * (1 * 1) := (by unfold qAt; grind); rw [e]; exact h)]) else none
  | _ => none
theorem spAt10 : SpOk Tryd.prog 18 dAt10 := sp_of2 (un := 20) (n := 0) ⟨Tryd.func18, by kernel_rfl, by kernel_rfl⟩ base7_ok noF_ok fun args p v hd => by
  unfold dAt10 at hd
  split at hd
  · rename_i jq0 q0 hq0 jq1 q1 hq1 jq2 q2 hq2 jq3 q3 hq3 jq4 q4 hq4 jq5 q5 hq5 jq6 q6 hq6 jq7 q7 hq7 jq8 q8 hq8 jq9 q9 hq9 x hx y hy z hz
    split at hd
    · rename_i hcon
      cases hd
      refine ⟨[.agg [.wid 1000000 q0 (hq0.mono hcon.1), .wid 1000000 q1 (hq1.mono hcon.2.1), .wid 1000000 q2 (hq2.mono hcon.2.2.1), .wid 1000000 q3 (hq3.mono hcon.2.2.2.1), .wid 1000000 q4 (hq4.mono hcon.2.2.2.2.1), .wid 1000000 q5 (hq5.mono hcon.2.2.2.2.2.1), .wid 1000000 q6 (hq6.mono hcon.2.2.2.2.2.2.1), .wid 1000000 q7 (hq7.mono hcon.2.2.2.2.2.2.2.1), .wid 1000000 q8 (hq8.mono hcon.2.2.2.2.2.2.2.2.1), .wid 1000000 q9 (hq9.mono hcon.2.2.2.2.2.2.2.2.2)], .agg [.int x hx, .int y hy, .int z hz]], fun _ => rfl, fun _ _ => rfl, fun _ _ => rfl, fun _ => ?_⟩
      conv => whnf
      intro ρ
      refine agg_congr (cells_congr (wid_eq ?_ ρ) rfl)
      unfold qAt
      grind
    · cases hd
  · cases hd
set_option maxHeartbeats 8000000 in
def dAtQ : Dn
  | [.agg [.wid jq0 q0 hq0, .wid jq1 q1 hq1, .wid jq2 q2 hq2, .wid jq3 q3 hq3, .wid jq4 q4 hq4, .wid jq5 q5 hq5, .wid jq6 q6 hq6, .wid jq7 q7 hq7, .wid jq8 q8 hq8, .wid jq9 q9 hq9], .agg [.int x hx, .int y hy, .int z hz]] =>
    if jq0 ≤ 1000000 ∧ jq1 ≤ 1000000 ∧ jq2 ≤ 1000000 ∧ jq3 ≤ 1000000 ∧ jq4 ≤ 1000000 ∧ jq5 ≤ 1000000 ∧ jq6 ≤ 1000000 ∧ jq7 ≤ 1000000 ∧ jq8 ≤ 1000000 ∧ jq9 ≤ 1000000 then some (none, .agg [.wid ((((((((((0 + (jq0 + 128) + 1) + (jq1 + 128) + 1) + (jq2 + 128) + 1) + (jq3 + 128) + 1) + (jq4 + 128) + 1) + (jq5 + 128) + 1) + (jq6 + 128) + 1) + (jq7 + 128) + 1) + (jq8 + 128) + 1) + (jq9 + 128) + 1) (qAt q0 q1 q2 q3 q4 q5 q6 q7 q8 q9 x y z) (by have h := (sm_addj (sm_addj (sm_addj (sm_addj (sm_addj (sm_addj (sm_addj (sm_addj (sm_addj (sm_addj sm0 (Sm.mul hq0 (Sm.mul (smI hx) (smI hx)))) (Sm.mul hq1 (Sm.mul (smI hx) (smI hy)))) (Sm.mul hq2 (Sm.mul (smI hx) (smI hz)))) (Sm.mul hq3 (Sm.mul (smI hx) (smI (n := 1) (by decide))))) (Sm.mul hq4 (Sm.mul (smI hy) (smI hy)))) (Sm.mul hq5 (Sm.mul (smI hy) (smI hz)))) (Sm.mul hq6 (Sm.mul (smI hy) (smI (n := 1) (by decide))))) (Sm.mul hq7 (Sm.mul (smI hz) (smI hz)))) (Sm.mul hq8 (Sm.mul (smI hz) (smI (n := 1) (by decide))))) (Sm.mul hq9 (Sm.mul (smI (n := 1) (by decide)) (smI (n := 1) (by decide))))); have e : qAt q0 q1 q2 q3 q4 q5 q6 q7 q8 q9 x y z = 0 + q0 * (x * x) + q1 * (x * y) + q2 * (x * z) + q3 * (x * 1) + q4 * (y * y) + q5 * (y * z) + q6 * (y * 1) + q7 * (z * z) + q8 * (z * 1) + q9 * (1 * 1) := (by unfold qAt; grind); rw [e]; exact h)]) else none
  | _ => none
theorem spAtQ : SpOk Tryd.prog 15 dAtQ := sp_of2 (un := 20) (n := 5) ⟨Tryd.func15, by kernel_rfl, by kernel_rfl⟩ base7_ok fxq_ok fun args p v hd => by
  unfold dAtQ at hd
  split at hd
  · rename_i jq0 q0 hq0 jq1 q1 hq1 jq2 q2 hq2 jq3 q3 hq3 jq4 q4 hq4 jq5 q5 hq5 jq6 q6 hq6 jq7 q7 hq7 jq8 q8 hq8 jq9 q9 hq9 x hx y hy z hz
    split at hd
    · rename_i hcon
      cases hd
      refine ⟨[.agg [.wid 1000000 q0 (hq0.mono hcon.1), .wid 1000000 q1 (hq1.mono hcon.2.1), .wid 1000000 q2 (hq2.mono hcon.2.2.1), .wid 1000000 q3 (hq3.mono hcon.2.2.2.1), .wid 1000000 q4 (hq4.mono hcon.2.2.2.2.1), .wid 1000000 q5 (hq5.mono hcon.2.2.2.2.2.1), .wid 1000000 q6 (hq6.mono hcon.2.2.2.2.2.2.1), .wid 1000000 q7 (hq7.mono hcon.2.2.2.2.2.2.2.1), .wid 1000000 q8 (hq8.mono hcon.2.2.2.2.2.2.2.2.1), .wid 1000000 q9 (hq9.mono hcon.2.2.2.2.2.2.2.2.2)], .agg [.int x hx, .int y hy, .int z hz]], fun _ => rfl, fun _ _ => rfl, fun _ _ => rfl, fun _ => ?_⟩
      conv => whnf
      intro ρ
      refine agg_congr (cells_congr (wid_eq ?_ ρ) rfl)
      unfold qAt
      grind
    · cases hd
  · cases hd
end Go.Proofs.YtapppahniablmaaDoor
