/- exact.Normal, ref02.Normal, by the reckoner. -/
import Derived.Test.YtapppahniablmaaDoorExact3
namespace Go.Proofs.YtapppahniablmaaDoor
open Go.RowKit
set_option maxRecDepth 100000

def dProd : Dn
  | [.agg [.wid ju0 u0 hu0, .wid ju1 u1 hu1, .wid ju2 u2 hu2], .agg [.wid jv0 v0 hv0, .wid jv1 v1 hv1, .wid jv2 v2 hv2]] =>
    if ju0 ≤ 10000000 ∧ ju1 ≤ 10000000 ∧ ju2 ≤ 10000000 ∧ jv0 ≤ 10000000 ∧ jv1 ≤ 10000000 ∧ jv2 ≤ 10000000 then some (none, .agg [.wid ((ju1 + jv2) + (ju2 + jv1) + 1) (u1 * v2 - u2 * v1) (sm_subj (Sm.mul hu1 hv2) (Sm.mul hu2 hv1)), .wid ((ju2 + jv0) + (ju0 + jv2) + 1) (u2 * v0 - u0 * v2) (sm_subj (Sm.mul hu2 hv0) (Sm.mul hu0 hv2)), .wid ((ju0 + jv1) + (ju1 + jv0) + 1) (u0 * v1 - u1 * v0) (sm_subj (Sm.mul hu0 hv1) (Sm.mul hu1 hv0))]) else none
  | _ => none
theorem spProd : SpOk Tryd.prog 66 dProd := sp_of2 (un := 20) (n := 3) ⟨Tryd.func66, by kernel_rfl, by kernel_rfl⟩ base1_ok fx1_ok fun args p v hd => by
  unfold dProd at hd
  split at hd
  · rename_i ju0 u0 hu0 ju1 u1 hu1 ju2 u2 hu2 jv0 v0 hv0 jv1 v1 hv1 jv2 v2 hv2
    split at hd
    · rename_i hcon
      cases hd
      refine ⟨[.agg [.wid 10000000 u0 (hu0.mono hcon.1), .wid 10000000 u1 (hu1.mono hcon.2.1), .wid 10000000 u2 (hu2.mono hcon.2.2.1)], .agg [.wid 10000000 v0 (hv0.mono hcon.2.2.2.1), .wid 10000000 v1 (hv1.mono hcon.2.2.2.2.1), .wid 10000000 v2 (hv2.mono hcon.2.2.2.2.2)]], fun _ => rfl, fun _ _ => rfl, fun _ _ => rfl, fun _ => ?_⟩
      conv => whnf
      exact fun _ => rfl
    · cases hd
  · cases hd
def base2 : List (FuncId × Dn) := (65, dFar) :: (66, dProd) :: base1
theorem base2_ok : AllOk base2 := .cons spFar <| .cons spProd <| base1_ok
def dNormal : Dn
  | [.agg [.int x1 hx1, .int y1 hy1, .int z1 hz1, .int x2 hx2, .int y2 hy2, .int z2 hz2, .int x3 hx3, .int y3 hy3, .int z3 hz3]] =>
    some (none, .agg [.wid 517 ((y2 - y1) * (z3 - z1) - (z2 - z1) * (y3 - y1)) (sm_subj (Sm.mul (sm_subj (smI hy2) (smI hy1)) (sm_subj (smI hz3) (smI hz1))) (Sm.mul (sm_subj (smI hz2) (smI hz1)) (sm_subj (smI hy3) (smI hy1)))), .wid 517 ((z2 - z1) * (x3 - x1) - (x2 - x1) * (z3 - z1)) (sm_subj (Sm.mul (sm_subj (smI hz2) (smI hz1)) (sm_subj (smI hx3) (smI hx1))) (Sm.mul (sm_subj (smI hx2) (smI hx1)) (sm_subj (smI hz3) (smI hz1)))), .wid 517 ((x2 - x1) * (y3 - y1) - (y2 - y1) * (x3 - x1)) (sm_subj (Sm.mul (sm_subj (smI hx2) (smI hx1)) (sm_subj (smI hy3) (smI hy1))) (Sm.mul (sm_subj (smI hy2) (smI hy1)) (sm_subj (smI hx3) (smI hx1))))])
  | _ => none
theorem spNormal : SpOk Tryd.prog 49 dNormal := sp_of2 (un := 20) (n := 0) ⟨Tryd.func49, by kernel_rfl, by kernel_rfl⟩ base2_ok noF_ok fun args p v hd => by
  unfold dNormal at hd
  split at hd
  · rename_i x1 hx1 y1 hy1 z1 hz1 x2 hx2 y2 hy2 z2 hz2 x3 hx3 y3 hy3 z3 hz3
    cases hd
    refine ⟨[.agg [.int x1 hx1, .int y1 hy1, .int z1 hz1, .int x2 hx2, .int y2 hy2, .int z2 hz2, .int x3 hx3, .int y3 hy3, .int z3 hz3]], fun _ => rfl, fun _ _ => rfl, fun _ _ => rfl, fun _ => ?_⟩
    conv => whnf
    exact fun _ => rfl
  · cases hd
def dMinus2 : Dn
  | [.agg [.wid ja a ha], .agg [.wid jb b hb], .agg [.wid jc c hc], .agg [.wid jd d hd]] =>
    if ja ≤ 20000000 ∧ jb ≤ 20000000 ∧ jc ≤ 20000000 ∧ jd ≤ 20000000 then some (none, .agg [.wid ((ja + jb) + (jc + jd) + 1) (a * b - c * d) (sm_subj (Sm.mul ha hb) (Sm.mul hc hd))]) else none
  | _ => none
theorem spMinus2 : SpOk Tryd.prog 81 dMinus2 := sp_of2 (un := 20) (n := 0) ⟨Tryd.func81, by kernel_rfl, by kernel_rfl⟩ base2_ok noF_ok fun args p v hd => by
  unfold dMinus2 at hd
  split at hd
  · rename_i ja a ha jb b hb jc c hc jd d hd
    split at hd
    · rename_i hcon
      cases hd
      refine ⟨[.agg [.wid 20000000 a (ha.mono hcon.1)], .agg [.wid 20000000 b (hb.mono hcon.2.1)], .agg [.wid 20000000 c (hc.mono hcon.2.2.1)], .agg [.wid 20000000 d (hd.mono hcon.2.2.2)]], fun _ => rfl, fun _ _ => rfl, fun _ _ => rfl, fun _ => ?_⟩
      conv => whnf
      exact fun _ => rfl
    · cases hd
  · cases hd
def dWide2 : Dn
  | [.agg [.int x1 hx1, .int y1 hy1, .int z1 hz1], .agg [.int x2 hx2, .int y2 hy2, .int z2 hz2]] =>
    some (none, .agg [.wid 129 (x2 - x1) (sm_subj (smI hx2) (smI hx1)), .wid 129 (y2 - y1) (sm_subj (smI hy2) (smI hy1)), .wid 129 (z2 - z1) (sm_subj (smI hz2) (smI hz1))])
  | _ => none
theorem spWide2 : SpOk Tryd.prog 72 dWide2 := sp_of2 (un := 20) (n := 0) ⟨Tryd.func72, by kernel_rfl, by kernel_rfl⟩ base2_ok noF_ok fun args p v hd => by
  unfold dWide2 at hd
  split at hd
  · rename_i x1 hx1 y1 hy1 z1 hz1 x2 hx2 y2 hy2 z2 hz2
    cases hd
    refine ⟨[.agg [.int x1 hx1, .int y1 hy1, .int z1 hz1], .agg [.int x2 hx2, .int y2 hy2, .int z2 hz2]], fun _ => rfl, fun _ _ => rfl, fun _ _ => rfl, fun _ => ?_⟩
    conv => whnf
    exact fun _ => rfl
  · cases hd
def base3 : List (FuncId × Dn) := (49, dNormal) :: (81, dMinus2) :: (72, dWide2) :: base2
theorem base3_ok : AllOk base3 := .cons spNormal <| .cons spMinus2 <| .cons spWide2 <| base2_ok
def dWProd2 : Dn
  | [.agg [.wid ju0 u0 hu0, .wid ju1 u1 hu1, .wid ju2 u2 hu2], .agg [.wid jv0 v0 hv0, .wid jv1 v1 hv1, .wid jv2 v2 hv2]] =>
    if ju0 ≤ 10000000 ∧ ju1 ≤ 10000000 ∧ ju2 ≤ 10000000 ∧ jv0 ≤ 10000000 ∧ jv1 ≤ 10000000 ∧ jv2 ≤ 10000000 then some (none, .agg [.wid ((ju1 + jv2) + (ju2 + jv1) + 1) (u1 * v2 - u2 * v1) (sm_subj (Sm.mul hu1 hv2) (Sm.mul hu2 hv1)), .wid ((ju2 + jv0) + (ju0 + jv2) + 1) (u2 * v0 - u0 * v2) (sm_subj (Sm.mul hu2 hv0) (Sm.mul hu0 hv2)), .wid ((ju0 + jv1) + (ju1 + jv0) + 1) (u0 * v1 - u1 * v0) (sm_subj (Sm.mul hu0 hv1) (Sm.mul hu1 hv0))]) else none
  | _ => none
theorem spWProd2 : SpOk Tryd.prog 71 dWProd2 := sp_of2 (un := 20) (n := 0) ⟨Tryd.func71, by kernel_rfl, by kernel_rfl⟩ base3_ok noF_ok fun args p v hd => by
  unfold dWProd2 at hd
  split at hd
  · rename_i ju0 u0 hu0 ju1 u1 hu1 ju2 u2 hu2 jv0 v0 hv0 jv1 v1 hv1 jv2 v2 hv2
    split at hd
    · rename_i hcon
      cases hd
      refine ⟨[.agg [.wid 10000000 u0 (hu0.mono hcon.1), .wid 10000000 u1 (hu1.mono hcon.2.1), .wid 10000000 u2 (hu2.mono hcon.2.2.1)], .agg [.wid 10000000 v0 (hv0.mono hcon.2.2.2.1), .wid 10000000 v1 (hv1.mono hcon.2.2.2.2.1), .wid 10000000 v2 (hv2.mono hcon.2.2.2.2.2)]], fun _ => rfl, fun _ _ => rfl, fun _ _ => rfl, fun _ => ?_⟩
      conv => whnf
      exact fun _ => rfl
    · cases hd
  · cases hd
def base4 : List (FuncId × Dn) := (71, dWProd2) :: base3
theorem base4_ok : AllOk base4 := .cons spWProd2 <| base3_ok
def dNormal2 : Dn
  | [.agg [.int x1 hx1, .int y1 hy1, .int z1 hz1, .int x2 hx2, .int y2 hy2, .int z2 hz2, .int x3 hx3, .int y3 hy3, .int z3 hz3]] =>
    some (none, .agg [.wid 517 ((y2 - y1) * (z3 - z1) - (z2 - z1) * (y3 - y1)) (sm_subj (Sm.mul (sm_subj (smI hy2) (smI hy1)) (sm_subj (smI hz3) (smI hz1))) (Sm.mul (sm_subj (smI hz2) (smI hz1)) (sm_subj (smI hy3) (smI hy1)))), .wid 517 ((z2 - z1) * (x3 - x1) - (x2 - x1) * (z3 - z1)) (sm_subj (Sm.mul (sm_subj (smI hz2) (smI hz1)) (sm_subj (smI hx3) (smI hx1))) (Sm.mul (sm_subj (smI hx2) (smI hx1)) (sm_subj (smI hz3) (smI hz1)))), .wid 517 ((x2 - x1) * (y3 - y1) - (y2 - y1) * (x3 - x1)) (sm_subj (Sm.mul (sm_subj (smI hx2) (smI hx1)) (sm_subj (smI hy3) (smI hy1))) (Sm.mul (sm_subj (smI hy2) (smI hy1)) (sm_subj (smI hx3) (smI hx1))))])
  | _ => none
theorem spNormal2 : SpOk Tryd.prog 54 dNormal2 := sp_of2 (un := 20) (n := 0) ⟨Tryd.func54, by kernel_rfl, by kernel_rfl⟩ base4_ok noF_ok fun args p v hd => by
  unfold dNormal2 at hd
  split at hd
  · rename_i x1 hx1 y1 hy1 z1 hz1 x2 hx2 y2 hy2 z2 hz2 x3 hx3 y3 hy3 z3 hz3
    cases hd
    refine ⟨[.agg [.int x1 hx1, .int y1 hy1, .int z1 hz1, .int x2 hx2, .int y2 hy2, .int z2 hz2, .int x3 hx3, .int y3 hy3, .int z3 hz3]], fun _ => rfl, fun _ _ => rfl, fun _ _ => rfl, fun _ => ?_⟩
    conv => whnf
    exact fun _ => rfl
  · cases hd
def dNum10 : Dn
  | [.c (.int n hn)] =>
    some (none, .agg [.wid 64 (n) (smI hn)])
  | _ => none
theorem spNum10 : SpOk Tryd.prog 34 dNum10 := sp_of2 (un := 20) (n := 0) ⟨Tryd.func34, by kernel_rfl, by kernel_rfl⟩ base4_ok noF_ok fun args p v hd => by
  unfold dNum10 at hd
  split at hd
  · rename_i n hn
    cases hd
    refine ⟨[.c (.int n hn)], fun _ => rfl, fun _ _ => rfl, fun _ _ => rfl, fun _ => ?_⟩
    conv => whnf
    exact fun _ => rfl
  · cases hd
def dMul10 : Dn
  | [.agg [.wid ja a ha], .agg [.wid jb b hb]] =>
    if ja ≤ 80000000 ∧ jb ≤ 80000000 then some (none, .agg [.wid (ja + jb) (a * b) (Sm.mul ha hb)]) else none
  | _ => none
theorem spMul10 : SpOk Tryd.prog 35 dMul10 := sp_of2 (un := 20) (n := 0) ⟨Tryd.func35, by kernel_rfl, by kernel_rfl⟩ base4_ok noF_ok fun args p v hd => by
  unfold dMul10 at hd
  split at hd
  · rename_i ja a ha jb b hb
    split at hd
    · rename_i hcon
      cases hd
      refine ⟨[.agg [.wid 80000000 a (ha.mono hcon.1)], .agg [.wid 80000000 b (hb.mono hcon.2)]], fun _ => rfl, fun _ _ => rfl, fun _ _ => rfl, fun _ => ?_⟩
      conv => whnf
      exact fun _ => rfl
    · cases hd
  · cases hd
def dAdd10 : Dn
  | [.agg [.wid ja a ha], .agg [.wid jb b hb]] =>
    if ja ≤ 80000000 ∧ jb ≤ 80000000 then some (none, .agg [.wid (ja + jb + 1) (a + b) (sm_addj ha hb)]) else none
  | _ => none
theorem spAdd10 : SpOk Tryd.prog 36 dAdd10 := sp_of2 (un := 20) (n := 0) ⟨Tryd.func36, by kernel_rfl, by kernel_rfl⟩ base4_ok noF_ok fun args p v hd => by
  unfold dAdd10 at hd
  split at hd
  · rename_i ja a ha jb b hb
    split at hd
    · rename_i hcon
      cases hd
      refine ⟨[.agg [.wid 80000000 a (ha.mono hcon.1)], .agg [.wid 80000000 b (hb.mono hcon.2)]], fun _ => rfl, fun _ _ => rfl, fun _ _ => rfl, fun _ => ?_⟩
      conv => whnf
      exact fun _ => rfl
    · cases hd
  · cases hd
end Go.Proofs.YtapppahniablmaaDoor
