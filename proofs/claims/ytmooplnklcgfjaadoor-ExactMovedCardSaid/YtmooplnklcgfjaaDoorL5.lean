/- law 02: moving and scaling. -/
import Derived.Test.YtmooplnklcgfjaaDoorEG
namespace Go.Proofs.YtmooplnklcgfjaaDoor
open Go.RowKit
set_option maxRecDepth 100000

theorem and_bd (m : Int) : (BitVec.ofInt 64 m &&& BitVec.ofInt 64 1073741823).toNat ≤ 1073741823 := by
  rw [BitVec.toNat_and]
  exact Nat.and_le_right
/-- the scale -/
def scW (m : Int) : Int := IntKind.i64.wrap (1 + IntKind.i64.wrap ((BitVec.ofInt 64 m &&& BitVec.ofInt 64 1073741823).toNat : Nat))
theorem scW_bd (m : Int) : 1 ≤ scW m ∧ scW m ≤ 1073741824 := by
  have h := and_bd m
  unfold scW
  generalize (BitVec.ofInt 64 m &&& BitVec.ofInt 64 1073741823).toNat = n at h ⊢
  rw [wrap_i (n := (n : Int)) (by omega), wrap_i (n := 1 + (n : Int)) (by omega)]
  omega
theorem tm_bd (m : Int) : (m.tmod 1099511627776).natAbs < 1099511627776 := by
  rw [Int.natAbs_tmod]; exact Nat.mod_lt _ (by decide)
theorem mvW_e {s t x : Int} (hs : 1 ≤ s ∧ s ≤ 1073741824) (ht : t.natAbs < 1099511627776) (hx : 0 ≤ x ∧ x < 1000) : mvW s t x = x * s + t := by
  have h := mul_bd (a := x) (b := s) (m := 1000) (n := 1073741824) (by omega) (by omega)
  unfold mvW
  rw [wrap_i (n := x * s) (by omega), wrap_i (by omega)]
theorem mv_e (m t0 t1 t2 x y z : Int) : (⟨mvW (scW m) (t0.tmod 1099511627776) (x % 1000), mvW (scW m) (t1.tmod 1099511627776) (y % 1000), mvW (scW m) (t2.tmod 1099511627776) (z % 1000)⟩ : V3) = mvZ (scW m) ⟨t0.tmod 1099511627776, t1.tmod 1099511627776, t2.tmod 1099511627776⟩ ⟨x % 1000, y % 1000, z % 1000⟩ := by
  rw [mvW_e (scW_bd m) (tm_bd t0) (by omega), mvW_e (scW_bd m) (tm_bd t1) (by omega), mvW_e (scW_bd m) (tm_bd t2) (by omega)]
  rfl
theorem sgL_mul {x k : Int} {l l' : List Int} (hk : 0 < k) (h : sgL l = sgL l') : sgL (x * k :: l) = sgL (x :: l') := by
  have e := sign_scl hk x
  by_cases g : x.sign = 0
  · rw [sgL_z (by rw [e]; exact g), sgL_z g, h]
  · rw [sgL_n (by rw [e]; exact g), sgL_n g, e]
section
variable {s : Int} (hs : 1 ≤ s ∧ s ≤ 1073741824) {t a b c d a' b' c' d' : V3}
include hs
theorem mo_1 (ha : a' = mvZ s t a) (hb : b' = mvZ s t b) (hc : c' = mvZ s t c) (hd : d' = mvZ s t d) : decide ((detZ a b c d).sign = (detZ a' b' c' d').sign) = true := by
  subst ha hb hc hd; rw [detS_mv (by omega)]; exact decide_eq_true rfl
theorem mo_2 (ha : a' = mvZ s t a) (hb : b' = mvZ s t b) (hc : c' = mvZ s t c) (hd : d' = mvZ s t d) : decide (sgV (detZ a b c d) (normZ a b c) = sgV (detZ a' b' c' d') (normZ a' b' c')) = true := by
  subst ha hb hc hd
  have h0 : 0 < s := by omega
  have h2 := pos2 h0
  rw [det_mv, norm_mv]
  exact decide_eq_true (sgL_mul (pos3 h0) (sgL_mul h2 (sgL_mul h2 (sgL_mul h2 rfl)))).symm
theorem mo_3 (ha : a' = mvZ s t a) (hb : b' = mvZ s t b) (hc : c' = mvZ s t c) : ((normZ a b c).isZ == (normZ a' b' c').isZ) = true := by
  subst ha hb hc
  rw [norm_mv, isZ_scl (pos2 (by omega))]; exact beq_self_eq_true _
theorem mo_4 (ha : a' = mvZ s t a) (hb : b' = mvZ s t b) (hc : c' = mvZ s t c) (hd : d' = mvZ s t d) : (touchV a d a b c == touchV a' d' a' b' c') = true := by
  subst ha hb hc hd; rw [touch_mv (by omega)]; exact beq_self_eq_true _
theorem mo_5 (ha : a' = mvZ s t a) (hb : b' = mvZ s t b) (hc : c' = mvZ s t c) (hd : d' = mvZ s t d) : decide (((normZ a b c).dot (normZ a c d)).sign = ((normZ a' b' c').dot (normZ a' c' d')).sign) = true := by
  subst ha hb hc hd
  have h2 := pos2 (s := s) (by omega)
  rw [norm_mv, norm_mv, dot_scl, sign_scl (Int.mul_pos h2 h2)]; exact decide_eq_true rfl
theorem mo_6 (ha : a' = mvZ s t a) (hb : b' = mvZ s t b) : (lessZ a b == lessZ a' b') = true := by
  subst ha hb; rw [less_mv (by omega)]; exact beq_self_eq_true _
end
def dLawMo : Dn
  | [.agg [.int _ _, .int _ _, .int _ _, .int _ _, .int _ _, .int _ _], .agg [.int _ _, .int _ _, .int _ _, .int _ _, .int _ _, .int _ _], .agg [.int _ _, .int _ _, .int _ _, .int _ _]] =>
    some (none, .c (.val (.bool true)))
  | _ => none
set_option maxHeartbeats 16000000 in
theorem spLawMo : SpOk Tryd.prog 6 dLawMo := sp_of2 (un := 20) (n := 0) ⟨Tryd.func6, by kernel_rfl, by kernel_rfl⟩ baseP_ok noF_ok fun args p v hd => by
  unfold dLawMo at hd
  split at hd
  · rename_i x1 hx1 y1 hy1 z1 hz1 x2 hx2 y2 hy2 z2 hz2 x3 hx3 y3 hy3 z3 hz3 x4 hx4 y4 hy4 z4 hz4 m0 hm0 m1 hm1 m2 hm2 m3 hm3
    cases hd
    refine ⟨[.agg [.int x1 hx1, .int y1 hy1, .int z1 hz1, .int x2 hx2, .int y2 hy2, .int z2 hz2], .agg [.int x3 hx3, .int y3 hy3, .int z3 hz3, .int x4 hx4, .int y4 hy4, .int z4 hz4], .agg [.int m0 hm0, .int m1 hm1, .int m2 hm2, .int m3 hm3]], fun _ => rfl, fun _ _ => rfl, fun _ _ => rfl, fun _ => ?_⟩
    conv => whnf
    refine ⟨by decide, ?_⟩
    conv => whnf
    refine ⟨by decide, ?_⟩
    conv => whnf
    refine ⟨by decide, ?_⟩
    conv => whnf
    refine ⟨by decide, ?_⟩
    conv => whnf
    refine bcase_intro (fun _ => ?_) (fun h => Bool.noConfusion ((mo_1 (scW_bd m3) (mv_e m3 m0 m1 m2 x1 y1 z1) (mv_e m3 m0 m1 m2 x2 y2 z2) (mv_e m3 m0 m1 m2 x3 y3 z3) (mv_e m3 m0 m1 m2 x4 y4 z4)).symm.trans h))
    conv => whnf
    refine bcase_intro (fun _ => ?_) (fun h => Bool.noConfusion ((mo_2 (scW_bd m3) (mv_e m3 m0 m1 m2 x1 y1 z1) (mv_e m3 m0 m1 m2 x2 y2 z2) (mv_e m3 m0 m1 m2 x3 y3 z3) (mv_e m3 m0 m1 m2 x4 y4 z4)).symm.trans h))
    conv => whnf
    refine bcase_intro (fun _ => ?_) (fun h => Bool.noConfusion ((mo_3 (scW_bd m3) (mv_e m3 m0 m1 m2 x1 y1 z1) (mv_e m3 m0 m1 m2 x2 y2 z2) (mv_e m3 m0 m1 m2 x3 y3 z3)).symm.trans h))
    conv => whnf
    refine bcase_intro (fun _ => ?_) (fun h => Bool.noConfusion ((mo_4 (scW_bd m3) (mv_e m3 m0 m1 m2 x1 y1 z1) (mv_e m3 m0 m1 m2 x2 y2 z2) (mv_e m3 m0 m1 m2 x3 y3 z3) (mv_e m3 m0 m1 m2 x4 y4 z4)).symm.trans h))
    conv => whnf
    refine bcase_intro (fun _ => ?_) (fun h => Bool.noConfusion ((mo_5 (scW_bd m3) (mv_e m3 m0 m1 m2 x1 y1 z1) (mv_e m3 m0 m1 m2 x2 y2 z2) (mv_e m3 m0 m1 m2 x3 y3 z3) (mv_e m3 m0 m1 m2 x4 y4 z4)).symm.trans h))
    conv => whnf
    exact fun ρ => sbool_e (mo_6 (scW_bd m3) (mv_e m3 m0 m1 m2 x1 y1 z1) (mv_e m3 m0 m1 m2 x2 y2 z2)) ρ
  · cases hd
end Go.Proofs.YtmooplnklcgfjaaDoor
