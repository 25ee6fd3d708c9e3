/- law 22: RayScaled, by the reckoner. -/
import Derived.Test.YtefgchmbdijjdaaDoorRyc
import Derived.Test.YtefgchmbdijjdaaDoorRyb
namespace Go.Proofs.YtefgchmbdijjdaaDoor
open Go.RowKit
set_option maxRecDepth 100000

noncomputable def baseSc : List (FuncId × Dn) := (7, dNearL) :: (6, dSanity) :: (11, dFrac22) :: baseM1
theorem baseSc_ok : AllOk baseSc := .cons spNearL <| .cons spSanity <| .cons spFrac22 <| baseM1_ok
theorem cross_q (r : RZ) (p q s : V3) : crossN r p q s = (if crossB r p q s = true then (highZ r p q s : Rat) / ((r.w * slopeZ r p q s : Int) : Rat) else 0).num ∧ crossD r p q s = ((if crossB r p q s = true then (highZ r p q s : Rat) / ((r.w * slopeZ r p q s : Int) : Rat) else 0).den : Int) := by
  unfold crossN crossD
  split
  · rename_i h
    have hb := h
    unfold crossB at hb
    rw [Bool.and_eq_true] at hb
    have hw := perm_w hb.1
    exact frac_rat (Int.mul_ne_zero (by omega) (slope_nz h))
  · exact ⟨rfl, rfl⟩
theorem scl_mul {b : Int} (hb : 0 < b) (r : RZ) (p q s : V3) :
    fracN (pN (crossN (sclD b r) p q s) (crossD (sclD b r) p q s) * pN (fracN b 1) (fracD b 1)) (pD (crossD (sclD b r) p q s) * pD (fracD b 1)) = crossN r p q s ∧
    fracD (pN (crossN (sclD b r) p q s) (crossD (sclD b r) p q s) * pN (fracN b 1) (fracD b 1)) (pD (crossD (sclD b r) p q s) * pD (fracD b 1)) = crossD r p q s := by
  have hD : pD (crossD (sclD b r) p q s) * pD (fracD b 1) ≠ 0 := by
    have := Int.mul_pos (pD_p (crossD (sclD b r) p q s)) (pD_p (fracD b 1)); omega
  have e := frac_rat (n := pN (crossN (sclD b r) p q s) (crossD (sclD b r) p q s) * pN (fracN b 1) (fracD b 1)) hD
  have e2 := ratOf_mul (crossN (sclD b r) p q s) (crossD (sclD b r) p q s) (fracN b 1) (fracD b 1)
  rw [ratOf_frac, ratOf_frac] at e2
  rw [e2] at e
  have e3 : (b : Rat) / ((1 : Int) : Rat) = (b : Rat) := div_e (by decide) (by show (b : Rat) = (b : Rat) * 1; rw [Rat.mul_one])
  rw [e3] at e
  have hq := cross_q r p q s
  have e4 : ratOf (crossN (sclD b r) p q s) (crossD (sclD b r) p q s) * (b : Rat) = (if crossB r p q s = true then (highZ r p q s : Rat) / ((r.w * slopeZ r p q s : Int) : Rat) else 0) := by
    rw [(cross_sclD hb r p q s).1, (cross_sclD hb r p q s).2]
    split
    · rename_i h
      have hbb := h
      unfold crossB at hbb
      rw [Bool.and_eq_true] at hbb
      have hw := perm_w hbb.1
      have hc : r.w * slopeZ r p q s ≠ 0 := Int.mul_ne_zero (by omega) (slope_nz h)
      rw [ratOf_frac]
      generalize r.w * slopeZ r p q s = c at hc
      have hb' : (b : Rat) ≠ 0 := fun e => by have := Rat.intCast_pos.2 hb; rw [e] at this; exact Rat.lt_irrefl this
      have hc' : (c : Rat) ≠ 0 := fun e => hc (by
        have h1 : ¬ c < 0 := fun h => by have := Rat.intCast_neg_iff.2 h; rw [e] at this; exact Rat.lt_irrefl this
        have h2 : ¬ 0 < c := fun h => by have := Rat.intCast_pos.2 h; rw [e] at this; exact Rat.lt_irrefl this
        omega)
      rw [Rat.intCast_mul, Rat.div_def, Rat.div_def, Rat.inv_mul_rev, Rat.mul_assoc, Rat.mul_assoc]
      rw [Rat.inv_mul_cancel _ hb', Rat.mul_one]
    · have : ratOf 0 1 = 0 := by rw [ratOf_one]; rfl
      rw [this, Rat.zero_mul]
  rw [e4] at e
  exact ⟨e.1.trans hq.1.symm, e.2.trans hq.2.symm⟩
def sA (n : Int) : Int := IntKind.i64.wrap (1 + IntKind.i64.wrap (n.tmod 50))
theorem sA_b {n : Int} (h : 0 ≤ n ∧ n < 256) : 1 ≤ sA n ∧ sA n ≤ 50 := by
  have e : n.tmod 50 = n % 50 := Int.tmod_eq_emod_of_nonneg h.1
  unfold sA
  rw [e, wrap_id (z := n % 50) (by unfold IR; omega), wrap_id (by unfold IR; omega)]
  omega
theorem wmul {x a : Int} (hx : -100 ≤ x ∧ x ≤ 100) (ha : 1 ≤ a ∧ a ≤ 50) : IntKind.i64.wrap (x * a) = x * a := by
  refine wrap_id ?_
  have h1 : -100 * a ≤ x * a := Int.mul_le_mul_of_nonneg_right hx.1 (by omega)
  have h2 : x * a ≤ 100 * a := Int.mul_le_mul_of_nonneg_right hx.2 (by omega)
  unfold IR; omega
def nearR (rx ry rz rw d0 d1 d2 : Int) : RZ := ⟨nC (nW rw) rx, nC (nW rw) ry, nC (nW rw) rz, nW rw, ⟨nD d0, nD d1, nD d2⟩⟩
theorem nC_s (w n : Int) : -100 ≤ nC (nW w) n ∧ nC (nW w) n ≤ 100 := by have h := nW_b w; have := nC_b h n; omega
theorem nW_s (w : Int) : -100 ≤ nW w ∧ nW w ≤ 100 := by have h := nW_b w; omega
theorem nD_s (n : Int) : -100 ≤ nD n ∧ nD n ≤ 100 := by have h := nD_b n; omega
theorem scl_r {a : Int} (ha : 1 ≤ a ∧ a ≤ 50) (rx ry rz rw d0 d1 d2 : Int) : (⟨IntKind.i64.wrap (nC (nW rw) rx * a), IntKind.i64.wrap (nC (nW rw) ry * a), IntKind.i64.wrap (nC (nW rw) rz * a), IntKind.i64.wrap (nW rw * a), ⟨nD d0, nD d1, nD d2⟩⟩ : RZ) = sclR a (nearR rx ry rz rw d0 d1 d2) := by
  rw [wmul (nC_s rw rx) ha, wmul (nC_s rw ry) ha, wmul (nC_s rw rz) ha, wmul (nW_s rw) ha]; rfl
theorem scl_d {a : Int} (ha : 1 ≤ a ∧ a ≤ 50) (rx ry rz rw d0 d1 d2 : Int) : (⟨nC (nW rw) rx, nC (nW rw) ry, nC (nW rw) rz, nW rw, ⟨IntKind.i64.wrap (nD d0 * a), IntKind.i64.wrap (nD d1 * a), IntKind.i64.wrap (nD d2 * a)⟩⟩ : RZ) = sclD a (nearR rx ry rz rw d0 d1 d2) := by
  rw [wmul (nD_s d0) ha, wmul (nD_s d1) ha, wmul (nD_s d2) ha]; rfl
theorem eq_yes {a b c d : Int} (h1 : a = c) (h2 : b = d) : (decide (a = c) && decide (b = d)) = true := by subst h1 h2; simp
theorem eqb_yes {a b : Bool} (h : a = b) : (a == b) = true := by subst h; simp
def dLawSc : Dn
  | [.agg [.int _ _, .int _ _, .int _ _, .int _ _, .int _ _, .int _ _, .int _ _], .agg [.int _ _, .int _ _, .int _ _, .int _ _, .int _ _, .int _ _, .int _ _, .int _ _, .int _ _], .agg [.val (.int .u8 n0), .val (.int .u8 n1)]] => some (some ((0 ≤ n0 ∧ n0 < 256) ∧ 0 ≤ n1 ∧ n1 < 256), .c (.val (.bool true)))
  | _ => none
set_option maxHeartbeats 16000000 in
theorem spLawSc : SpOk Tryd.prog 3 dLawSc := sp_of2 (un := 20) (n := 0) ⟨Tryd.func3, by kernel_rfl, by kernel_rfl⟩ baseSc_ok noF_ok fun args p v hd => by
  unfold dLawSc at hd
  split at hd
  · rename_i rx hrx ry hry rz hrz rw hrw d0 hd0 d1 hd1 d2 hd2 x1 hx1 y1 hy1 z1 hz1 x2 hx2 y2 hy2 z2 hz2 x3 hx3 y3 hy3 z3 hz3 n0 n1
    cases hd
    refine ⟨[.agg [.int rx hrx, .int ry hry, .int rz hrz, .int rw hrw, .int d0 hd0, .int d1 hd1, .int d2 hd2], .agg [.int x1 hx1, .int y1 hy1, .int z1 hz1, .int x2 hx2, .int y2 hy2, .int z2 hz2, .int x3 hx3, .int y3 hy3, .int z3 hz3], .agg [.val (.int .u8 n0), .val (.int .u8 n1)]], fun _ => rfl, fun _ _ => rfl, fun _ _ => rfl, fun hpre => ?_⟩
    obtain ⟨hn0, hn1⟩ := hpre _ rfl
    have hA := sA_b hn0
    have hB := sA_b hn1
    conv => whnf
    refine ⟨⟨by decide, by decide⟩, ?_⟩
    conv => whnf
    refine ⟨⟨by decide, by decide⟩, ?_⟩
    conv => whnf
    refine ⟨⟨by decide, by decide⟩, ?_⟩
    conv => whnf
    refine ⟨⟨by decide, by decide⟩, ?_⟩
    conv => whnf
    refine ⟨⟨by decide, by decide⟩, ?_⟩
    conv => whnf
    refine ⟨⟨by decide, by decide⟩, ?_⟩
    conv => whnf
    refine ⟨⟨by decide, by decide⟩, ?_⟩
    conv => whnf
    refine ⟨⟨by decide, by decide⟩, ?_⟩
    conv => whnf
    refine ⟨⟨by decide, by decide⟩, ?_⟩
    conv => whnf
    refine bcase_intro (fun _ => ?_) (fun h1 => absurd (h1.symm.trans (eq_yes ((congrArg (fun r => crossN r (⟨x1 % 6, y1 % 6, z1 % 6⟩ : V3) (⟨x2 % 6, y2 % 6, z2 % 6⟩ : V3) (⟨x3 % 6, y3 % 6, z3 % 6⟩ : V3)) (scl_r hA rx ry rz rw d0 d1 d2)).trans (cross_sclR (by omega) (nearR rx ry rz rw d0 d1 d2) (⟨x1 % 6, y1 % 6, z1 % 6⟩ : V3) (⟨x2 % 6, y2 % 6, z2 % 6⟩ : V3) (⟨x3 % 6, y3 % 6, z3 % 6⟩ : V3)).1).symm ((congrArg (fun r => crossD r (⟨x1 % 6, y1 % 6, z1 % 6⟩ : V3) (⟨x2 % 6, y2 % 6, z2 % 6⟩ : V3) (⟨x3 % 6, y3 % 6, z3 % 6⟩ : V3)) (scl_r hA rx ry rz rw d0 d1 d2)).trans (cross_sclR (by omega) (nearR rx ry rz rw d0 d1 d2) (⟨x1 % 6, y1 % 6, z1 % 6⟩ : V3) (⟨x2 % 6, y2 % 6, z2 % 6⟩ : V3) (⟨x3 % 6, y3 % 6, z3 % 6⟩ : V3)).2).symm)) (by decide))
    conv => whnf
    refine bcase_intro (fun _ => ?_) (fun h2 => absurd (h2.symm.trans (eqb_yes ((congrArg (fun r => crossB r (⟨x1 % 6, y1 % 6, z1 % 6⟩ : V3) (⟨x2 % 6, y2 % 6, z2 % 6⟩ : V3) (⟨x3 % 6, y3 % 6, z3 % 6⟩ : V3)) (scl_r hA rx ry rz rw d0 d1 d2)).trans (crossB_sclR (by omega) (nearR rx ry rz rw d0 d1 d2) (⟨x1 % 6, y1 % 6, z1 % 6⟩ : V3) (⟨x2 % 6, y2 % 6, z2 % 6⟩ : V3) (⟨x3 % 6, y3 % 6, z3 % 6⟩ : V3))).symm)) (by decide))
    conv => whnf
    refine bcase_intro (fun _ => ?_) (fun h3 => absurd (h3.symm.trans (eqb_yes ((congrArg (fun r => crossB r (⟨x1 % 6, y1 % 6, z1 % 6⟩ : V3) (⟨x2 % 6, y2 % 6, z2 % 6⟩ : V3) (⟨x3 % 6, y3 % 6, z3 % 6⟩ : V3)) (scl_d hB rx ry rz rw d0 d1 d2)).trans (crossB_sclD (by omega) (nearR rx ry rz rw d0 d1 d2) (⟨x1 % 6, y1 % 6, z1 % 6⟩ : V3) (⟨x2 % 6, y2 % 6, z2 % 6⟩ : V3) (⟨x3 % 6, y3 % 6, z3 % 6⟩ : V3))).symm)) (by decide))
    conv => whnf
    exact fun ρ => sbool_e (eq_yes ((congrArg (fun r => fracN (pN (crossN r (⟨x1 % 6, y1 % 6, z1 % 6⟩ : V3) (⟨x2 % 6, y2 % 6, z2 % 6⟩ : V3) (⟨x3 % 6, y3 % 6, z3 % 6⟩ : V3)) (crossD r (⟨x1 % 6, y1 % 6, z1 % 6⟩ : V3) (⟨x2 % 6, y2 % 6, z2 % 6⟩ : V3) (⟨x3 % 6, y3 % 6, z3 % 6⟩ : V3)) * pN (fracN (sA n1) 1) (fracD (sA n1) 1)) (pD (crossD r (⟨x1 % 6, y1 % 6, z1 % 6⟩ : V3) (⟨x2 % 6, y2 % 6, z2 % 6⟩ : V3) (⟨x3 % 6, y3 % 6, z3 % 6⟩ : V3)) * pD (fracD (sA n1) 1))) (scl_d hB rx ry rz rw d0 d1 d2)).trans (scl_mul (by omega) (nearR rx ry rz rw d0 d1 d2) (⟨x1 % 6, y1 % 6, z1 % 6⟩ : V3) (⟨x2 % 6, y2 % 6, z2 % 6⟩ : V3) (⟨x3 % 6, y3 % 6, z3 % 6⟩ : V3)).1) ((congrArg (fun r => fracD (pN (crossN r (⟨x1 % 6, y1 % 6, z1 % 6⟩ : V3) (⟨x2 % 6, y2 % 6, z2 % 6⟩ : V3) (⟨x3 % 6, y3 % 6, z3 % 6⟩ : V3)) (crossD r (⟨x1 % 6, y1 % 6, z1 % 6⟩ : V3) (⟨x2 % 6, y2 % 6, z2 % 6⟩ : V3) (⟨x3 % 6, y3 % 6, z3 % 6⟩ : V3)) * pN (fracN (sA n1) 1) (fracD (sA n1) 1)) (pD (crossD r (⟨x1 % 6, y1 % 6, z1 % 6⟩ : V3) (⟨x2 % 6, y2 % 6, z2 % 6⟩ : V3) (⟨x3 % 6, y3 % 6, z3 % 6⟩ : V3)) * pD (fracD (sA n1) 1))) (scl_d hB rx ry rz rw d0 d1 d2)).trans (scl_mul (by omega) (nearR rx ry rz rw d0 d1 d2) (⟨x1 % 6, y1 % 6, z1 % 6⟩ : V3) (⟨x2 % 6, y2 % 6, z2 % 6⟩ : V3) (⟨x3 % 6, y3 % 6, z3 % 6⟩ : V3)).2)) ρ
  · cases hd
end Go.Proofs.YtefgchmbdijjdaaDoor
