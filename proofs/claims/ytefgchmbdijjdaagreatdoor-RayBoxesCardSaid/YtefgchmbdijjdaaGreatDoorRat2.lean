/- Plain laws: fractions as rationals; sums, products, comparisons. -/
import Derived.Test.YtefgchmbdijjdaaGreatDoorRyB
namespace Go.Proofs.YtefgchmbdijjdaaGreatDoor
open Go.RowKit
set_option maxRecDepth 100000

/-- what a fraction is -/
def ratOf (n d : Int) : Rat := ((pN n d : Int) : Rat) / ((pD d : Int) : Rat)
theorem pD_p (y : Int) : 0 < pD y := by unfold pD; split <;> omega
theorem pDr (y : Int) : (0 : Rat) < ((pD y : Int) : Rat) := Rat.intCast_pos.2 (pD_p y)
theorem rat_num_den (q : Rat) : ((q.num : Int) : Rat) / ((q.den : Int) : Rat) = q := by
  rw [← Rat.divInt_eq_div]; exact Rat.num_divInt_den q
theorem ratOf_q (q : Rat) : ratOf q.num (q.den : Int) = q := by
  unfold ratOf; rw [pN_q, pD_q]; exact rat_num_den q
theorem ratOf_frac (n d : Int) : ratOf (fracN n d) (fracD n d) = (n : Rat) / (d : Rat) := by
  by_cases h : d = 0
  · subst h
    have e1 : fracN n 0 = 0 := by unfold fracN; rw [if_pos rfl]
    have e2 : fracD n 0 = 0 := by unfold fracD; rw [if_pos rfl]
    rw [e1, e2]
    have e3 : (n : Rat) / ((0 : Int) : Rat) = 0 := by rw [Rat.div_def]; show (n : Rat) * (0 : Rat)⁻¹ = 0; simp
    rw [e3]
    decide +kernel
  · obtain ⟨h1, h2⟩ := frac_rat (n := n) h
    rw [h1, h2, ratOf_q]
theorem div_e {a b x : Rat} (hb : 0 < b) (h : a = x * b) : a / b = x := by rw [h, Rat.mul_div_cancel (by grind)]
theorem ratOf_mulD (n d : Int) : ((pN n d : Int) : Rat) = ratOf n d * ((pD d : Int) : Rat) := by
  unfold ratOf; rw [Rat.div_mul_cancel (by have := pDr d; grind)]
theorem ratOf_add (n d m e : Int) : ratOf (fracN (pN n d * pD e + pN m e * pD d) (pD d * pD e)) (fracD (pN n d * pD e + pN m e * pD d) (pD d * pD e)) = ratOf n d + ratOf m e := by
  rw [ratOf_frac]
  have h1 := ratOf_mulD n d
  have h2 := ratOf_mulD m e
  refine div_e (by rw [Rat.intCast_mul]; exact Rat.mul_pos (pDr d) (pDr e)) ?_
  rw [Rat.intCast_add, Rat.intCast_mul, Rat.intCast_mul, Rat.intCast_mul, h1, h2]
  grind
theorem ratOf_mul (n d m e : Int) : ratOf (fracN (pN n d * pN m e) (pD d * pD e)) (fracD (pN n d * pN m e) (pD d * pD e)) = ratOf n d * ratOf m e := by
  rw [ratOf_frac]
  have h1 := ratOf_mulD n d
  have h2 := ratOf_mulD m e
  refine div_e (by rw [Rat.intCast_mul]; exact Rat.mul_pos (pDr d) (pDr e)) ?_
  rw [Rat.intCast_mul, Rat.intCast_mul, h1, h2]
  grind
theorem ratOf_one (n : Int) : ratOf n 1 = (n : Rat) := by
  unfold ratOf
  have e1 : pN n 1 = n := by unfold pN; rw [if_pos (by decide)]
  have e2 : pD 1 = 1 := by unfold pD; rw [if_pos (by decide)]
  rw [e1, e2]
  exact div_e (by decide) (by show (n : Rat) = (n : Rat) * 1; rw [Rat.mul_one])
theorem cmpR_lt (n d m e : Int) : decide ((pN n d * pD e - pN m e * pD d).sign < 0) = decide (ratOf n d < ratOf m e) := by
  refine decide_eq_decide.2 ?_
  have h1 := ratOf_mulD n d
  have h2 := ratOf_mulD m e
  have hd := pDr d
  have he := pDr e
  have hde := Rat.mul_pos hd he
  rw [Int.sign_neg_iff, ← Rat.mul_lt_mul_right hde]
  have k : pN n d * pD e - pN m e * pD d < 0 ↔ ((pN n d * pD e : Int) : Rat) < ((pN m e * pD d : Int) : Rat) := by rw [Rat.intCast_lt_intCast]; omega
  rw [k, Rat.intCast_mul, Rat.intCast_mul, h1, h2]
  constructor <;> intro _ <;> grind
theorem cmpR_gt (n d m e : Int) : decide (0 < (pN n d * pD e - pN m e * pD d).sign) = decide (ratOf m e < ratOf n d) := by
  have h := cmpR_lt m e n d
  rw [← h]
  refine decide_eq_decide.2 ?_
  rw [Int.sign_neg_iff, Int.sign_pos_iff]; omega
theorem cmpR_le (n d m e : Int) : decide ((pN n d * pD e - pN m e * pD d).sign ≤ 0) = decide (ratOf n d ≤ ratOf m e) := by
  have h := cmpR_gt n d m e
  have h2 : decide ((pN n d * pD e - pN m e * pD d).sign ≤ 0) = !decide (0 < (pN n d * pD e - pN m e * pD d).sign) := by
    rw [← decide_not]; exact decide_eq_decide.2 (by omega)
  have h3 : decide (ratOf n d ≤ ratOf m e) = !decide (ratOf m e < ratOf n d) := by
    rw [← decide_not]; exact decide_eq_decide.2 (by rw [Rat.not_lt])
  rw [h2, h3, h]
end Go.Proofs.YtefgchmbdijjdaaGreatDoor
