/- Plain laws of rays: corners in another order, multiples. -/
import Derived.Test.YtefgchmbdijjdaaGreatDoorRyb
namespace Go.Proofs.YtefgchmbdijjdaaGreatDoor
open Go.RowKit
set_option maxRecDepth 100000

theorem V3.ext' {a b : V3} (h1 : a.x = b.x) (h2 : a.y = b.y) (h3 : a.z = b.z) : a = b := by cases a; cases b; simp_all
theorem norm_rot (p q s : V3) : normZ q s p = normZ p q s := by
 apply V3.ext' <;> simp only [normZ, V3.sub, V3.cross] <;> grind
theorem norm_rev (p q s : V3) : normZ q p s = (normZ p q s).neg := by
 apply V3.ext' <;> simp only [normZ, V3.sub, V3.cross, V3.neg] <;> grind
theorem neg_neg3 (v : V3) : v.neg.neg = v := by
 apply V3.ext' <;> simp only [V3.neg] <;> omega
theorem isZ_neg (v : V3) : v.neg.isZ = v.isZ := by
 have e : ∀ x : Int, decide (0 - x = 0) = decide (x = 0) := fun x => decide_eq_decide.2 (by omega)
 show (decide (0 - v.x = 0) && (decide (0 - v.y = 0) && decide (0 - v.z = 0))) = _
 rw [e, e, e]; rfl
theorem high_rot (r : RZ) (p q s : V3) : highZ r q s p = highZ r p q s := by
 unfold highZ; rw [norm_rot]
 simp only [normZ, V3.sub, V3.cross, V3.dot, RZ.at]; grind
theorem high_rev (r : RZ) (p q s : V3) : highZ r q p s = -highZ r p q s := by
 unfold highZ; rw [norm_rev]
 simp only [normZ, V3.sub, V3.cross, V3.dot, V3.neg, RZ.at]; grind
theorem slope_rot (r : RZ) (p q s : V3) : slopeZ r q s p = slopeZ r p q s := by unfold slopeZ; rw [norm_rot]
theorem slope_rev (r : RZ) (p q s : V3) : slopeZ r q p s = -slopeZ r p q s := by
 unfold slopeZ; rw [norm_rev]; simp only [V3.dot, V3.neg]; grind
theorem sgL_c (x : Int) (l : List Int) : sgL (x :: l) = if x.sign = 0 then sgL l else x.sign := rfl
theorem sgL_neg : ∀ l : List Int, sgL (l.map fun x => -x) = -sgL l
 | [] => rfl
 | x :: l => by
  rw [List.map_cons, sgL_c, sgL_c, Int.sign_neg, sgL_neg l]
  by_cases h : x.sign = 0
  ·rw [if_pos h, if_pos (by omega)]
  ·rw [if_neg h, if_neg (by omega)]
theorem sgV_neg {n m : Int} {v u : V3} (h0 : m = -n) (h1 : u.x = -v.x) (h2 : u.y = -v.y) (h3 : u.z = -v.z) : sgV m u = -sgV n v := by
 have := sgL_neg [n, v.x, v.y, v.z]
 unfold sgV
 rw [h0, h1, h2, h3]
 exact this
theorem side_rev (d a b : V3) : sideZ d b a = -sideZ d a b := by
 unfold sideZ
 apply sgV_neg <;> simp only [V3.dot, V3.cross, V3.sub] <;> grind
theorem pass_iff (d a b c : V3) : passZ d a b c = true ↔ sideZ d a b ≠ 0 ∧ sideZ d b c = sideZ d a b ∧ sideZ d c a = sideZ d a b := by
 unfold passZ; simp only [Bool.and_eq_true, decide_eq_true_eq]
theorem pass_rot (d a b c : V3) : passZ d b c a = passZ d a b c := by
 rw [Bool.eq_iff_iff, pass_iff, pass_iff]
 constructor
 ·rintro ⟨h1, h2, h3⟩; exact ⟨fun e => h1 (by omega), by omega, by omega⟩
 ·rintro ⟨h1, h2, h3⟩; exact ⟨fun e => h1 (by omega), by omega, by omega⟩
theorem pass_rev (d a b c : V3) : passZ d b a c = passZ d a b c := by
 rw [Bool.eq_iff_iff, pass_iff, pass_iff, side_rev d a b, side_rev d c a, side_rev d b c]
 constructor
 ·rintro ⟨h1, h2, h3⟩; exact ⟨fun e => h1 (by omega), by omega, by omega⟩
 ·rintro ⟨h1, h2, h3⟩; exact ⟨fun e => h1 (by omega), by omega, by omega⟩
theorem crossB_rot (r : RZ) (p q s : V3) : crossB r q s p = crossB r p q s := by
 unfold crossB; rw [norm_rot, pass_rot, high_rot, slope_rot]
theorem crossB_rev (r : RZ) (p q s : V3) : crossB r q p s = crossB r p q s := by
 unfold crossB; rw [norm_rev, isZ_neg, pass_rev]
 have e : decide (sgV (highZ r q p s) (normZ p q s).neg.neg = (slopeZ r q p s).sign) = decide (sgV (highZ r p q s) (normZ p q s).neg = (slopeZ r p q s).sign) := by
  have h1 : sgV (highZ r q p s) (normZ p q s).neg.neg = -sgV (highZ r p q s) (normZ p q s).neg := by
   apply sgV_neg (high_rev r p q s) <;> simp only [V3.neg] <;> omega
  rw [h1, slope_rev, Int.sign_neg]
  exact decide_eq_decide.2 (by omega)
 rw [e]
theorem cross_noperm {r : RZ} (p q s : V3) (h : permZ r = false) : crossB r p q s = false := by unfold crossB; rw [h]; rfl
theorem perm_w0 {r : RZ} (h : r.w ≤ 0) : permZ r = false := by unfold permZ; rw [decide_eq_false (by omega)]; rfl
/-! scaling -/
theorem sgV_scale {n m : Int} {v u : V3} (h0 : n.sign = m.sign) (h1 : v.x.sign = u.x.sign) (h2 : v.y.sign = u.y.sign) (h3 : v.z.sign = u.z.sign) : sgV n v = sgV m u := by
 unfold sgV; rw [sgL_c, sgL_c, sgL_c, sgL_c, sgL_c, sgL_c, sgL_c, sgL_c, h0, h1, h2, h3]
theorem sign_mp {a x : Int} (ha : 0 < a) : (a * x).sign = x.sign := by rw [Int.sign_mul, Int.sign_eq_one_of_pos ha, Int.one_mul]
theorem sign_of {x y a : Int} (ha : 0 < a) (h : x = a * y) : x.sign = y.sign := by rw [h, sign_mp ha]
section
variable {a : Int} (ha : 0 < a)
include ha
end
end Go.Proofs.YtefgchmbdijjdaaGreatDoor
