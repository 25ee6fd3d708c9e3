/- Plain law of RayHits: a crossing lies in each box that holds the triangle. -/
import Derived.Test.YtefgchmbdijjdaaGreatDoorTurn
import Derived.Test.YtefgchmbdijjdaaGreatDoorRyd
import Derived.Test.YtefgchmbdijjdaaGreatDoorRyb
namespace Go.Proofs.YtefgchmbdijjdaaGreatDoor
open Go.RowKit
set_option maxRecDepth 100000

theorem box_all {r : RZ} (h : permZ r = true) (lo hi : V3) {t : Rat} (ht : 0 ≤ t) (hin : inBx r lo hi t = true) : ∃ i u, boxR r lo hi = some (i, u) ∧ i ≤ t ∧ t ≤ u := by
 unfold boxR
 rw [if_pos h]
 unfold permZ at h
 rw [Bool.and_eq_true, decide_eq_true_eq, Bool.not_eq_true'] at h
 obtain ⟨hw, hz⟩ := h
 rw [inBx_iff hw] at hin
 unfold boxS
 cases h1 : bst r.w r.d.x (r.at lo).x (r.at hi).x (0, none) with
 | none => exact absurd hin.1 (bst_none h1 t)
 | some s1 =>
  rw [Option.bind_some]
  cases h2 : bst r.w r.d.y (r.at lo).y (r.at hi).y s1 with
  | none => exact absurd hin.2.1 (bst_none h2 t)
  | some s2 =>
   rw [Option.bind_some]
   cases h3 : bst r.w r.d.z (r.at lo).z (r.at hi).z s2 with
   | none => exact absurd hin.2.2 (bst_none h3 t)
   | some s3 =>
    have g := good_step (good_step (good_step good0 hw h1) hw h2) hw h3
    have o1 := bst_out h1
    have o2 := bst_out h2
    have o3 := bst_out h3
    obtain ⟨i, o⟩ := s3
    cases o with
    | none =>
     exfalso
     have h4 := o3.1 rfl
     have h5 := o2.1 h4.1
     have h6 := o1.1 h5.1
     unfold V3.isZ at hz
     rw [h6.2, h5.2, h4.2] at hz
     simp at hz
    | some u =>
     have g4 := g.char
     simp only [Option.some.injEq, forall_eq', true_and] at g4
     have hh := (g4 t ht).1 ⟨⟨hin.1, hin.2.1⟩, hin.2.2⟩
     show ∃ i' u', (if u < i then none else some (i, u)) = some (i', u') ∧ i' ≤ t ∧ t ≤ u'
     have hlt : ¬ u < i := by grind
     rw [if_neg hlt]
     exact ⟨i, u, rfl, hh.1, hh.2⟩
theorem sgV_pos {n : Int} {v : V3} (h : sgV n v = 1) : 0 ≤ n := by
 rcases Int.lt_or_le n 0 with h1 | h1
 ·unfold sgV at h
  rw [sgL_c, Int.sign_eq_neg_one_of_neg h1] at h
  simp at h
 ·exact h1
theorem sgV_np {n : Int} {v : V3} (h : sgV n v = -1) : n ≤ 0 := by
 rcases Int.lt_or_le 0 n with h1 | h1
 ·unfold sgV at h
  rw [sgL_c, Int.sign_eq_one_of_pos h1] at h
  simp at h
 ·exact h1
theorem sgL_three : ∀ l : List Int, sgL l = 0 ∨ sgL l = 1 ∨ sgL l = -1
 | [] => .inl rfl
 | x :: l => by
  rw [sgL_c]
  split
  ·exact sgL_three l
  ·rcases Int.lt_trichotomy x 0 with h | h | h
   ·exact .inr (.inr (Int.sign_eq_neg_one_of_neg h))
   ·subst h; exact .inl rfl
   ·exact .inr (.inl (Int.sign_eq_one_of_pos h))
def wtZ (d A B : V3) : Int := d.dot (A.cross B)
theorem wt_x (d A B C : V3) : wtZ d B C * A.x + wtZ d C A * B.x + wtZ d A B * C.x = A.dot (B.cross C) * d.x := by
 unfold wtZ V3.dot V3.cross; grind
theorem wt_y (d A B C : V3) : wtZ d B C * A.y + wtZ d C A * B.y + wtZ d A B * C.y = A.dot (B.cross C) * d.y := by
 unfold wtZ V3.dot V3.cross; grind
theorem wt_z (d A B C : V3) : wtZ d B C * A.z + wtZ d C A * B.z + wtZ d A B * C.z = A.dot (B.cross C) * d.z := by
 unfold wtZ V3.dot V3.cross; grind
theorem det_high (r : RZ) (p q s : V3) : (r.at p).dot ((r.at q).cross (r.at s)) = r.w * r.w * highZ r p q s := by
 unfold highZ normZ RZ.at V3.dot V3.cross V3.sub; grind
theorem wt_sum (r : RZ) (p q s : V3) : wtZ r.d (r.at q) (r.at s) + wtZ r.d (r.at s) (r.at p) + wtZ r.d (r.at p) (r.at q) = r.w * r.w * slopeZ r p q s := by
 unfold wtZ slopeZ normZ RZ.at V3.dot V3.cross V3.sub; grind
theorem wt_sides {d A B C : V3} (h : passZ d A B C = true) : (0 ≤ wtZ d B C ∧ 0 ≤ wtZ d C A ∧ 0 ≤ wtZ d A B) ∨ (wtZ d B C ≤ 0 ∧ wtZ d C A ≤ 0 ∧ wtZ d A B ≤ 0) := by
 obtain ⟨h1, h2, h3⟩ := (pass_iff d A B C).1 h
 rcases sgL_three [d.dot (A.cross B), (d.cross (B.sub A)).x, (d.cross (B.sub A)).y, (d.cross (B.sub A)).z] with h4 | h4 | h4
 ·exact absurd h4 h1
 ·have h4 : sideZ d A B = 1 := h4
  exact .inl ⟨sgV_pos (h2.trans h4), sgV_pos (h3.trans h4), sgV_pos h4⟩
 ·have h4 : sideZ d A B = -1 := h4
  exact .inr ⟨sgV_np (h2.trans h4), sgV_np (h3.trans h4), sgV_np h4⟩
theorem conv_le {a b c x y z S H L : Int} {w T : Int} (hw : 0 < w) (hs : (0 ≤ a ∧ 0 ≤ b ∧ 0 ≤ c) ∨ (a ≤ 0 ∧ b ≤ 0 ∧ c ≤ 0)) (hS : a + b + c = w * w * S) (hH : a * x + b * y + c * z = w * w * T * H) (h1 : L ≤ x) (h2 : L ≤ y) (h3 : L ≤ z) (hn : S ≠ 0) :
  (0 < S ∧ S * L ≤ T * H) ∨ (S < 0 ∧ T * H ≤ S * L) := by
 have hww : 0 < w * w := Int.mul_pos hw hw
 have e : w * w * T * H = w * w * (T * H) := Int.mul_assoc _ _ _
 rw [e] at hH
 have e2 : (a + b + c) * L = w * w * (S * L) := by rw [hS]; exact Int.mul_assoc _ _ _
 rcases hs with ⟨ha, hb, hc⟩ | ⟨ha, hb, hc⟩
 ·have k1 := Int.mul_le_mul_of_nonneg_left h1 ha
  have k2 := Int.mul_le_mul_of_nonneg_left h2 hb
  have k3 := Int.mul_le_mul_of_nonneg_left h3 hc
  have k : w * w * (S * L) ≤ w * w * (T * H) := by rw [← e2, ← hH, Int.add_mul, Int.add_mul]; omega
  have hS0 : 0 < S := by
   rcases Int.lt_trichotomy S 0 with h | h | h
   ·have := Int.mul_neg_of_pos_of_neg hww h; omega
   ·exact absurd h hn
   ·exact h
  exact .inl ⟨hS0, Int.le_of_mul_le_mul_left k hww⟩
 ·have k1 := Int.mul_le_mul_of_nonpos_left ha h1
  have k2 := Int.mul_le_mul_of_nonpos_left hb h2
  have k3 := Int.mul_le_mul_of_nonpos_left hc h3
  have k : w * w * (T * H) ≤ w * w * (S * L) := by rw [← e2, ← hH, Int.add_mul, Int.add_mul]; omega
  have hS0 : S < 0 := by
   rcases Int.lt_trichotomy S 0 with h | h | h
   ·exact h
   ·exact absurd h hn
   ·have := Int.mul_pos hww h; omega
  exact .inr ⟨hS0, Int.le_of_mul_le_mul_left k hww⟩
theorem conv_rat {w d S T L : Int} (hw : 0 < w) (h : (0 < S ∧ S * L ≤ T * d) ∨ (S < 0 ∧ T * d ≤ S * L)) : (L : Rat) ≤ (T : Rat) / ((w * S : Int) : Rat) * ((w * d : Int) : Rat) := by
 have hw' : (0 : Rat) < (w : Rat) := Rat.intCast_pos.2 hw
 have hS : (S : Rat) ≠ 0 := by
  have : S ≠ 0 := by omega
  exact fun e => this (Rat.intCast_eq_zero_iff.1 e)
 have e : (T : Rat) / ((w * S : Int) : Rat) * ((w * d : Int) : Rat) = ((T * d : Int) : Rat) / (S : Rat) := by
  rw [Rat.intCast_mul, Rat.intCast_mul, Rat.intCast_mul]
  grind
 rw [e]
 rcases h with ⟨h1, h2⟩ | ⟨h1, h2⟩
 ·refine (mulp_le (Rat.intCast_pos.2 h1)).1 ?_
  rw [← Rat.intCast_mul]
  exact Rat.intCast_le_intCast.2 (by rw [Int.mul_comm L]; exact h2)
 ·refine (le_muln (Rat.intCast_neg_iff.2 h1)).1 ?_
  rw [← Rat.intCast_mul]
  exact Rat.intCast_le_intCast.2 (by rw [Int.mul_comm L]; exact h2)
theorem conv_rat2 {w d S T L : Int} (hw : 0 < w) (h : (0 < S ∧ T * d ≤ S * L) ∨ (S < 0 ∧ S * L ≤ T * d)) : (T : Rat) / ((w * S : Int) : Rat) * ((w * d : Int) : Rat) ≤ (L : Rat) := by
 have hw' : (0 : Rat) < (w : Rat) := Rat.intCast_pos.2 hw
 have hS : (S : Rat) ≠ 0 := by
  have : S ≠ 0 := by omega
  exact fun e => this (Rat.intCast_eq_zero_iff.1 e)
 have e : (T : Rat) / ((w * S : Int) : Rat) * ((w * d : Int) : Rat) = ((T * d : Int) : Rat) / (S : Rat) := by
  rw [Rat.intCast_mul, Rat.intCast_mul, Rat.intCast_mul]
  grind
 rw [e]
 rcases h with ⟨h1, h2⟩ | ⟨h1, h2⟩
 ·refine (le_mulp (Rat.intCast_pos.2 h1)).1 ?_
  rw [← Rat.intCast_mul]
  exact Rat.intCast_le_intCast.2 (by rw [Int.mul_comm L]; exact h2)
 ·refine (muln_le (Rat.intCast_neg_iff.2 h1)).1 ?_
  rw [← Rat.intCast_mul]
  exact Rat.intCast_le_intCast.2 (by rw [Int.mul_comm L]; exact h2)
theorem conv_ge {a b c x y z S H L : Int} {w T : Int} (hw : 0 < w) (hs : (0 ≤ a ∧ 0 ≤ b ∧ 0 ≤ c) ∨ (a ≤ 0 ∧ b ≤ 0 ∧ c ≤ 0)) (hS : a + b + c = w * w * S) (hH : a * x + b * y + c * z = w * w * T * H) (h1 : x ≤ L) (h2 : y ≤ L) (h3 : z ≤ L) (hn : S ≠ 0) :
  (0 < S ∧ T * H ≤ S * L) ∨ (S < 0 ∧ S * L ≤ T * H) := by
 have := conv_le (a := a) (b := b) (c := c) (x := -x) (y := -y) (z := -z) (S := S) (H := -H) (L := -L) (w := w) (T := T) hw hs hS (by rw [Int.mul_neg, Int.mul_neg, Int.mul_neg, Int.mul_neg, ← hH]; omega) (by omega) (by omega) (by omega) hn
 rw [Int.mul_neg, Int.mul_neg] at this
 omega
structure InB (lo hi p : V3) : Prop where
 x1 : lo.x ≤ p.x
 x2 : p.x ≤ hi.x
 y1 : lo.y ≤ p.y
 y2 : p.y ≤ hi.y
 z1 : lo.z ≤ p.z
 z2 : p.z ≤ hi.z
theorem at_mono {w s a b : Int} (hw : 0 < w) (h : a ≤ b) : a * w - s ≤ b * w - s := by
 have := Int.mul_le_mul_of_nonneg_right h (Int.le_of_lt hw)
 omega
theorem cross_in {r : RZ} {p q s lo hi : V3} (h : crossB r p q s = true) (hp : InB lo hi p) (hq : InB lo hi q) (hs : InB lo hi s) : inBx r lo hi ((highZ r p q s : Rat) / ((r.w * slopeZ r p q s : Int) : Rat)) = true := by
 have hn := slope_nz h
 unfold crossB at h
 rw [Bool.and_eq_true, Bool.and_eq_true, Bool.and_eq_true] at h
 obtain ⟨h1, -, hpass, -⟩ := h
 have hw := perm_w h1
 have hsd := wt_sides hpass
 have hsum := wt_sum r p q s
 have hx := wt_x r.d (r.at p) (r.at q) (r.at s)
 have hy := wt_y r.d (r.at p) (r.at q) (r.at s)
 have hz := wt_z r.d (r.at p) (r.at q) (r.at s)
 rw [det_high] at hx hy hz
 rw [inBx_iff hw]
 refine ⟨⟨?_, ?_⟩, ⟨?_, ?_⟩, ⟨?_, ?_⟩⟩
 ·exact conv_rat hw (conv_le hw hsd hsum hx (at_mono hw hp.x1) (at_mono hw hq.x1) (at_mono hw hs.x1) hn)
 ·exact conv_rat2 hw (conv_ge hw hsd hsum hx (at_mono hw hp.x2) (at_mono hw hq.x2) (at_mono hw hs.x2) hn)
 ·exact conv_rat hw (conv_le hw hsd hsum hy (at_mono hw hp.y1) (at_mono hw hq.y1) (at_mono hw hs.y1) hn)
 ·exact conv_rat2 hw (conv_ge hw hsd hsum hy (at_mono hw hp.y2) (at_mono hw hq.y2) (at_mono hw hs.y2) hn)
 ·exact conv_rat hw (conv_le hw hsd hsum hz (at_mono hw hp.z1) (at_mono hw hq.z1) (at_mono hw hs.z1) hn)
 ·exact conv_rat2 hw (conv_ge hw hsd hsum hz (at_mono hw hp.z2) (at_mono hw hq.z2) (at_mono hw hs.z2) hn)
end Go.Proofs.YtefgchmbdijjdaaGreatDoor
