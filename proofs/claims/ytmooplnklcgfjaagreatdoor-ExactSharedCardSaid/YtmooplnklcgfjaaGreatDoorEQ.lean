/- Segments and triangles: the order of the ends and of the corners plays no part; nor do a move and a scale. -/
import Derived.Test.YtmooplnklcgfjaaGreatDoorEP
namespace Go.Proofs.YtmooplnklcgfjaaGreatDoor
open Go.RowKit

theorem V3.ext' {p q : V3} (h1 : p.x = q.x) (h2 : p.y = q.y) (h3 : p.z = q.z) : p = q := by cases p; cases q; simp_all
theorem less_iff {p q : V3} : lessZ p q = true ↔ p.x < q.x ∨ (p.x = q.x ∧ (p.y < q.y ∨ (p.y = q.y ∧ p.z < q.z))) := by
  unfold lessZ
  by_cases h1 : p.x = q.x <;> by_cases h2 : p.y = q.y <;> by_cases h3 : p.z = q.z <;> simp [h1, h2, h3] <;> omega
theorem less_no {p q : V3} : lessZ p q = false ↔ ¬ (p.x < q.x ∨ (p.x = q.x ∧ (p.y < q.y ∨ (p.y = q.y ∧ p.z < q.z)))) := by
  rw [← less_iff]; simp
theorem eqB_iff {p q : V3} : eqB p q = true ↔ p = q := by
  unfold eqB
  simp only [Bool.and_eq_true, decide_eq_true_eq]
  exact ⟨fun h => V3.ext' h.1 h.2.1 h.2.2, fun h => by subst h; exact ⟨rfl, rfl, rfl⟩⟩
theorem min_comm (p q : V3) : minZ p q = minZ q p := by
  unfold minZ
  cases h : lessZ q p <;> cases g : lessZ p q <;> first | rfl | (simp only [less_iff, less_no, cond_true, cond_false] at *; apply V3.ext' <;> omega)
theorem max_comm (p q : V3) : maxZ p q = maxZ q p := by
  unfold maxZ
  cases h : lessZ q p <;> cases g : lessZ p q <;> first | rfl | (simp only [less_iff, less_no, cond_true, cond_false] at *; apply V3.ext' <;> omega)
theorem ax_congr {v w : V3} (h1 : v.x = 0 ↔ w.x = 0) (h2 : v.y = 0 ↔ w.y = 0) (h3 : v.z = 0 ↔ w.z = 0) : axZ v = axZ w := by
  unfold axZ
  simp only [ne_eq, h1, h2, h3]
theorem at_ax {v : V3} (h : axZ v ≠ 3) : v.at (axZ v) ≠ 0 := by
  rcases ax_spec v with ⟨g, -⟩ | ⟨g, hx⟩ | ⟨g, -, hx⟩ | ⟨g, -, -, hx⟩
  · exact absurd g h
  all_goals rw [g]; exact hx
theorem npar_iff {k : Nat} {p q r s : V3} : nparB k p q r s = true ↔ detZ p q r s = 0 ∧ (¬ (0 < o2 (pr k p) (pr k q) (pr k r) ∧ 0 < o2 (pr k p) (pr k q) (pr k s)) ∧ ¬ (o2 (pr k p) (pr k q) (pr k r) < 0 ∧ o2 (pr k p) (pr k q) (pr k s) < 0)) ∧
    (¬ (0 < o2 (pr k r) (pr k s) (pr k p) ∧ 0 < o2 (pr k r) (pr k s) (pr k q)) ∧ ¬ (o2 (pr k r) (pr k s) (pr k p) < 0 ∧ o2 (pr k r) (pr k s) (pr k q) < 0)) := by
  unfold nparB sideB
  simp only [Bool.and_eq_true, decide_eq_true_eq, at_o2, sgp, Int.sign_eq_zero_iff_zero]
theorem cr_neg1 (p q r s : V3) : (crZ q p r s).x = -(crZ p q r s).x ∧ (crZ q p r s).y = -(crZ p q r s).y ∧ (crZ q p r s).z = -(crZ p q r s).z := by
  refine ⟨?_, ?_, ?_⟩ <;> simp only [crZ, V3.cross, V3.sub] <;> grind
theorem cr_neg2 (p q r s : V3) : (crZ p q s r).x = -(crZ p q r s).x ∧ (crZ p q s r).y = -(crZ p q r s).y ∧ (crZ p q s r).z = -(crZ p q r s).z := by
  refine ⟨?_, ?_, ?_⟩ <;> simp only [crZ, V3.cross, V3.sub] <;> grind
theorem ax_swap1 (p q r s : V3) : axZ (crZ q p r s) = axZ (crZ p q r s) := by
  obtain ⟨h1, h2, h3⟩ := cr_neg1 p q r s
  exact ax_congr (by omega) (by omega) (by omega)
theorem ax_swap2 (p q r s : V3) : axZ (crZ p q s r) = axZ (crZ p q r s) := by
  obtain ⟨h1, h2, h3⟩ := cr_neg2 p q r s
  exact ax_congr (by omega) (by omega) (by omega)
theorem det_s1 (p q r s : V3) : detZ q p r s = -detZ p q r s := by simp only [detZ, normZ, V3.dot, V3.cross, V3.sub]; grind
theorem det_s2 (p q r s : V3) : detZ p r q s = -detZ p q r s := by simp only [detZ, normZ, V3.dot, V3.cross, V3.sub]; grind
theorem det_s3 (p q r s : V3) : detZ p q s r = -detZ p q r s := by simp only [detZ, normZ, V3.dot, V3.cross, V3.sub]; grind
theorem cross_swap1 (p q r s : V3) : crossV q p r s = crossV p q r s := by
  unfold crossV
  rw [ax_swap1]
  split
  · unfold parB; rw [min_comm q p, max_comm q p]
  · rw [Bool.eq_iff_iff, npar_iff, npar_iff, det_s1]
    have h1 := o2_rev (pr (axZ (crZ p q r s)) p) (pr (axZ (crZ p q r s)) q) (pr (axZ (crZ p q r s)) r)
    have h2 := o2_rev (pr (axZ (crZ p q r s)) p) (pr (axZ (crZ p q r s)) q) (pr (axZ (crZ p q r s)) s)
    omega
theorem cross_swap2 (p q r s : V3) : crossV p q s r = crossV p q r s := by
  unfold crossV
  rw [ax_swap2]
  split
  · unfold parB; rw [min_comm s r, max_comm s r]
  · rw [Bool.eq_iff_iff, npar_iff, npar_iff, det_s3]
    have h1 := o2_rev (pr (axZ (crZ p q r s)) r) (pr (axZ (crZ p q r s)) s) (pr (axZ (crZ p q r s)) p)
    have h2 := o2_rev (pr (axZ (crZ p q r s)) r) (pr (axZ (crZ p q r s)) s) (pr (axZ (crZ p q r s)) q)
    omega
theorem in_eq (k : Nat) (a b c p : V3) : inB2 k a b c p = in2 (pr k a) (pr k b) (pr k c) (pr k p) := by
  unfold inB2 in2; simp only [at_o2]
/-- a segment in a triangle's plane that leaves it crosses a side -/
theorem plane_in {a b c p q : V3} (hn : axZ (normZ a b c) ≠ 3) (hp : detZ a b c p = 0) (hq : detZ a b c q = 0) (hi : inB2 (axZ (normZ a b c)) a b c p = true) (ho : inB2 (axZ (normZ a b c)) a b c q = false) :
    crossV p q a b = true ∨ crossV p q b c = true ∨ crossV p q c a = true := by
  rw [in_eq] at hi ho
  have hN : o2 (pr (axZ (normZ a b c)) a) (pr (axZ (normZ a b c)) b) (pr (axZ (normZ a b c)) c) ≠ 0 := by
    rw [← at_o2]; exact at_ax hn
  rcases exit2 hN hi ho with h | h | h
  · exact .inl (cross_hit hn hp hq (inPl.a _ _) (inPl.b _ _ _) h)
  · exact .inr (.inl (cross_hit hn hp hq (inPl.b _ _ _) (inPl.c _ _ _) h))
  · exact .inr (.inr (cross_hit hn hp hq (inPl.c _ _ _) (inPl.a _ _) h))
theorem plane_swap {a b c p q : V3} (hn : axZ (normZ a b c) ≠ 3) (hp : detZ a b c p = 0) (hq : detZ a b c q = 0) : planeB q p a b c = planeB p q a b c := by
  unfold planeB
  rw [cross_swap1 p q a b, cross_swap1 p q b c, cross_swap1 p q c a]
  cases hi : inB2 (axZ (normZ a b c)) a b c p <;> cases ho : inB2 (axZ (normZ a b c)) a b c q
  · rfl
  · have := plane_in hn hq hp ho hi
    rw [cross_swap1 p q a b, cross_swap1 p q b c, cross_swap1 p q c a] at this
    rcases this with h | h | h <;> simp [h]
  · have := plane_in hn hp hq hi ho
    rcases this with h | h | h <;> simp [h]
  · rfl
theorem agree_neg (x y z : Int) : agreeB (-x).sign (-y).sign (-z).sign = agreeB x.sign y.sign z.sign := by
  rw [Bool.eq_iff_iff, agree_iff, agree_iff]; omega
theorem touch_swap (p q a b c : V3) : touchV q p a b c = touchV p q a b c := by
  unfold touchV
  split
  · exact cross_swap1 _ _ _ _
  · rename_i hn
    rw [Int.mul_comm, det_s1 p q a b, det_s1 p q b c, det_s1 p q c a, agree_neg]
    split
    · rfl
    · split
      · rename_i h; rw [if_pos h.symm]
      · rename_i h
        rw [if_neg (fun h' => h h'.symm)]
        simp only [not_or, Decidable.not_not, Int.sign_eq_zero_iff_zero, ne_eq] at h
        exact plane_swap hn h.2 h.1
theorem norm_rot (a b c : V3) : normZ b c a = normZ a b c := by apply V3.ext' <;> simp only [normZ, V3.cross, V3.sub] <;> grind
theorem det_rot (a b c p : V3) : detZ b c a p = detZ a b c p := by rw [det_s2, det_s1, Int.neg_neg]
theorem min3_rot (a b c : V3) : minZ (minZ b c) a = minZ (minZ a b) c := by
  unfold minZ
  cases h1 : lessZ b a <;> cases h2 : lessZ c b <;> cases h3 : lessZ c a <;> cases h4 : lessZ a b <;> cases h5 : lessZ a c <;> cases h6 : lessZ b c <;> (try simp only [cond_true, cond_false, *]) <;>
    first | done | (simp only [less_iff, less_no] at *; apply V3.ext' <;> omega)
theorem max3_rot (a b c : V3) : maxZ (maxZ b c) a = maxZ (maxZ a b) c := by
  unfold maxZ
  cases h1 : lessZ b a <;> cases h2 : lessZ c b <;> cases h3 : lessZ c a <;> cases h4 : lessZ a b <;> cases h5 : lessZ a c <;> cases h6 : lessZ b c <;> (try simp only [cond_true, cond_false, *]) <;>
    first | done | (simp only [less_iff, less_no] at *; apply V3.ext' <;> omega)
theorem agree_rot (x y z : Int) : agreeB y z x = agreeB x y z := by
  rw [Bool.eq_iff_iff]; unfold agreeB
  simp only [Bool.or_eq_true, Bool.and_eq_true, decide_eq_true_eq]; omega
theorem agree_sw (x y z : Int) : agreeB x z y = agreeB x y z := by
  rw [Bool.eq_iff_iff]; unfold agreeB
  simp only [Bool.or_eq_true, Bool.and_eq_true, decide_eq_true_eq]; omega
theorem touch_rot (p q a b c : V3) : touchV p q b c a = touchV p q a b c := by
  unfold touchV
  rw [norm_rot, min3_rot, max3_rot, det_rot a b c p, det_rot a b c q, agree_rot]
  have : planeB p q b c a = planeB p q a b c := by
    unfold planeB inB2
    rw [norm_rot, agree_rot]
    generalize crossV p q a b = u
    generalize crossV p q b c = v
    generalize crossV p q c a = w
    cases u <;> cases v <;> cases w <;> rfl
  rw [this]
theorem norm_neg (a b c : V3) : (normZ b a c).x = -(normZ a b c).x ∧ (normZ b a c).y = -(normZ a b c).y ∧ (normZ b a c).z = -(normZ a b c).z := by
  refine ⟨?_, ?_, ?_⟩ <;> simp only [normZ, V3.cross, V3.sub] <;> grind
theorem ax_nneg (a b c : V3) : axZ (normZ b a c) = axZ (normZ a b c) := by
  obtain ⟨h1, h2, h3⟩ := norm_neg a b c
  exact ax_congr (by omega) (by omega) (by omega)
theorem touch_sw (p q a b c : V3) : touchV p q b a c = touchV p q a b c := by
  unfold touchV
  rw [ax_nneg, min_comm b a, max_comm b a, det_s1 a b c p, det_s1 a b c q, Int.sign_neg, Int.sign_neg, Int.neg_mul_neg]
  have h1 : agreeB (detZ p q b a).sign (detZ p q a c).sign (detZ p q c b).sign = agreeB (detZ p q a b).sign (detZ p q b c).sign (detZ p q c a).sign := by
    rw [det_s3 p q a b, det_s3 p q c a, det_s3 p q b c, agree_neg, agree_sw]
  have h2 : planeB p q b a c = planeB p q a b c := by
    unfold planeB inB2
    rw [ax_nneg, cross_swap2 p q a b, cross_swap2 p q c a, cross_swap2 p q b c]
    simp only [at_o2]
    generalize axZ (normZ a b c) = k
    rw [o2_rev (pr k a) (pr k b), o2_rev (pr k c) (pr k a), o2_rev (pr k b) (pr k c), agree_neg, agree_sw]
    generalize crossV p q a b = u
    generalize crossV p q b c = v
    generalize crossV p q c a = w
    cases u <;> cases v <;> cases w <;> rfl
  rw [h1, h2]
  simp only [ne_eq, Int.neg_eq_zero]

/-! ### moved and scaled -/
def mvZ (s : Int) (t v : V3) : V3 := ⟨v.x * s + t.x, v.y * s + t.y, v.z * s + t.z⟩
def V3.scl (v : V3) (s : Int) : V3 := ⟨v.x * s, v.y * s, v.z * s⟩
theorem sub_mv (s : Int) (t p q : V3) : (mvZ s t p).sub (mvZ s t q) = (p.sub q).scl s := by apply V3.ext' <;> simp only [mvZ, V3.sub, V3.scl] <;> grind
theorem cross_scl (d e : V3) (s r : Int) : (d.scl s).cross (e.scl r) = (d.cross e).scl (s * r) := by apply V3.ext' <;> simp only [V3.cross, V3.scl] <;> grind
theorem dot_scl (d e : V3) (s r : Int) : (d.scl s).dot (e.scl r) = d.dot e * (s * r) := by simp only [V3.dot, V3.scl]; grind
theorem at_scl (d : V3) (s : Int) (k : Nat) : (d.scl s).at k = d.at k * s := by
  match k with
  | 0 => rfl
  | 1 => rfl
  | _ + 2 => rfl
theorem sign_scl {s : Int} (hs : 0 < s) (x : Int) : (x * s).sign = x.sign := by rw [Int.sign_mul, Int.sign_eq_one_of_pos hs, Int.mul_one]
theorem zero_scl {s : Int} (hs : 0 < s) (x : Int) : x * s = 0 ↔ x = 0 := by
  constructor
  · intro h; exact zero_of h (by omega)
  · intro h; rw [h, Int.zero_mul]
theorem ax_scl {s : Int} (hs : 0 < s) (v : V3) : axZ (v.scl s) = axZ v := ax_congr (zero_scl hs _) (zero_scl hs _) (zero_scl hs _)
theorem isZ_scl {s : Int} (hs : 0 < s) (v : V3) : (v.scl s).isZ = v.isZ := by
  unfold V3.isZ V3.scl
  simp only [zero_scl hs]
theorem cr_mv (s : Int) (t a b c d : V3) : crZ (mvZ s t a) (mvZ s t b) (mvZ s t c) (mvZ s t d) = (crZ a b c d).scl (s * s) := by unfold crZ; rw [sub_mv, sub_mv, cross_scl]
theorem norm_mv (s : Int) (t a b c : V3) : normZ (mvZ s t a) (mvZ s t b) (mvZ s t c) = (normZ a b c).scl (s * s) := cr_mv s t a b a c
theorem det_mv (s : Int) (t a b c d : V3) : detZ (mvZ s t a) (mvZ s t b) (mvZ s t c) (mvZ s t d) = detZ a b c d * (s * s * s) := by unfold detZ; rw [norm_mv, sub_mv, dot_scl]
section
variable {s : Int} (hs : 0 < s) (t : V3)
include hs
theorem pos2 : 0 < s * s := Int.mul_pos hs hs
theorem pos3 : 0 < s * s * s := Int.mul_pos (pos2 hs) hs
theorem less_mv (p q : V3) : lessZ (mvZ s t p) (mvZ s t q) = lessZ p q := by
  have f : ∀ a b c : Int, (a * s + c < b * s + c ↔ a < b) ∧ (a * s + c = b * s + c ↔ a = b) := fun a b c => by
    have h1 : a * s < b * s ↔ a < b := Int.mul_lt_mul_right hs
    have h2 : b * s < a * s ↔ b < a := Int.mul_lt_mul_right hs
    omega
  rw [Bool.eq_iff_iff, less_iff, less_iff]
  simp only [mvZ, (f _ _ _).1, (f _ _ _).2]
theorem eq_mv (p q : V3) : eqB (mvZ s t p) (mvZ s t q) = eqB p q := by
  have f : ∀ a b c : Int, a * s + c = b * s + c ↔ a = b := fun a b c => by
    have h1 : a * s < b * s ↔ a < b := Int.mul_lt_mul_right hs
    have h2 : b * s < a * s ↔ b < a := Int.mul_lt_mul_right hs
    omega
  unfold eqB
  simp only [mvZ, f]
theorem min_mv (p q : V3) : minZ (mvZ s t p) (mvZ s t q) = mvZ s t (minZ p q) := by
  unfold minZ; rw [less_mv hs]; cases lessZ q p <;> rfl
theorem max_mv (p q : V3) : maxZ (mvZ s t p) (mvZ s t q) = mvZ s t (maxZ p q) := by
  unfold maxZ; rw [less_mv hs]; cases lessZ q p <;> rfl
theorem detS_mv (a b c d : V3) : (detZ (mvZ s t a) (mvZ s t b) (mvZ s t c) (mvZ s t d)).sign = (detZ a b c d).sign := by rw [det_mv, sign_scl (pos3 hs)]
theorem crS_mv (a b c d : V3) (k : Nat) : ((crZ (mvZ s t a) (mvZ s t b) (mvZ s t c) (mvZ s t d)).at k).sign = ((crZ a b c d).at k).sign := by rw [cr_mv, at_scl, sign_scl (pos2 hs)]
theorem cross_mv (p q r w : V3) : crossV (mvZ s t p) (mvZ s t q) (mvZ s t r) (mvZ s t w) = crossV p q r w := by
  unfold crossV
  rw [cr_mv, ax_scl (pos2 hs)]
  have h1 : parB (mvZ s t p) (mvZ s t q) (mvZ s t r) (mvZ s t w) = parB p q r w := by
    unfold parB
    rw [min_mv hs, min_mv hs, max_mv hs, max_mv hs, eq_mv hs, less_mv hs, less_mv hs, norm_mv, norm_mv, isZ_scl (pos2 hs), isZ_scl (pos2 hs)]
  have h2 : nparB (axZ (crZ p q r w)) (mvZ s t p) (mvZ s t q) (mvZ s t r) (mvZ s t w) = nparB (axZ (crZ p q r w)) p q r w := by
    unfold nparB sideB
    rw [detS_mv hs]
    simp only [crS_mv hs]
  rw [h1, h2]
theorem touch_mv (p q a b c : V3) : touchV (mvZ s t p) (mvZ s t q) (mvZ s t a) (mvZ s t b) (mvZ s t c) = touchV p q a b c := by
  unfold touchV
  rw [norm_mv, ax_scl (pos2 hs), min_mv hs, min_mv hs, max_mv hs, max_mv hs, cross_mv hs]
  simp only [detS_mv hs]
  have h : planeB (mvZ s t p) (mvZ s t q) (mvZ s t a) (mvZ s t b) (mvZ s t c) = planeB p q a b c := by
    unfold planeB inB2
    rw [cross_mv hs, cross_mv hs, cross_mv hs, norm_mv, ax_scl (pos2 hs)]
    simp only [crS_mv hs]
  rw [h]
end
end Go.Proofs.YtmooplnklcgfjaaGreatDoor
