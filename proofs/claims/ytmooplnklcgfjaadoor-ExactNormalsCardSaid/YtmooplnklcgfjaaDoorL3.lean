/- law 02: normals. -/
import Derived.Test.YtmooplnklcgfjaaDoorL0
namespace Go.Proofs.YtmooplnklcgfjaaDoor
open Go.RowKit
set_option maxRecDepth 100000

theorem no_o1 (x1 y1 z1 x2 y2 z2 x3 y3 z3 : Int) : (normZ ⟨x1, y1, z1⟩ ⟨x2, y2, z2⟩ ⟨x3, y3, z3⟩).x * (x2 - x1) + (normZ ⟨x1, y1, z1⟩ ⟨x2, y2, z2⟩ ⟨x3, y3, z3⟩).y * (y2 - y1) + (normZ ⟨x1, y1, z1⟩ ⟨x2, y2, z2⟩ ⟨x3, y3, z3⟩).z * (z2 - z1) = 0 := by simp only [normZ, V3.cross, V3.sub]; grind
theorem no_o2 (x1 y1 z1 x2 y2 z2 x3 y3 z3 : Int) : (normZ ⟨x1, y1, z1⟩ ⟨x2, y2, z2⟩ ⟨x3, y3, z3⟩).x * (x3 - x2) + (normZ ⟨x1, y1, z1⟩ ⟨x2, y2, z2⟩ ⟨x3, y3, z3⟩).y * (y3 - y2) + (normZ ⟨x1, y1, z1⟩ ⟨x2, y2, z2⟩ ⟨x3, y3, z3⟩).z * (z3 - z2) = 0 := by simp only [normZ, V3.cross, V3.sub]; grind
theorem no_o3 (x1 y1 z1 x2 y2 z2 x3 y3 z3 : Int) : (normZ ⟨x1, y1, z1⟩ ⟨x2, y2, z2⟩ ⟨x3, y3, z3⟩).x * (x1 - x3) + (normZ ⟨x1, y1, z1⟩ ⟨x2, y2, z2⟩ ⟨x3, y3, z3⟩).y * (y1 - y3) + (normZ ⟨x1, y1, z1⟩ ⟨x2, y2, z2⟩ ⟨x3, y3, z3⟩).z * (z1 - z3) = 0 := by simp only [normZ, V3.cross, V3.sub]; grind
theorem no_x (p q s : V3) : (normZ q p s).x = -(normZ p q s).x := (norm_neg p q s).1
theorem no_y (p q s : V3) : (normZ q p s).y = -(normZ p q s).y := (norm_neg p q s).2.1
theorem no_z (p q s : V3) : (normZ q p s).z = -(normZ p q s).z := (norm_neg p q s).2.2
theorem sq_nn' (x : Int) : 0 ≤ x * x := by
  rcases Int.le_total 0 x with h | h
  · exact Int.mul_nonneg h h
  · exact Int.mul_nonneg_of_nonpos_of_nonpos h h
theorem sq_z' {x : Int} (h : x * x = 0) : x = 0 := by rcases Int.mul_eq_zero.1 h with h | h <;> exact h
theorem isZ_iff' {v : V3} : v.isZ = true ↔ v.x = 0 ∧ v.y = 0 ∧ v.z = 0 := by unfold V3.isZ; simp
theorem isZ_dot (v : V3) : (v.dot v = 0) ↔ v.isZ = true := by
  have h1 := sq_nn' v.x; have h2 := sq_nn' v.y; have h3 := sq_nn' v.z
  have e : v.dot v = v.x * v.x + v.y * v.y + v.z * v.z := rfl
  rw [isZ_iff']
  constructor
  · intro h
    exact ⟨sq_z' (by omega), sq_z' (by omega), sq_z' (by omega)⟩
  · rintro ⟨h, g, k⟩
    rw [e, h, g, k]; rfl
theorem no_1 (v : V3) : (v.isZ == (decide (v.x = 0) && (decide (v.y = 0) && decide (v.z = 0)))) = true := beq_self_eq_true _
theorem no_2 (v : V3) : (decide ((v.dot v).sign = 1) == !v.isZ) = true := by
  have h1 := sq_nn' v.x; have h2 := sq_nn' v.y; have h3 := sq_nn' v.z
  have e : v.dot v = v.x * v.x + v.y * v.y + v.z * v.z := rfl
  cases h : v.isZ
  · have : v.dot v ≠ 0 := fun g => by rw [(isZ_dot v).1 g] at h; cases h
    rw [decide_eq_true (Int.sign_eq_one_of_pos (by omega))]; rfl
  · have := (isZ_dot v).2 h
    rw [this]; rfl
theorem no_3 (p q s : V3) : decide (((normZ p q s).dot (normZ q p s)).sign = IntKind.i64.wrap (0 - ((normZ p q s).dot (normZ p q s)).sign)) = true := by
  refine cneg ?_
  unfold V3.dot
  rw [no_x, no_y, no_z]; grind
def dLawNo : Dn
  | [.agg [.int _ _, .int _ _, .int _ _, .int _ _, .int _ _, .int _ _, .int _ _, .int _ _, .int _ _]] =>
    some (none, .c (.val (.bool true)))
  | _ => none
set_option maxHeartbeats 16000000 in
theorem spLawNo : SpOk Tryd.prog 7 dLawNo := sp_of2 (un := 20) (n := 0) ⟨Tryd.func7, by kernel_rfl, by kernel_rfl⟩ baseL1_ok noF_ok fun args p v hd => by
  unfold dLawNo at hd
  split at hd
  · rename_i x1 hx1 y1 hy1 z1 hz1 x2 hx2 y2 hy2 z2 hz2 x3 hx3 y3 hy3 z3 hz3
    cases hd
    refine ⟨[.agg [.int x1 hx1, .int y1 hy1, .int z1 hz1, .int x2 hx2, .int y2 hy2, .int z2 hz2, .int x3 hx3, .int y3 hy3, .int z3 hz3]], fun _ => rfl, fun _ _ => rfl, fun _ _ => rfl, fun _ => ?_⟩
    conv => whnf
    refine bcase_intro (fun h => Bool.noConfusion ((wne (no_o1 x1 y1 z1 x2 y2 z2 x3 y3 z3)).symm.trans h)) (fun _ => ?_)
    conv => whnf
    refine bcase_intro (fun h => Bool.noConfusion ((wne (no_x ⟨x1, y1, z1⟩ ⟨x2, y2, z2⟩ ⟨x3, y3, z3⟩)).symm.trans h)) (fun _ => ?_)
    conv => whnf
    refine bcase_intro (fun h => Bool.noConfusion ((wne (no_o2 x1 y1 z1 x2 y2 z2 x3 y3 z3)).symm.trans h)) (fun _ => ?_)
    conv => whnf
    refine bcase_intro (fun h => Bool.noConfusion ((wne (no_y ⟨x1, y1, z1⟩ ⟨x2, y2, z2⟩ ⟨x3, y3, z3⟩)).symm.trans h)) (fun _ => ?_)
    conv => whnf
    refine bcase_intro (fun h => Bool.noConfusion ((wne (no_o3 x1 y1 z1 x2 y2 z2 x3 y3 z3)).symm.trans h)) (fun _ => ?_)
    conv => whnf
    refine bcase_intro (fun h => Bool.noConfusion ((wne (no_z ⟨x1, y1, z1⟩ ⟨x2, y2, z2⟩ ⟨x3, y3, z3⟩)).symm.trans h)) (fun _ => ?_)
    conv => whnf
    refine bcase_intro (fun _ => ?_) (fun h => Bool.noConfusion ((no_1 (normZ ⟨x1, y1, z1⟩ ⟨x2, y2, z2⟩ ⟨x3, y3, z3⟩)).symm.trans h))
    conv => whnf
    refine bcase_intro (fun _ => ?_) (fun h => Bool.noConfusion ((no_2 (normZ ⟨x1, y1, z1⟩ ⟨x2, y2, z2⟩ ⟨x3, y3, z3⟩)).symm.trans h))
    conv => whnf
    exact fun ρ => sbool_e (no_3 ⟨x1, y1, z1⟩ ⟨x2, y2, z2⟩ ⟨x3, y3, z3⟩) ρ
  · cases hd
end Go.Proofs.YtmooplnklcgfjaaDoor
