/- law 02: distances. -/
import Derived.Test.YtmooplnklcgfjaaDoorL0
namespace Go.Proofs.YtmooplnklcgfjaaDoor
open Go.RowKit
set_option maxRecDepth 100000

theorem di_1 (x1 y1 z1 x2 y2 z2 : Int) : decide (((V3.sub ⟨x2, y2, z2⟩ ⟨x1, y1, z1⟩).dot (V3.sub ⟨x2, y2, z2⟩ ⟨x1, y1, z1⟩)) = 0 + (x1 - x2) * (x1 - x2) + (y1 - y2) * (y1 - y2) + (z1 - z2) * (z1 - z2)) = true := decide_eq_true (by simp only [V3.dot, V3.sub]; grind)
theorem di_2 (x1 y1 z1 x2 y2 z2 : Int) : decide (((V3.sub ⟨x1, y1, z1⟩ ⟨x2, y2, z2⟩).dot (V3.sub ⟨x1, y1, z1⟩ ⟨x2, y2, z2⟩)) = 0 + (x1 - x2) * (x1 - x2) + (y1 - y2) * (y1 - y2) + (z1 - z2) * (z1 - z2)) = true := decide_eq_true (by simp only [V3.dot, V3.sub]; grind)
theorem sq_nn (x : Int) : 0 ≤ x * x := by
  rcases Int.le_total 0 x with h | h
  · exact Int.mul_nonneg h h
  · exact Int.mul_nonneg_of_nonpos_of_nonpos h h
theorem sq_z {x : Int} (h : x * x = 0) : x = 0 := by rcases Int.mul_eq_zero.1 h with h | h <;> exact h
theorem di_3 (x1 y1 z1 x2 y2 z2 : Int) : (decide (((V3.sub ⟨x2, y2, z2⟩ ⟨x1, y1, z1⟩).dot (V3.sub ⟨x2, y2, z2⟩ ⟨x1, y1, z1⟩)) = 0) == (decide (x1 = x2) && (decide (y1 = y2) && decide (z1 = z2)))) = true := by
  have e : ((V3.sub ⟨x2, y2, z2⟩ ⟨x1, y1, z1⟩).dot (V3.sub ⟨x2, y2, z2⟩ ⟨x1, y1, z1⟩)) = (x2 - x1) * (x2 - x1) + (y2 - y1) * (y2 - y1) + (z2 - z1) * (z2 - z1) := rfl
  rw [e]
  have h1 := sq_nn (x2 - x1); have h2 := sq_nn (y2 - y1); have h3 := sq_nn (z2 - z1)
  by_cases h : (x2 - x1) * (x2 - x1) + (y2 - y1) * (y2 - y1) + (z2 - z1) * (z2 - z1) = 0
  · have g1 := sq_z (x := x2 - x1) (by omega); have g2 := sq_z (x := y2 - y1) (by omega); have g3 := sq_z (x := z2 - z1) (by omega)
    rw [decide_eq_true h, decide_eq_true (show x1 = x2 by omega), decide_eq_true (show y1 = y2 by omega), decide_eq_true (show z1 = z2 by omega)]; rfl
  · rw [decide_eq_false h]
    by_cases g1 : x1 = x2
    · by_cases g2 : y1 = y2
      · by_cases g3 : z1 = z2
        · subst g1 g2 g3; exact absurd (by simp) h
        · simp [g3]
      · simp [g2]
    · simp [g1]
def dLawDi : Dn
  | [.agg [.int _ _, .int _ _, .int _ _], .agg [.int _ _, .int _ _, .int _ _]] =>
    some (none, .c (.val (.bool true)))
  | _ => none
set_option maxHeartbeats 16000000 in
theorem spLawDi : SpOk Tryd.prog 8 dLawDi := sp_of2 (un := 20) (n := 0) ⟨Tryd.func8, by kernel_rfl, by kernel_rfl⟩ baseL1_ok noF_ok fun args p v hd => by
  unfold dLawDi at hd
  split at hd
  · rename_i x1 hx1 y1 hy1 z1 hz1 x2 hx2 y2 hy2 z2 hz2
    cases hd
    refine ⟨[.agg [.int x1 hx1, .int y1 hy1, .int z1 hz1], .agg [.int x2 hx2, .int y2 hy2, .int z2 hz2]], fun _ => rfl, fun _ _ => rfl, fun _ _ => rfl, fun _ => ?_⟩
    conv => whnf
    refine bcase_intro (fun _ => ?_) (fun h => Bool.noConfusion ((di_1 x1 y1 z1 x2 y2 z2).symm.trans h))
    conv => whnf
    refine bcase_intro (fun _ => ?_) (fun h => Bool.noConfusion ((di_2 x1 y1 z1 x2 y2 z2).symm.trans h))
    conv => whnf
    exact fun ρ => sbool_e (di_3 x1 y1 z1 x2 y2 z2) ρ
  · cases hd
end Go.Proofs.YtmooplnklcgfjaaDoor
