/- Plain laws of fractions. -/
import Derived.Test.YtbhcmajeoamloaaDoorNac
namespace Go.Proofs.YtbhcmajeoamloaaDoor
open Go.RowKit
set_option maxRecDepth 100000

theorem frac_spec {n d : Int} (hd : 0 < d) : n = ((n.gcd d : Nat) : Int) * fracN n d ∧ d = ((n.gcd d : Nat) : Int) * fracD n d ∧ 0 < ((n.gcd d : Nat) : Int) := by
  have h0 : d ≠ 0 := by omega
  have hs : gsgn n d = ((n.gcd d : Nat) : Int) := by unfold gsgn; rw [Int.sign_eq_one_of_pos hd, Int.mul_one]
  have hg : 0 < n.gcd d := Nat.gcd_pos_of_pos_right _ (by omega)
  refine ⟨?_, ?_, by omega⟩
  · unfold fracN; rw [if_neg h0, hs, Int.mul_tdiv_cancel' (Int.gcd_dvd_left ..)]
  · unfold fracD; rw [if_neg h0, hs, Int.mul_tdiv_cancel' (Int.gcd_dvd_right ..)]
theorem fracD_pos {n d : Int} (hd : 0 < d) : 0 < fracD n d := by
  obtain ⟨-, h2, h3⟩ := frac_spec (n := n) hd
  rcases Int.lt_trichotomy (fracD n d) 0 with h | h | h
  · have := Int.mul_neg_of_pos_of_neg h3 h; omega
  · rw [h, Int.mul_zero] at h2; omega
  · exact h
theorem frac_ratio {n d : Int} (hd : 0 < d) : fracN n d * d = n * fracD n d := by
  obtain ⟨h1, h2, -⟩ := frac_spec (n := n) hd
  generalize ((n.gcd d : Nat) : Int) = g at h1 h2
  generalize fracN n d = N at h1 ⊢
  generalize fracD n d = D at h2 ⊢
  subst h1 h2
  grind
theorem gcd_scale (n d e : Int) : (n * e).gcd (d * e) = n.gcd d * e.natAbs := by
  show Nat.gcd (n * e).natAbs (d * e).natAbs = Nat.gcd n.natAbs d.natAbs * e.natAbs
  rw [Int.natAbs_mul, Int.natAbs_mul, Nat.gcd_mul_right]
theorem frac_eq {n d m e : Int} (hd : 0 < d) (he : 0 < e) (h : n * e = m * d) : fracN n d = fracN m e ∧ fracD n d = fracD m e := by
  have k1 := frac_spec (n := n) hd
  have k2 := frac_spec (n := m) he
  have hg : ((n.gcd d : Nat) : Int) * e = ((m.gcd e : Nat) : Int) * d := by
    have h1 := gcd_scale n d e
    have h2 := gcd_scale m e d
    rw [h, Int.mul_comm d e, h2] at h1
    have h3 : ((m.gcd e * d.natAbs : Nat) : Int) = ((n.gcd d * e.natAbs : Nat) : Int) := congrArg (fun x : Nat => (x : Int)) h1
    rw [Int.natCast_mul, Int.natCast_mul] at h3
    have e1 : ((d.natAbs : Nat) : Int) = d := by omega
    have e2 : ((e.natAbs : Nat) : Int) = e := by omega
    rw [e1, e2] at h3
    exact h3.symm
  have hD1 := fracD_pos (n := n) hd
  obtain ⟨a1, a2, a3⟩ := k1
  obtain ⟨b1, b2, b3⟩ := k2
  generalize ((n.gcd d : Nat) : Int) = g at a1 a2 a3 hg
  generalize ((m.gcd e : Nat) : Int) = g' at b1 b2 b3 hg
  generalize fracN n d = N at a1 ⊢
  generalize fracD n d = D at a2 hD1 ⊢
  generalize fracN m e = M at b1 ⊢
  generalize fracD m e = E at b2 ⊢
  have hgg : 0 < g * g' := Int.mul_pos a3 b3
  have hDE : D = E := by
    have : (g * g') * D = (g * g') * E := by
      have h1 : g * (g' * E) = g' * (g * D) := by rw [← b2, ← a2]; exact hg
      grind
    exact Int.eq_of_mul_eq_mul_left (by omega) this
  refine ⟨?_, hDE⟩
  subst hDE
  have h2 : (g * N) * (g' * D) = (g' * M) * (g * D) := by rw [← a1, ← b1, ← b2, ← a2]; exact h
  have h3 : (g * g' * D) * N = (g * g' * D) * M := by grind
  have h4 : 0 < g * g' * D := Int.mul_pos hgg hD1
  exact Int.eq_of_mul_eq_mul_left (by omega) h3
theorem pD_pos (y : Int) : 0 < pD y := by unfold pD; split <;> omega
theorem pN_of {N D : Int} (h : 0 < D) : pN N D = N := by unfold pN; rw [if_pos h]
theorem pD_of {D : Int} (h : 0 < D) : pD D = D := by unfold pD; rw [if_pos h]
theorem cancel_l {p x y : Int} (hp : 0 < p) (h : p * x = p * y) : x = y := Int.eq_of_mul_eq_mul_left (by omega) h
theorem sign_mulp {x y p q : Int} (hp : 0 < p) (hq : 0 < q) (h : p * x = q * y) : x.sign = y.sign := by
  have h2 := congrArg Int.sign h
  rw [Int.sign_mul, Int.sign_mul, Int.sign_eq_one_of_pos hp, Int.sign_eq_one_of_pos hq, Int.one_mul, Int.one_mul] at h2
  exact h2
theorem fr_comm (n1 d1 n2 d2 : Int) : fracN (n1 * d2 + n2 * d1) (d1 * d2) = fracN (n2 * d1 + n1 * d2) (d2 * d1) ∧ fracD (n1 * d2 + n2 * d1) (d1 * d2) = fracD (n2 * d1 + n1 * d2) (d2 * d1) := by
  rw [Int.add_comm (n1 * d2), Int.mul_comm d1 d2]; exact ⟨rfl, rfl⟩
theorem fm_comm (n1 d1 n2 d2 : Int) : fracN (n1 * n2) (d1 * d2) = fracN (n2 * n1) (d2 * d1) ∧ fracD (n1 * n2) (d1 * d2) = fracD (n2 * n1) (d2 * d1) := by
  rw [Int.mul_comm n1 n2, Int.mul_comm d1 d2]; exact ⟨rfl, rfl⟩
theorem fr_assoc {n1 d1 n2 d2 n3 d3 : Int} (h1 : 0 < d1) (h2 : 0 < d2) (h3 : 0 < d3) : fracN (pN (fracN (n1 * d2 + n2 * d1) (d1 * d2)) (fracD (n1 * d2 + n2 * d1) (d1 * d2)) * d3 + n3 * pD (fracD (n1 * d2 + n2 * d1) (d1 * d2))) (pD (fracD (n1 * d2 + n2 * d1) (d1 * d2)) * d3) = fracN (n1 * pD (fracD (n2 * d3 + n3 * d2) (d2 * d3)) + pN (fracN (n2 * d3 + n3 * d2) (d2 * d3)) (fracD (n2 * d3 + n3 * d2) (d2 * d3)) * d1) (d1 * pD (fracD (n2 * d3 + n3 * d2) (d2 * d3))) ∧ fracD (pN (fracN (n1 * d2 + n2 * d1) (d1 * d2)) (fracD (n1 * d2 + n2 * d1) (d1 * d2)) * d3 + n3 * pD (fracD (n1 * d2 + n2 * d1) (d1 * d2))) (pD (fracD (n1 * d2 + n2 * d1) (d1 * d2)) * d3) = fracD (n1 * pD (fracD (n2 * d3 + n3 * d2) (d2 * d3)) + pN (fracN (n2 * d3 + n3 * d2) (d2 * d3)) (fracD (n2 * d3 + n3 * d2) (d2 * d3)) * d1) (d1 * pD (fracD (n2 * d3 + n3 * d2) (d2 * d3))) := by
  have rA := frac_ratio (n := n1 * d2 + n2 * d1) (d := d1 * d2) (Int.mul_pos h1 h2)
  have pA := fracD_pos (n := n1 * d2 + n2 * d1) (d := d1 * d2) (Int.mul_pos h1 h2)
  rw [pN_of pA, pD_of pA]
  generalize fracN (n1 * d2 + n2 * d1) (d1 * d2) = NA at rA ⊢
  generalize fracD (n1 * d2 + n2 * d1) (d1 * d2) = DA at rA pA ⊢
  have rB := frac_ratio (n := n2 * d3 + n3 * d2) (d := d2 * d3) (Int.mul_pos h2 h3)
  have pB := fracD_pos (n := n2 * d3 + n3 * d2) (d := d2 * d3) (Int.mul_pos h2 h3)
  rw [pN_of pB, pD_of pB]
  generalize fracN (n2 * d3 + n3 * d2) (d2 * d3) = NB at rB ⊢
  generalize fracD (n2 * d3 + n3 * d2) (d2 * d3) = DB at rB pB ⊢
  refine frac_eq (Int.mul_pos pA h3) (Int.mul_pos h1 pB) (cancel_l h2 ?_)
  grind
theorem fm_assoc {n1 d1 n2 d2 n3 d3 : Int} (h1 : 0 < d1) (h2 : 0 < d2) (h3 : 0 < d3) : fracN (pN (fracN (n1 * n2) (d1 * d2)) (fracD (n1 * n2) (d1 * d2)) * n3) (pD (fracD (n1 * n2) (d1 * d2)) * d3) = fracN (n1 * pN (fracN (n2 * n3) (d2 * d3)) (fracD (n2 * n3) (d2 * d3))) (d1 * pD (fracD (n2 * n3) (d2 * d3))) ∧ fracD (pN (fracN (n1 * n2) (d1 * d2)) (fracD (n1 * n2) (d1 * d2)) * n3) (pD (fracD (n1 * n2) (d1 * d2)) * d3) = fracD (n1 * pN (fracN (n2 * n3) (d2 * d3)) (fracD (n2 * n3) (d2 * d3))) (d1 * pD (fracD (n2 * n3) (d2 * d3))) := by
  have rA := frac_ratio (n := n1 * n2) (d := d1 * d2) (Int.mul_pos h1 h2)
  have pA := fracD_pos (n := n1 * n2) (d := d1 * d2) (Int.mul_pos h1 h2)
  rw [pN_of pA, pD_of pA]
  generalize fracN (n1 * n2) (d1 * d2) = NA at rA ⊢
  generalize fracD (n1 * n2) (d1 * d2) = DA at rA pA ⊢
  have rB := frac_ratio (n := n2 * n3) (d := d2 * d3) (Int.mul_pos h2 h3)
  have pB := fracD_pos (n := n2 * n3) (d := d2 * d3) (Int.mul_pos h2 h3)
  rw [pN_of pB, pD_of pB]
  generalize fracN (n2 * n3) (d2 * d3) = NB at rB ⊢
  generalize fracD (n2 * n3) (d2 * d3) = DB at rB pB ⊢
  refine frac_eq (Int.mul_pos pA h3) (Int.mul_pos h1 pB) (cancel_l h2 ?_)
  grind
theorem f_dist {n1 d1 n2 d2 n3 d3 : Int} (h1 : 0 < d1) (h2 : 0 < d2) (h3 : 0 < d3) : fracN (n1 * pN (fracN (n2 * d3 + n3 * d2) (d2 * d3)) (fracD (n2 * d3 + n3 * d2) (d2 * d3))) (d1 * pD (fracD (n2 * d3 + n3 * d2) (d2 * d3))) = fracN (pN (fracN (n1 * n2) (d1 * d2)) (fracD (n1 * n2) (d1 * d2)) * pD (fracD (n1 * n3) (d1 * d3)) + pN (fracN (n1 * n3) (d1 * d3)) (fracD (n1 * n3) (d1 * d3)) * pD (fracD (n1 * n2) (d1 * d2))) (pD (fracD (n1 * n2) (d1 * d2)) * pD (fracD (n1 * n3) (d1 * d3))) ∧ fracD (n1 * pN (fracN (n2 * d3 + n3 * d2) (d2 * d3)) (fracD (n2 * d3 + n3 * d2) (d2 * d3))) (d1 * pD (fracD (n2 * d3 + n3 * d2) (d2 * d3))) = fracD (pN (fracN (n1 * n2) (d1 * d2)) (fracD (n1 * n2) (d1 * d2)) * pD (fracD (n1 * n3) (d1 * d3)) + pN (fracN (n1 * n3) (d1 * d3)) (fracD (n1 * n3) (d1 * d3)) * pD (fracD (n1 * n2) (d1 * d2))) (pD (fracD (n1 * n2) (d1 * d2)) * pD (fracD (n1 * n3) (d1 * d3))) := by
  have rB := frac_ratio (n := n2 * d3 + n3 * d2) (d := d2 * d3) (Int.mul_pos h2 h3)
  have pB := fracD_pos (n := n2 * d3 + n3 * d2) (d := d2 * d3) (Int.mul_pos h2 h3)
  rw [pN_of pB, pD_of pB]
  generalize fracN (n2 * d3 + n3 * d2) (d2 * d3) = NB at rB ⊢
  generalize fracD (n2 * d3 + n3 * d2) (d2 * d3) = DB at rB pB ⊢
  have rA := frac_ratio (n := n1 * n2) (d := d1 * d2) (Int.mul_pos h1 h2)
  have pA := fracD_pos (n := n1 * n2) (d := d1 * d2) (Int.mul_pos h1 h2)
  rw [pN_of pA, pD_of pA]
  generalize fracN (n1 * n2) (d1 * d2) = NA at rA ⊢
  generalize fracD (n1 * n2) (d1 * d2) = DA at rA pA ⊢
  have rC := frac_ratio (n := n1 * n3) (d := d1 * d3) (Int.mul_pos h1 h3)
  have pC := fracD_pos (n := n1 * n3) (d := d1 * d3) (Int.mul_pos h1 h3)
  rw [pN_of pC, pD_of pC]
  generalize fracN (n1 * n3) (d1 * d3) = NC at rC ⊢
  generalize fracD (n1 * n3) (d1 * d3) = DC at rC pC ⊢
  refine frac_eq (Int.mul_pos h1 pB) (Int.mul_pos pA pC) (cancel_l (Int.mul_pos h2 h3) ?_)
  grind
theorem frac_sign {n d : Int} (hd : 0 < d) : (fracN n d).sign = n.sign := by
  obtain ⟨h1, -, h3⟩ := frac_spec (n := n) hd
  exact sign_mulp (p := ((n.gcd d : Nat) : Int)) (q := 1) h3 (by decide) (by rw [Int.one_mul]; exact h1.symm)
theorem f_order {n1 d1 n2 d2 : Int} (h1 : 0 < d1) (h2 : 0 < d2) : (n1 * d2 - n2 * d1).sign = (fracN (n1 * pD (fracD (n2 * -1) (d2 * 1)) + pN (fracN (n2 * -1) (d2 * 1)) (fracD (n2 * -1) (d2 * 1)) * d1) (d1 * pD (fracD (n2 * -1) (d2 * 1)))).sign := by
  have h4 : 0 < d2 * 1 := by omega
  have rM := frac_ratio (n := n2 * -1) (d := d2 * 1) h4
  have pM := fracD_pos (n := n2 * -1) (d := d2 * 1) h4
  rw [pN_of pM, pD_of pM]
  generalize fracN (n2 * -1) (d2 * 1) = NM at rM ⊢
  generalize fracD (n2 * -1) (d2 * 1) = DM at rM pM ⊢
  rw [frac_sign (Int.mul_pos h1 pM)]
  refine sign_mulp (p := DM) (q := d2) pM h2 ?_
  grind
theorem f_shift {n1 d1 n2 d2 n3 d3 : Int} (h1 : 0 < d1) (h2 : 0 < d2) (h3 : 0 < d3) : (n1 * d2 - n2 * d1).sign = (pN (fracN (n1 * d3 + n3 * d1) (d1 * d3)) (fracD (n1 * d3 + n3 * d1) (d1 * d3)) * pD (fracD (n2 * d3 + n3 * d2) (d2 * d3)) - pN (fracN (n2 * d3 + n3 * d2) (d2 * d3)) (fracD (n2 * d3 + n3 * d2) (d2 * d3)) * pD (fracD (n1 * d3 + n3 * d1) (d1 * d3))).sign := by
  have rA := frac_ratio (n := n1 * d3 + n3 * d1) (d := d1 * d3) (Int.mul_pos h1 h3)
  have pA := fracD_pos (n := n1 * d3 + n3 * d1) (d := d1 * d3) (Int.mul_pos h1 h3)
  rw [pN_of pA, pD_of pA]
  generalize fracN (n1 * d3 + n3 * d1) (d1 * d3) = NA at rA ⊢
  generalize fracD (n1 * d3 + n3 * d1) (d1 * d3) = DA at rA pA ⊢
  have rB := frac_ratio (n := n2 * d3 + n3 * d2) (d := d2 * d3) (Int.mul_pos h2 h3)
  have pB := fracD_pos (n := n2 * d3 + n3 * d2) (d := d2 * d3) (Int.mul_pos h2 h3)
  rw [pN_of pB, pD_of pB]
  generalize fracN (n2 * d3 + n3 * d2) (d2 * d3) = NB at rB ⊢
  generalize fracD (n2 * d3 + n3 * d2) (d2 * d3) = DB at rB pB ⊢
  refine sign_mulp (p := DA * DB * d3) (q := d1 * d2 * d3) (Int.mul_pos (Int.mul_pos pA pB) h3) (Int.mul_pos (Int.mul_pos h1 h2) h3) ?_
  grind
end Go.Proofs.YtbhcmajeoamloaaDoor
