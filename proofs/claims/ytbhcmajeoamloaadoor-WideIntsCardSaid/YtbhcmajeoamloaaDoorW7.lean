/- law 01: WideInts. -/
import Derived.Test.YtbhcmajeoamloaaDoorW6
namespace Go.Proofs.YtbhcmajeoamloaaDoor
open Go.RowKit
set_option maxRecDepth 100000

theorem bb_t (b : Bool) : (b == b) = true := by cases b <;> rfl
theorem bb_e {a b : Bool} (h : a = b) : (a == b) = true := by subst h; cases a <;> rfl
theorem intZ_ir {z : Int} (h : IR z) : intZ z = z := by unfold intZ; rw [if_pos h]
theorem wr_in {z : Int} (h : IR z) : IntKind.i64.wrap z = z := wrap_id h
theorem wr_hi {z : Int} (h : 9223372036854775807 < z) (h2 : z ≤ 18446744073709551614) : IntKind.i64.wrap z = z - 18446744073709551616 := by
  unfold IntKind.wrap; simp [IntKind.bits, IntKind.signed]; split <;> omega
theorem wr_lo {z : Int} (h : z < -9223372036854775808) (h2 : -18446744073709551616 ≤ z) : IntKind.i64.wrap z = z + 18446744073709551616 := by
  unfold IntKind.wrap; simp [IntKind.bits, IntKind.signed]; split <;> omega
/-- far or not -/
theorem far_p {n m : Int} (hn : IR n) (hm : IR m) (h : 0 < n) : decide (IntKind.i64.wrap (n + m) < m) = !decide (IR (n + m)) := by
  unfold IR at hn hm
  by_cases hi : IR (n + m)
  · rw [wr_in hi, decide_eq_true hi, decide_eq_false (by omega)]; rfl
  · rw [decide_eq_false hi]
    have : 9223372036854775807 < n + m := by unfold IR at hi; omega
    rw [wr_hi this (by omega), decide_eq_true (by omega)]; rfl
theorem far_n {n m : Int} (hn : IR n) (hm : IR m) (h : n < 0) : decide (m < IntKind.i64.wrap (n + m)) = !decide (IR (n + m)) := by
  unfold IR at hn hm
  by_cases hi : IR (n + m)
  · rw [wr_in hi, decide_eq_true hi, decide_eq_false (by omega)]; rfl
  · rw [decide_eq_false hi]
    have : n + m < -9223372036854775808 := by unfold IR at hi; omega
    rw [wr_lo this (by omega), decide_eq_true (by omega)]; rfl
theorem far_0 {n m : Int} (hm : IR m) (h : n = 0) : false = !decide (IR (n + m)) := by
  subst h; rw [Int.zero_add, decide_eq_true hm]; rfl
theorem sum_ok {n m : Int} (h : (!decide (IR (n + m))) = false) : intZ (n + m) = IntKind.i64.wrap (n + m) := by
  have hi : IR (n + m) := by
    by_cases hi : IR (n + m)
    · exact hi
    · rw [decide_eq_false hi] at h; cases h
  rw [intZ_ir hi, wr_in hi]
theorem low_no : ¬ IR (-(9223372036854775807 : Int) - 1 - 1) := by decide
theorem fits_ok {n m : Int} {f : Bool} (h : f = !decide (IR (n + m))) : (decide (IR (n + m)) == !f) = true := by subst h; cases decide (IR (n + m)) <;> rfl
set_option maxHeartbeats 16000000 in
theorem vcWideIntsA (y0 : Int) (k0 : IR y0) (y1 : Int) (k1 : IR y1) (b2 : Bool) (z2 : Int) (h2 : IR z2) (l2 : List UInt8) (c2 : Nat) (g2 : SliOk false l2.length c2) (m2 : l2.length ≤ 140737488351232) : vcF envR1 (inl envR1 noF 0) Tryd.f13 [.c (.int y0 k0), .c (.int y1 k1), .agg [.val (.bool b2), .sli false 0 0 l2.length c2 g2, .int z2 h2]] [⟨5, true, bsC l2, 0⟩] fun u _ => ∀ ρ, u.den ρ = (SV.c (.val (.bool true))).den ρ := by
  conv => whnf
  refine ⟨⟨l2, bs_all l2 rfl, rfl, m2⟩, ?_⟩
  conv => whnf
  refine ⟨Nat.le_trans (mk320 _ _) (by decide), ?_⟩
  conv => whnf
  refine ⟨Nat.le_trans (mk320 _ _) (by decide), ?_⟩
  conv => whnf
  refine ⟨Nat.le_trans (Nat.le_refl 64) (by decide), ?_⟩
  conv => whnf
  refine ⟨⟨Nat.le_trans (Nat.le_refl 64) (by decide), Nat.le_trans (Nat.le_refl 64) (by decide)⟩, ?_⟩
  conv => whnf
  refine ⟨Nat.le_trans (Nat.succ_le_succ (le_sum (Nat.le_refl 64) (Nat.le_refl 64))) (by decide), ?_⟩
  conv => whnf
  refine bcase_intro (fun hn => ?_) (fun hn => ?_)
  · conv => whnf
    refine bcase_intro (fun hf1 => ?_) (fun hf1 => ?_)
    · have hp := of_decide_eq_true hn
      have hf1 : decide (IntKind.i64.wrap (y0 + y1) < y1) = true := hf1
      have hf : true = !decide (IR (y0 + y1)) := hf1.symm.trans (far_p k0 k1 hp)
      conv => whnf
      refine ⟨Nat.le_trans (Nat.le_refl 64) (by decide), ?_⟩
      conv => whnf
      refine ⟨⟨Nat.le_trans (Nat.le_refl 64) (by decide), Nat.le_trans (Nat.le_refl 64) (by decide)⟩, ?_⟩
      conv => whnf
      refine ⟨⟨Nat.le_trans (Nat.le_refl 64) (by decide), Nat.le_trans (Nat.le_refl 64) (by decide)⟩, ?_⟩
      conv => whnf
      refine ⟨Nat.le_trans (Nat.succ_le_succ (le_sum (Nat.le_refl 64) (Nat.le_refl 64))) (by decide), ?_⟩
      conv => whnf
      refine ⟨Nat.le_trans (Nat.succ_le_succ (le_sum (Nat.le_refl 64) (Nat.le_refl 64))) (by decide), ?_⟩
      conv => whnf
      refine ⟨⟨Nat.le_trans (Nat.succ_le_succ (le_sum (Nat.le_refl 64) (Nat.le_refl 64))) (by decide), Nat.le_trans (Nat.le_refl 64) (by decide)⟩, ?_⟩
      conv => whnf
      refine ⟨Nat.le_trans (Nat.succ_le_succ (le_sum (Nat.succ_le_succ (le_sum (Nat.le_refl 64) (Nat.le_refl 64))) (Nat.le_refl 64))) (by decide), ?_⟩
      conv => whnf
      refine bcase_true (decide_eq_true (rfl)) ?_
      conv => whnf
      refine bcase_true (bb_t _) ?_
      conv => whnf
      refine bcase_true (decide_eq_true (intZ_ir k0)) ?_
      conv => whnf
      refine bcase_true (decide_eq_true (k0)) ?_
      conv => whnf
      refine bcase_true (decide_eq_true (rfl)) ?_
      conv => whnf
      refine bcase_true (fits_ok hf) ?_
      conv => whnf
      exact fun ρ => bool_sv (not_t low_no) ρ
    · have hp := of_decide_eq_true hn
      have hf1 : decide (IntKind.i64.wrap (y0 + y1) < y1) = false := hf1
      have hf : false = !decide (IR (y0 + y1)) := hf1.symm.trans (far_p k0 k1 hp)
      have hff := hf.symm
      conv => whnf
      refine bcase_false (decide_eq_false (by omega)) ?_
      conv => whnf
      refine ⟨Nat.le_trans (Nat.le_refl 64) (by decide), ?_⟩
      conv => whnf
      refine ⟨⟨Nat.le_trans (Nat.le_refl 64) (by decide), Nat.le_trans (Nat.le_refl 64) (by decide)⟩, ?_⟩
      conv => whnf
      refine ⟨⟨Nat.le_trans (Nat.le_refl 64) (by decide), Nat.le_trans (Nat.le_refl 64) (by decide)⟩, ?_⟩
      conv => whnf
      refine ⟨Nat.le_trans (Nat.succ_le_succ (le_sum (Nat.le_refl 64) (Nat.le_refl 64))) (by decide), ?_⟩
      conv => whnf
      refine ⟨Nat.le_trans (Nat.succ_le_succ (le_sum (Nat.le_refl 64) (Nat.le_refl 64))) (by decide), ?_⟩
      conv => whnf
      refine ⟨⟨Nat.le_trans (Nat.succ_le_succ (le_sum (Nat.le_refl 64) (Nat.le_refl 64))) (by decide), Nat.le_trans (Nat.le_refl 64) (by decide)⟩, ?_⟩
      conv => whnf
      refine ⟨Nat.le_trans (Nat.succ_le_succ (le_sum (Nat.succ_le_succ (le_sum (Nat.le_refl 64) (Nat.le_refl 64))) (Nat.le_refl 64))) (by decide), ?_⟩
      conv => whnf
      refine bcase_true (decide_eq_true (rfl)) ?_
      conv => whnf
      refine bcase_true (bb_t _) ?_
      conv => whnf
      refine bcase_true (decide_eq_true (intZ_ir k0)) ?_
      conv => whnf
      refine bcase_true (decide_eq_true (k0)) ?_
      conv => whnf
      refine bcase_true (decide_eq_true (rfl)) ?_
      conv => whnf
      refine bcase_true (fits_ok hf) ?_
      conv => whnf
      refine bcase_true (decide_eq_true (sum_ok hff)) ?_
      conv => whnf
      exact fun ρ => bool_sv (not_t low_no) ρ
  · conv => whnf
    refine bcase_intro (fun hn2 => ?_) (fun hn2 => ?_)
    · have hq := of_decide_eq_true hn2
      have hf := far_n k0 k1 hq
      conv => whnf
      refine ⟨Nat.le_trans (Nat.le_refl 64) (by decide), ?_⟩
      conv => whnf
      refine ⟨⟨Nat.le_trans (Nat.le_refl 64) (by decide), Nat.le_trans (Nat.le_refl 64) (by decide)⟩, ?_⟩
      conv => whnf
      refine ⟨⟨Nat.le_trans (Nat.le_refl 64) (by decide), Nat.le_trans (Nat.le_refl 64) (by decide)⟩, ?_⟩
      conv => whnf
      refine ⟨Nat.le_trans (Nat.succ_le_succ (le_sum (Nat.le_refl 64) (Nat.le_refl 64))) (by decide), ?_⟩
      conv => whnf
      refine ⟨Nat.le_trans (Nat.succ_le_succ (le_sum (Nat.le_refl 64) (Nat.le_refl 64))) (by decide), ?_⟩
      conv => whnf
      refine ⟨⟨Nat.le_trans (Nat.succ_le_succ (le_sum (Nat.le_refl 64) (Nat.le_refl 64))) (by decide), Nat.le_trans (Nat.le_refl 64) (by decide)⟩, ?_⟩
      conv => whnf
      refine ⟨Nat.le_trans (Nat.succ_le_succ (le_sum (Nat.succ_le_succ (le_sum (Nat.le_refl 64) (Nat.le_refl 64))) (Nat.le_refl 64))) (by decide), ?_⟩
      conv => whnf
      refine bcase_true (decide_eq_true (rfl)) ?_
      conv => whnf
      refine bcase_true (bb_t _) ?_
      conv => whnf
      refine bcase_true (decide_eq_true (intZ_ir k0)) ?_
      conv => whnf
      refine bcase_true (decide_eq_true (k0)) ?_
      conv => whnf
      refine bcase_true (decide_eq_true (rfl)) ?_
      conv => whnf
      refine bcase_true (fits_ok hf) ?_
      conv => whnf
      refine bcase_intro (fun hf3 => ?_) (fun hf3 => ?_)
      · conv => whnf
        exact fun ρ => bool_sv (not_t low_no) ρ
      · have hff := hf.symm.trans hf3
        conv => whnf
        refine bcase_true (decide_eq_true (sum_ok hff)) ?_
        conv => whnf
        exact fun ρ => bool_sv (not_t low_no) ρ
    · have hq : y0 = 0 := by have h1 := of_decide_eq_false hn; have h2 := of_decide_eq_false hn2; omega
      have hf := far_0 (n := y0) k1 hq
      have hff := hf.symm
      conv => whnf
      refine ⟨Nat.le_trans (Nat.le_refl 64) (by decide), ?_⟩
      conv => whnf
      refine ⟨⟨Nat.le_trans (Nat.le_refl 64) (by decide), Nat.le_trans (Nat.le_refl 64) (by decide)⟩, ?_⟩
      conv => whnf
      refine ⟨⟨Nat.le_trans (Nat.le_refl 64) (by decide), Nat.le_trans (Nat.le_refl 64) (by decide)⟩, ?_⟩
      conv => whnf
      refine ⟨Nat.le_trans (Nat.succ_le_succ (le_sum (Nat.le_refl 64) (Nat.le_refl 64))) (by decide), ?_⟩
      conv => whnf
      refine ⟨Nat.le_trans (Nat.succ_le_succ (le_sum (Nat.le_refl 64) (Nat.le_refl 64))) (by decide), ?_⟩
      conv => whnf
      refine ⟨⟨Nat.le_trans (Nat.succ_le_succ (le_sum (Nat.le_refl 64) (Nat.le_refl 64))) (by decide), Nat.le_trans (Nat.le_refl 64) (by decide)⟩, ?_⟩
      conv => whnf
      refine ⟨Nat.le_trans (Nat.succ_le_succ (le_sum (Nat.succ_le_succ (le_sum (Nat.le_refl 64) (Nat.le_refl 64))) (Nat.le_refl 64))) (by decide), ?_⟩
      conv => whnf
      refine bcase_true (decide_eq_true (rfl)) ?_
      conv => whnf
      refine bcase_true (bb_t _) ?_
      conv => whnf
      refine bcase_true (decide_eq_true (intZ_ir k0)) ?_
      conv => whnf
      refine bcase_true (decide_eq_true (k0)) ?_
      conv => whnf
      refine bcase_true (decide_eq_true (rfl)) ?_
      conv => whnf
      refine bcase_true (fits_ok hf) ?_
      conv => whnf
      refine bcase_true (decide_eq_true (sum_ok hff)) ?_
      conv => whnf
      exact fun ρ => bool_sv (not_t low_no) ρ
set_option maxHeartbeats 16000000 in
theorem vcWideIntsB (y0 : Int) (k0 : IR y0) (y1 : Int) (k1 : IR y1) (b2 : Bool) (z2 : Int) (h2 : IR z2) (a2 : Option Addr) : vcF envR1 (inl envR1 noF 0) Tryd.f13 [.c (.int y0 k0), .c (.int y1 k1), .agg [.val (.bool b2), .val (.slice a2 0 0), .int z2 h2]] [] fun u _ => ∀ ρ, u.den ρ = (SV.c (.val (.bool true))).den ρ := by
  conv => whnf
  refine ⟨Nat.le_trans (mk320 _ _) (by decide), ?_⟩
  conv => whnf
  refine ⟨Nat.le_trans (mk320 _ _) (by decide), ?_⟩
  conv => whnf
  refine ⟨Nat.le_trans (Nat.le_refl 64) (by decide), ?_⟩
  conv => whnf
  refine ⟨⟨Nat.le_trans (Nat.le_refl 64) (by decide), Nat.le_trans (Nat.le_refl 64) (by decide)⟩, ?_⟩
  conv => whnf
  refine ⟨Nat.le_trans (Nat.succ_le_succ (le_sum (Nat.le_refl 64) (Nat.le_refl 64))) (by decide), ?_⟩
  conv => whnf
  refine bcase_intro (fun hn => ?_) (fun hn => ?_)
  · conv => whnf
    refine bcase_intro (fun hf1 => ?_) (fun hf1 => ?_)
    · have hp := of_decide_eq_true hn
      have hf1 : decide (IntKind.i64.wrap (y0 + y1) < y1) = true := hf1
      have hf : true = !decide (IR (y0 + y1)) := hf1.symm.trans (far_p k0 k1 hp)
      conv => whnf
      refine ⟨Nat.le_trans (Nat.le_refl 64) (by decide), ?_⟩
      conv => whnf
      refine ⟨⟨Nat.le_trans (Nat.le_refl 64) (by decide), Nat.le_trans (Nat.le_refl 64) (by decide)⟩, ?_⟩
      conv => whnf
      refine ⟨⟨Nat.le_trans (Nat.le_refl 64) (by decide), Nat.le_trans (Nat.le_refl 64) (by decide)⟩, ?_⟩
      conv => whnf
      refine ⟨Nat.le_trans (Nat.succ_le_succ (le_sum (Nat.le_refl 64) (Nat.le_refl 64))) (by decide), ?_⟩
      conv => whnf
      refine ⟨Nat.le_trans (Nat.succ_le_succ (le_sum (Nat.le_refl 64) (Nat.le_refl 64))) (by decide), ?_⟩
      conv => whnf
      refine ⟨⟨Nat.le_trans (Nat.succ_le_succ (le_sum (Nat.le_refl 64) (Nat.le_refl 64))) (by decide), Nat.le_trans (Nat.le_refl 64) (by decide)⟩, ?_⟩
      conv => whnf
      refine ⟨Nat.le_trans (Nat.succ_le_succ (le_sum (Nat.succ_le_succ (le_sum (Nat.le_refl 64) (Nat.le_refl 64))) (Nat.le_refl 64))) (by decide), ?_⟩
      conv => whnf
      refine bcase_true (decide_eq_true (rfl)) ?_
      conv => whnf
      refine bcase_true (bb_t _) ?_
      conv => whnf
      refine bcase_true (decide_eq_true (intZ_ir k0)) ?_
      conv => whnf
      refine bcase_true (decide_eq_true (k0)) ?_
      conv => whnf
      refine bcase_true (decide_eq_true (rfl)) ?_
      conv => whnf
      refine bcase_true (fits_ok hf) ?_
      conv => whnf
      exact fun ρ => bool_sv (not_t low_no) ρ
    · have hp := of_decide_eq_true hn
      have hf1 : decide (IntKind.i64.wrap (y0 + y1) < y1) = false := hf1
      have hf : false = !decide (IR (y0 + y1)) := hf1.symm.trans (far_p k0 k1 hp)
      have hff := hf.symm
      conv => whnf
      refine bcase_false (decide_eq_false (by omega)) ?_
      conv => whnf
      refine ⟨Nat.le_trans (Nat.le_refl 64) (by decide), ?_⟩
      conv => whnf
      refine ⟨⟨Nat.le_trans (Nat.le_refl 64) (by decide), Nat.le_trans (Nat.le_refl 64) (by decide)⟩, ?_⟩
      conv => whnf
      refine ⟨⟨Nat.le_trans (Nat.le_refl 64) (by decide), Nat.le_trans (Nat.le_refl 64) (by decide)⟩, ?_⟩
      conv => whnf
      refine ⟨Nat.le_trans (Nat.succ_le_succ (le_sum (Nat.le_refl 64) (Nat.le_refl 64))) (by decide), ?_⟩
      conv => whnf
      refine ⟨Nat.le_trans (Nat.succ_le_succ (le_sum (Nat.le_refl 64) (Nat.le_refl 64))) (by decide), ?_⟩
      conv => whnf
      refine ⟨⟨Nat.le_trans (Nat.succ_le_succ (le_sum (Nat.le_refl 64) (Nat.le_refl 64))) (by decide), Nat.le_trans (Nat.le_refl 64) (by decide)⟩, ?_⟩
      conv => whnf
      refine ⟨Nat.le_trans (Nat.succ_le_succ (le_sum (Nat.succ_le_succ (le_sum (Nat.le_refl 64) (Nat.le_refl 64))) (Nat.le_refl 64))) (by decide), ?_⟩
      conv => whnf
      refine bcase_true (decide_eq_true (rfl)) ?_
      conv => whnf
      refine bcase_true (bb_t _) ?_
      conv => whnf
      refine bcase_true (decide_eq_true (intZ_ir k0)) ?_
      conv => whnf
      refine bcase_true (decide_eq_true (k0)) ?_
      conv => whnf
      refine bcase_true (decide_eq_true (rfl)) ?_
      conv => whnf
      refine bcase_true (fits_ok hf) ?_
      conv => whnf
      refine bcase_true (decide_eq_true (sum_ok hff)) ?_
      conv => whnf
      exact fun ρ => bool_sv (not_t low_no) ρ
  · conv => whnf
    refine bcase_intro (fun hn2 => ?_) (fun hn2 => ?_)
    · have hq := of_decide_eq_true hn2
      have hf := far_n k0 k1 hq
      conv => whnf
      refine ⟨Nat.le_trans (Nat.le_refl 64) (by decide), ?_⟩
      conv => whnf
      refine ⟨⟨Nat.le_trans (Nat.le_refl 64) (by decide), Nat.le_trans (Nat.le_refl 64) (by decide)⟩, ?_⟩
      conv => whnf
      refine ⟨⟨Nat.le_trans (Nat.le_refl 64) (by decide), Nat.le_trans (Nat.le_refl 64) (by decide)⟩, ?_⟩
      conv => whnf
      refine ⟨Nat.le_trans (Nat.succ_le_succ (le_sum (Nat.le_refl 64) (Nat.le_refl 64))) (by decide), ?_⟩
      conv => whnf
      refine ⟨Nat.le_trans (Nat.succ_le_succ (le_sum (Nat.le_refl 64) (Nat.le_refl 64))) (by decide), ?_⟩
      conv => whnf
      refine ⟨⟨Nat.le_trans (Nat.succ_le_succ (le_sum (Nat.le_refl 64) (Nat.le_refl 64))) (by decide), Nat.le_trans (Nat.le_refl 64) (by decide)⟩, ?_⟩
      conv => whnf
      refine ⟨Nat.le_trans (Nat.succ_le_succ (le_sum (Nat.succ_le_succ (le_sum (Nat.le_refl 64) (Nat.le_refl 64))) (Nat.le_refl 64))) (by decide), ?_⟩
      conv => whnf
      refine bcase_true (decide_eq_true (rfl)) ?_
      conv => whnf
      refine bcase_true (bb_t _) ?_
      conv => whnf
      refine bcase_true (decide_eq_true (intZ_ir k0)) ?_
      conv => whnf
      refine bcase_true (decide_eq_true (k0)) ?_
      conv => whnf
      refine bcase_true (decide_eq_true (rfl)) ?_
      conv => whnf
      refine bcase_true (fits_ok hf) ?_
      conv => whnf
      refine bcase_intro (fun hf3 => ?_) (fun hf3 => ?_)
      · conv => whnf
        exact fun ρ => bool_sv (not_t low_no) ρ
      · have hff := hf.symm.trans hf3
        conv => whnf
        refine bcase_true (decide_eq_true (sum_ok hff)) ?_
        conv => whnf
        exact fun ρ => bool_sv (not_t low_no) ρ
    · have hq : y0 = 0 := by have h1 := of_decide_eq_false hn; have h2 := of_decide_eq_false hn2; omega
      have hf := far_0 (n := y0) k1 hq
      have hff := hf.symm
      conv => whnf
      refine ⟨Nat.le_trans (Nat.le_refl 64) (by decide), ?_⟩
      conv => whnf
      refine ⟨⟨Nat.le_trans (Nat.le_refl 64) (by decide), Nat.le_trans (Nat.le_refl 64) (by decide)⟩, ?_⟩
      conv => whnf
      refine ⟨⟨Nat.le_trans (Nat.le_refl 64) (by decide), Nat.le_trans (Nat.le_refl 64) (by decide)⟩, ?_⟩
      conv => whnf
      refine ⟨Nat.le_trans (Nat.succ_le_succ (le_sum (Nat.le_refl 64) (Nat.le_refl 64))) (by decide), ?_⟩
      conv => whnf
      refine ⟨Nat.le_trans (Nat.succ_le_succ (le_sum (Nat.le_refl 64) (Nat.le_refl 64))) (by decide), ?_⟩
      conv => whnf
      refine ⟨⟨Nat.le_trans (Nat.succ_le_succ (le_sum (Nat.le_refl 64) (Nat.le_refl 64))) (by decide), Nat.le_trans (Nat.le_refl 64) (by decide)⟩, ?_⟩
      conv => whnf
      refine ⟨Nat.le_trans (Nat.succ_le_succ (le_sum (Nat.succ_le_succ (le_sum (Nat.le_refl 64) (Nat.le_refl 64))) (Nat.le_refl 64))) (by decide), ?_⟩
      conv => whnf
      refine bcase_true (decide_eq_true (rfl)) ?_
      conv => whnf
      refine bcase_true (bb_t _) ?_
      conv => whnf
      refine bcase_true (decide_eq_true (intZ_ir k0)) ?_
      conv => whnf
      refine bcase_true (decide_eq_true (k0)) ?_
      conv => whnf
      refine bcase_true (decide_eq_true (rfl)) ?_
      conv => whnf
      refine bcase_true (fits_ok hf) ?_
      conv => whnf
      refine bcase_true (decide_eq_true (sum_ok hff)) ?_
      conv => whnf
      exact fun ρ => bool_sv (not_t low_no) ρ
end Go.Proofs.YtbhcmajeoamloaaDoor
