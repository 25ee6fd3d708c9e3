/- law 01: WideRoots, WideInts. -/
import Derived.Test.YtbhcmajeoamloaaDoorW5
import Derived.Test.YtbhcmajeoamloaaDoorIab
namespace Go.Proofs.YtbhcmajeoamloaaDoor
open Go.RowKit
set_option maxRecDepth 100000

theorem sgn_lt {z : Int} (h : decide (z.sign < 0) = true) : z < 0 := by
  have h := of_decide_eq_true h
  rcases Int.lt_trichotomy z 0 with h2 | h2 | h2
  · exact h2
  · subst h2; exact absurd h (by decide)
  · rw [Int.sign_eq_one_of_pos h2] at h; exact absurd h (by decide)
theorem sgn_ge {z : Int} (h : decide (z.sign < 0) = false) : 0 ≤ z := by
  have h := of_decide_eq_false h
  rcases Int.lt_trichotomy z 0 with h2 | h2 | h2
  · rw [Int.sign_eq_neg_one_of_neg h2] at h; exact absurd (by decide) h
  · omega
  · omega
theorem root_neg {z : Int} (h : z < 0) : rootZ z = 0 := by unfold rootZ; rw [if_pos h]
theorem root_of {z : Int} (h : 0 ≤ z) : rootZ z = ((isq z.natAbs : Nat) : Int) := by unfold rootZ; rw [if_neg (by omega)]
theorem root_le {z : Int} (h : 0 ≤ z) : (rootZ z * rootZ z - z).sign ≤ 0 := by
  have h1 := (isq_spec z.natAbs).1
  have h2 : ((isq z.natAbs * isq z.natAbs : Nat) : Int) ≤ z := by omega
  rw [Int.natCast_mul] at h2
  rw [root_of h]
  generalize ((isq z.natAbs : Nat) : Int) * ((isq z.natAbs : Nat) : Int) = q at h2
  rcases Int.lt_trichotomy (q - z) 0 with h3 | h3 | h3
  · rw [Int.sign_eq_neg_one_of_neg h3]; decide
  · rw [h3]; decide
  · omega
theorem root_gt {z : Int} (h : 0 ≤ z) : 0 < ((rootZ z + 1) * (rootZ z + 1) - z).sign := by
  have h1 := (isq_spec z.natAbs).2
  have h2 : z < (((isq z.natAbs + 1) * (isq z.natAbs + 1) : Nat) : Int) := by omega
  rw [Int.natCast_mul] at h2
  rw [root_of h]
  have e : ((isq z.natAbs : Nat) : Int) + 1 = ((isq z.natAbs + 1 : Nat) : Int) := by omega
  rw [e]
  generalize ((isq z.natAbs + 1 : Nat) : Int) * ((isq z.natAbs + 1 : Nat) : Int) = q at h2
  rw [Int.sign_eq_one_of_pos (by omega)]; decide
def dRoot1 : Dn := num1c 1000 fun _ => .c (.val (.bool true))
def lawR0 : List (FuncId × Dn) := (73, dRootA) :: (47, dIntA) :: lawP
theorem lawR0_ok : AllOk lawR0 := .cons spRRootA <| .cons spRIntA lawP_ok
set_option maxHeartbeats 4000000 in
theorem spRoot1 : SpOk Tryd.prog 36 dRoot1 := sp_num1H ⟨Tryd.func36, by kernel_rfl, by kernel_rfl⟩ (envN_ok lawR0_ok .nil 0 fun _ => false) (mix_ok .nil (envN_ok lawR0_ok .nil 0 fun _ => false) mixed noF_ok 0) (fun _ _ _ => rfl) fun X kX b s nX => by
  conv => whnf
  refine ⟨Nat.le_trans (num8 nX kX) (by decide), ?_⟩
  conv => whnf
  refine ⟨Nat.le_trans (num8 nX kX) (by decide), ?_⟩
  conv => whnf
  refine bcase_intro (fun hz => ?_) (fun hz => ?_)
  · have hz := sgn_lt hz
    conv => whnf
    refine bcase_true (not_t (Int.not_le.2 hz)) ?_
    conv => whnf
    exact fun ρ => bool_sv (decide_eq_true (root_neg hz)) ρ
  · have hz := sgn_ge hz
    conv => whnf
    refine ⟨⟨Nat.le_trans (num8 nX kX) (by decide), Nat.le_trans (Nat.le_refl 64) (by decide)⟩, ?_⟩
    conv => whnf
    refine ⟨Nat.le_trans (num8 nX kX) (by decide), ?_⟩
    conv => whnf
    refine bcase_true (decide_eq_true (hz)) ?_
    conv => whnf
    refine bcase_true (decide_eq_true (hz)) ?_
    conv => whnf
    refine bcase_true (decide_eq_true (rfl)) ?_
    conv => whnf
    refine ⟨⟨Nat.le_trans (num8 nX kX) (by decide), Nat.le_trans (num8 nX kX) (by decide)⟩, ?_⟩
    conv => whnf
    refine ⟨⟨Nat.le_trans (le_sum (num8 nX kX) (num8 nX kX)) (by decide), Nat.le_trans (num8 nX kX) (by decide)⟩, ?_⟩
    conv => whnf
    refine bcase_true (decide_eq_true (root_le hz)) ?_
    conv => whnf
    refine ⟨⟨Nat.le_trans (Nat.succ_le_succ (le_sum (num8 nX kX) (Nat.le_refl 64))) (by decide), Nat.le_trans (Nat.succ_le_succ (le_sum (num8 nX kX) (Nat.le_refl 64))) (by decide)⟩, ?_⟩
    conv => whnf
    refine ⟨⟨Nat.le_trans (le_sum (Nat.succ_le_succ (le_sum (num8 nX kX) (Nat.le_refl 64))) (Nat.succ_le_succ (le_sum (num8 nX kX) (Nat.le_refl 64)))) (by decide), Nat.le_trans (num8 nX kX) (by decide)⟩, ?_⟩
    conv => whnf
    exact fun ρ => bool_sv (decide_eq_true (root_gt hz)) ρ
def lawR : List (FuncId × Dn) := (36, dRoot1) :: lawR0
theorem lawR_ok : AllOk lawR := .cons spRoot1 lawR0_ok
def envR1 : Env := envN 0 lawR rdW fun _ => false
theorem envR1_ok : EOk Tryd.prog envR1 := envN_ok lawR_ok rdW_ok 0 fun _ => false
set_option maxHeartbeats 16000000 in
theorem vcWideRootsA (b0 : Bool) (z0 : Int) (h0 : IR z0) (l0 : List UInt8) (c0 : Nat) (g0 : SliOk false l0.length c0) (m0 : l0.length ≤ 140737488351232) (y1 : Int) (k1 : IR y1) : vcF envR1 (inl envR1 noF 0) Tryd.f10 [.agg [.val (.bool b0), .sli false 0 0 l0.length c0 g0, .int z0 h0], .c (.int y1 k1)] [⟨5, true, bsC l0, 0⟩] fun u _ => ∀ ρ, u.den ρ = (SV.c (.val (.bool true))).den ρ := by
  conv => whnf
  refine ⟨⟨l0, bs_all l0 rfl, rfl, m0⟩, ?_⟩
  conv => whnf
  refine ⟨⟨Nat.le_trans (mk320 _ _) (by decide), Nat.le_trans (mk320 _ _) (by decide)⟩, ?_⟩
  conv => whnf
  refine ⟨⟨Nat.le_trans (le_sum (mk320 _ _) (mk320 _ _)) (by decide), Nat.le_trans (Nat.le_refl 64) (by decide)⟩, ?_⟩
  conv => whnf
  refine ⟨Nat.le_trans (mk320 _ _) (by decide), ?_⟩
  conv => whnf
  refine ⟨Nat.le_trans (Nat.succ_le_succ (le_sum (le_sum (mk320 _ _) (mk320 _ _)) (Nat.le_refl 64))) (by decide), ?_⟩
  conv => whnf
  exact fun _ => rfl
set_option maxHeartbeats 16000000 in
theorem vcWideRootsB (b0 : Bool) (z0 : Int) (h0 : IR z0) (a0 : Option Addr) (y1 : Int) (k1 : IR y1) : vcF envR1 (inl envR1 noF 0) Tryd.f10 [.agg [.val (.bool b0), .val (.slice a0 0 0), .int z0 h0], .c (.int y1 k1)] [] fun u _ => ∀ ρ, u.den ρ = (SV.c (.val (.bool true))).den ρ := by
  conv => whnf
  refine ⟨⟨Nat.le_trans (mk320 _ _) (by decide), Nat.le_trans (mk320 _ _) (by decide)⟩, ?_⟩
  conv => whnf
  refine ⟨⟨Nat.le_trans (le_sum (mk320 _ _) (mk320 _ _)) (by decide), Nat.le_trans (Nat.le_refl 64) (by decide)⟩, ?_⟩
  conv => whnf
  refine ⟨Nat.le_trans (mk320 _ _) (by decide), ?_⟩
  conv => whnf
  refine ⟨Nat.le_trans (Nat.succ_le_succ (le_sum (le_sum (mk320 _ _) (mk320 _ _)) (Nat.le_refl 64))) (by decide), ?_⟩
  conv => whnf
  exact fun _ => rfl
end Go.Proofs.YtbhcmajeoamloaaDoor
