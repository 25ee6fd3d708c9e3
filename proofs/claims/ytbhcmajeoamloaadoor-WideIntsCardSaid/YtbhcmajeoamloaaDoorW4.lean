/- law 01: WideSums, WideRules. -/
import Derived.Test.YtbhcmajeoamloaaDoorW3
namespace Go.Proofs.YtbhcmajeoamloaaDoor
open Go.RowKit
set_option maxRecDepth 100000

theorem mk320 (z : Int) (l : List UInt8) : 8 * (mkS z l).size ≤ 320 := by have := mkS_size z l; omega
theorem z_sub (x : Int) : (x - x).sign = 0 := by rw [Int.sub_self]; rfl
theorem z_sn (x y : Int) : x + y - y = - -x := by omega
theorem z_one (x : Int) : x * 1 = x + 0 := by omega
set_option maxHeartbeats 8000000 in
theorem vcWideSumsAA (b0 : Bool) (z0 : Int) (h0 : IR z0) (l0 : List UInt8) (c0 : Nat) (g0 : SliOk false l0.length c0) (m0 : l0.length ≤ 140737488351232) (b1 : Bool) (z1 : Int) (h1 : IR z1) (l1 : List UInt8) (c1 : Nat) (g1 : SliOk false l1.length c1) (m1 : l1.length ≤ 140737488351232) : vcF envP (inl envP noF 0) Tryd.f8 [.agg [.val (.bool b0), .sli false 0 0 l0.length c0 g0, .int z0 h0], .agg [.val (.bool b1), .sli false 1 0 l1.length c1 g1, .int z1 h1]] [⟨5, true, bsC l0, 0⟩, ⟨5, true, bsC l1, 0⟩] fun u _ => ∀ ρ, u.den ρ = (SV.c (.val (.bool true))).den ρ := by
  conv => whnf
  refine ⟨⟨l0, bs_all l0 rfl, rfl, m0⟩, ?_⟩
  conv => whnf
  refine ⟨⟨l1, bs_all l1 rfl, rfl, m1⟩, ?_⟩
  conv => whnf
  refine ⟨⟨Nat.le_trans (mk320 _ _) (by decide), Nat.le_trans (mk320 _ _) (by decide)⟩, ?_⟩
  conv => whnf
  refine ⟨⟨Nat.le_trans (mk320 _ _) (by decide), Nat.le_trans (mk320 _ _) (by decide)⟩, ?_⟩
  conv => whnf
  refine bcase_true (decide_eq_true (rfl)) ?_
  conv => whnf
  refine ⟨⟨Nat.le_trans (mk320 _ _) (by decide), Nat.le_trans (mk320 _ _) (by decide)⟩, ?_⟩
  conv => whnf
  refine ⟨⟨Nat.le_trans (mk320 _ _) (by decide), Nat.le_trans (mk320 _ _) (by decide)⟩, ?_⟩
  conv => whnf
  refine bcase_true (decide_eq_true (rfl)) ?_
  conv => whnf
  refine ⟨Nat.le_trans (mk320 _ _) (by decide), ?_⟩
  conv => whnf
  refine ⟨Nat.le_trans (mk320 _ _) (by decide), ?_⟩
  conv => whnf
  refine bcase_true (decide_eq_true (rfl)) ?_
  conv => whnf
  refine ⟨Nat.le_trans (mk320 _ _) (by decide), ?_⟩
  conv => whnf
  refine ⟨Nat.le_trans (mk320 _ _) (by decide), ?_⟩
  conv => whnf
  refine bcase_true (decide_eq_true (rfl)) ?_
  conv => whnf
  refine ⟨⟨Nat.le_trans (mk320 _ _) (by decide), Nat.le_trans (mk320 _ _) (by decide)⟩, ?_⟩
  conv => whnf
  refine ⟨⟨Nat.le_trans (mk320 _ _) (by decide), Nat.le_trans (mk320 _ _) (by decide)⟩, ?_⟩
  conv => whnf
  refine bcase_true (decide_eq_true (rfl)) ?_
  conv => whnf
  refine ⟨⟨Nat.le_trans (mk320 _ _) (by decide), Nat.le_trans (mk320 _ _) (by decide)⟩, ?_⟩
  conv => whnf
  exact fun ρ => bool_sv (decide_eq_true (z_sub _)) ρ
set_option maxHeartbeats 8000000 in
theorem vcWideSumsAB (b0 : Bool) (z0 : Int) (h0 : IR z0) (l0 : List UInt8) (c0 : Nat) (g0 : SliOk false l0.length c0) (m0 : l0.length ≤ 140737488351232) (b1 : Bool) (z1 : Int) (h1 : IR z1) (a1 : Option Addr) : vcF envP (inl envP noF 0) Tryd.f8 [.agg [.val (.bool b0), .sli false 0 0 l0.length c0 g0, .int z0 h0], .agg [.val (.bool b1), .val (.slice a1 0 0), .int z1 h1]] [⟨5, true, bsC l0, 0⟩] fun u _ => ∀ ρ, u.den ρ = (SV.c (.val (.bool true))).den ρ := by
  conv => whnf
  refine ⟨⟨l0, bs_all l0 rfl, rfl, m0⟩, ?_⟩
  conv => whnf
  refine ⟨⟨Nat.le_trans (mk320 _ _) (by decide), Nat.le_trans (mk320 _ _) (by decide)⟩, ?_⟩
  conv => whnf
  refine ⟨⟨Nat.le_trans (mk320 _ _) (by decide), Nat.le_trans (mk320 _ _) (by decide)⟩, ?_⟩
  conv => whnf
  refine bcase_true (decide_eq_true (rfl)) ?_
  conv => whnf
  refine ⟨⟨Nat.le_trans (mk320 _ _) (by decide), Nat.le_trans (mk320 _ _) (by decide)⟩, ?_⟩
  conv => whnf
  refine ⟨⟨Nat.le_trans (mk320 _ _) (by decide), Nat.le_trans (mk320 _ _) (by decide)⟩, ?_⟩
  conv => whnf
  refine bcase_true (decide_eq_true (rfl)) ?_
  conv => whnf
  refine ⟨Nat.le_trans (mk320 _ _) (by decide), ?_⟩
  conv => whnf
  refine ⟨Nat.le_trans (mk320 _ _) (by decide), ?_⟩
  conv => whnf
  refine bcase_true (decide_eq_true (rfl)) ?_
  conv => whnf
  refine ⟨Nat.le_trans (mk320 _ _) (by decide), ?_⟩
  conv => whnf
  refine ⟨Nat.le_trans (mk320 _ _) (by decide), ?_⟩
  conv => whnf
  refine bcase_true (decide_eq_true (rfl)) ?_
  conv => whnf
  refine ⟨⟨Nat.le_trans (mk320 _ _) (by decide), Nat.le_trans (mk320 _ _) (by decide)⟩, ?_⟩
  conv => whnf
  refine ⟨⟨Nat.le_trans (mk320 _ _) (by decide), Nat.le_trans (mk320 _ _) (by decide)⟩, ?_⟩
  conv => whnf
  refine bcase_true (decide_eq_true (rfl)) ?_
  conv => whnf
  refine ⟨⟨Nat.le_trans (mk320 _ _) (by decide), Nat.le_trans (mk320 _ _) (by decide)⟩, ?_⟩
  conv => whnf
  exact fun ρ => bool_sv (decide_eq_true (z_sub _)) ρ
set_option maxHeartbeats 8000000 in
theorem vcWideSumsBA (b0 : Bool) (z0 : Int) (h0 : IR z0) (a0 : Option Addr) (b1 : Bool) (z1 : Int) (h1 : IR z1) (l1 : List UInt8) (c1 : Nat) (g1 : SliOk false l1.length c1) (m1 : l1.length ≤ 140737488351232) : vcF envP (inl envP noF 0) Tryd.f8 [.agg [.val (.bool b0), .val (.slice a0 0 0), .int z0 h0], .agg [.val (.bool b1), .sli false 0 0 l1.length c1 g1, .int z1 h1]] [⟨5, true, bsC l1, 0⟩] fun u _ => ∀ ρ, u.den ρ = (SV.c (.val (.bool true))).den ρ := by
  conv => whnf
  refine ⟨⟨l1, bs_all l1 rfl, rfl, m1⟩, ?_⟩
  conv => whnf
  refine ⟨⟨Nat.le_trans (mk320 _ _) (by decide), Nat.le_trans (mk320 _ _) (by decide)⟩, ?_⟩
  conv => whnf
  refine ⟨⟨Nat.le_trans (mk320 _ _) (by decide), Nat.le_trans (mk320 _ _) (by decide)⟩, ?_⟩
  conv => whnf
  refine bcase_true (decide_eq_true (rfl)) ?_
  conv => whnf
  refine ⟨⟨Nat.le_trans (mk320 _ _) (by decide), Nat.le_trans (mk320 _ _) (by decide)⟩, ?_⟩
  conv => whnf
  refine ⟨⟨Nat.le_trans (mk320 _ _) (by decide), Nat.le_trans (mk320 _ _) (by decide)⟩, ?_⟩
  conv => whnf
  refine bcase_true (decide_eq_true (rfl)) ?_
  conv => whnf
  refine ⟨Nat.le_trans (mk320 _ _) (by decide), ?_⟩
  conv => whnf
  refine ⟨Nat.le_trans (mk320 _ _) (by decide), ?_⟩
  conv => whnf
  refine bcase_true (decide_eq_true (rfl)) ?_
  conv => whnf
  refine ⟨Nat.le_trans (mk320 _ _) (by decide), ?_⟩
  conv => whnf
  refine ⟨Nat.le_trans (mk320 _ _) (by decide), ?_⟩
  conv => whnf
  refine bcase_true (decide_eq_true (rfl)) ?_
  conv => whnf
  refine ⟨⟨Nat.le_trans (mk320 _ _) (by decide), Nat.le_trans (mk320 _ _) (by decide)⟩, ?_⟩
  conv => whnf
  refine ⟨⟨Nat.le_trans (mk320 _ _) (by decide), Nat.le_trans (mk320 _ _) (by decide)⟩, ?_⟩
  conv => whnf
  refine bcase_true (decide_eq_true (rfl)) ?_
  conv => whnf
  refine ⟨⟨Nat.le_trans (mk320 _ _) (by decide), Nat.le_trans (mk320 _ _) (by decide)⟩, ?_⟩
  conv => whnf
  exact fun ρ => bool_sv (decide_eq_true (z_sub _)) ρ
set_option maxHeartbeats 8000000 in
theorem vcWideSumsBB (b0 : Bool) (z0 : Int) (h0 : IR z0) (a0 : Option Addr) (b1 : Bool) (z1 : Int) (h1 : IR z1) (a1 : Option Addr) : vcF envP (inl envP noF 0) Tryd.f8 [.agg [.val (.bool b0), .val (.slice a0 0 0), .int z0 h0], .agg [.val (.bool b1), .val (.slice a1 0 0), .int z1 h1]] [] fun u _ => ∀ ρ, u.den ρ = (SV.c (.val (.bool true))).den ρ := by
  conv => whnf
  refine ⟨⟨Nat.le_trans (mk320 _ _) (by decide), Nat.le_trans (mk320 _ _) (by decide)⟩, ?_⟩
  conv => whnf
  refine ⟨⟨Nat.le_trans (mk320 _ _) (by decide), Nat.le_trans (mk320 _ _) (by decide)⟩, ?_⟩
  conv => whnf
  refine bcase_true (decide_eq_true (rfl)) ?_
  conv => whnf
  refine ⟨⟨Nat.le_trans (mk320 _ _) (by decide), Nat.le_trans (mk320 _ _) (by decide)⟩, ?_⟩
  conv => whnf
  refine ⟨⟨Nat.le_trans (mk320 _ _) (by decide), Nat.le_trans (mk320 _ _) (by decide)⟩, ?_⟩
  conv => whnf
  refine bcase_true (decide_eq_true (rfl)) ?_
  conv => whnf
  refine ⟨Nat.le_trans (mk320 _ _) (by decide), ?_⟩
  conv => whnf
  refine ⟨Nat.le_trans (mk320 _ _) (by decide), ?_⟩
  conv => whnf
  refine bcase_true (decide_eq_true (rfl)) ?_
  conv => whnf
  refine ⟨Nat.le_trans (mk320 _ _) (by decide), ?_⟩
  conv => whnf
  refine ⟨Nat.le_trans (mk320 _ _) (by decide), ?_⟩
  conv => whnf
  refine bcase_true (decide_eq_true (rfl)) ?_
  conv => whnf
  refine ⟨⟨Nat.le_trans (mk320 _ _) (by decide), Nat.le_trans (mk320 _ _) (by decide)⟩, ?_⟩
  conv => whnf
  refine ⟨⟨Nat.le_trans (mk320 _ _) (by decide), Nat.le_trans (mk320 _ _) (by decide)⟩, ?_⟩
  conv => whnf
  refine bcase_true (decide_eq_true (rfl)) ?_
  conv => whnf
  refine ⟨⟨Nat.le_trans (mk320 _ _) (by decide), Nat.le_trans (mk320 _ _) (by decide)⟩, ?_⟩
  conv => whnf
  exact fun ρ => bool_sv (decide_eq_true (z_sub _)) ρ
set_option maxHeartbeats 8000000 in
theorem vcWideRulesAAA (b0 : Bool) (z0 : Int) (h0 : IR z0) (l0 : List UInt8) (c0 : Nat) (g0 : SliOk false l0.length c0) (m0 : l0.length ≤ 140737488351232) (b1 : Bool) (z1 : Int) (h1 : IR z1) (l1 : List UInt8) (c1 : Nat) (g1 : SliOk false l1.length c1) (m1 : l1.length ≤ 140737488351232) (b2 : Bool) (z2 : Int) (h2 : IR z2) (l2 : List UInt8) (c2 : Nat) (g2 : SliOk false l2.length c2) (m2 : l2.length ≤ 140737488351232) : vcF envP (inl envP noF 0) Tryd.f7 [.agg [.val (.bool b0), .sli false 0 0 l0.length c0 g0, .int z0 h0], .agg [.val (.bool b1), .sli false 1 0 l1.length c1 g1, .int z1 h1], .agg [.val (.bool b2), .sli false 2 0 l2.length c2 g2, .int z2 h2]] [⟨5, true, bsC l0, 0⟩, ⟨5, true, bsC l1, 0⟩, ⟨5, true, bsC l2, 0⟩] fun u _ => ∀ ρ, u.den ρ = (SV.c (.val (.bool true))).den ρ := by
  conv => whnf
  refine ⟨⟨l0, bs_all l0 rfl, rfl, m0⟩, ?_⟩
  conv => whnf
  refine ⟨⟨l1, bs_all l1 rfl, rfl, m1⟩, ?_⟩
  conv => whnf
  refine ⟨⟨l2, bs_all l2 rfl, rfl, m2⟩, ?_⟩
  conv => whnf
  refine ⟨⟨Nat.le_trans (mk320 _ _) (by decide), Nat.le_trans (mk320 _ _) (by decide)⟩, ?_⟩
  conv => whnf
  refine ⟨⟨Nat.le_trans (mk320 _ _) (by decide), Nat.le_trans (mk320 _ _) (by decide)⟩, ?_⟩
  conv => whnf
  refine bcase_true (decide_eq_true (Int.add_comm _ _)) ?_
  conv => whnf
  refine ⟨⟨Nat.le_trans (mk320 _ _) (by decide), Nat.le_trans (mk320 _ _) (by decide)⟩, ?_⟩
  conv => whnf
  refine ⟨⟨Nat.le_trans (Nat.succ_le_succ (le_sum (mk320 _ _) (mk320 _ _))) (by decide), Nat.le_trans (mk320 _ _) (by decide)⟩, ?_⟩
  conv => whnf
  refine ⟨⟨Nat.le_trans (mk320 _ _) (by decide), Nat.le_trans (mk320 _ _) (by decide)⟩, ?_⟩
  conv => whnf
  refine ⟨⟨Nat.le_trans (mk320 _ _) (by decide), Nat.le_trans (Nat.succ_le_succ (le_sum (mk320 _ _) (mk320 _ _))) (by decide)⟩, ?_⟩
  conv => whnf
  refine bcase_true (decide_eq_true (Int.add_assoc _ _ _)) ?_
  conv => whnf
  refine ⟨Nat.le_trans (mk320 _ _) (by decide), ?_⟩
  conv => whnf
  refine ⟨⟨Nat.le_trans (mk320 _ _) (by decide), Nat.le_trans (mk320 _ _) (by decide)⟩, ?_⟩
  conv => whnf
  refine bcase_true (decide_eq_true (Int.add_right_neg _)) ?_
  conv => whnf
  refine ⟨⟨Nat.le_trans (mk320 _ _) (by decide), Nat.le_trans (mk320 _ _) (by decide)⟩, ?_⟩
  conv => whnf
  refine ⟨⟨Nat.le_trans (Nat.succ_le_succ (le_sum (mk320 _ _) (mk320 _ _))) (by decide), Nat.le_trans (mk320 _ _) (by decide)⟩, ?_⟩
  conv => whnf
  refine ⟨Nat.le_trans (mk320 _ _) (by decide), ?_⟩
  conv => whnf
  refine ⟨Nat.le_trans (mk320 _ _) (by decide), ?_⟩
  conv => whnf
  refine ⟨⟨Nat.le_trans (mk320 _ _) (by decide), Nat.le_trans (mk320 _ _) (by decide)⟩, ?_⟩
  conv => whnf
  refine ⟨⟨Nat.le_trans (mk320 _ _) (by decide), Nat.le_trans (mk320 _ _) (by decide)⟩, ?_⟩
  conv => whnf
  refine bcase_true (decide_eq_true (Int.mul_comm _ _)) ?_
  conv => whnf
  refine ⟨⟨Nat.le_trans (mk320 _ _) (by decide), Nat.le_trans (mk320 _ _) (by decide)⟩, ?_⟩
  conv => whnf
  refine ⟨⟨Nat.le_trans (le_sum (mk320 _ _) (mk320 _ _)) (by decide), Nat.le_trans (mk320 _ _) (by decide)⟩, ?_⟩
  conv => whnf
  refine ⟨⟨Nat.le_trans (mk320 _ _) (by decide), Nat.le_trans (mk320 _ _) (by decide)⟩, ?_⟩
  conv => whnf
  refine ⟨⟨Nat.le_trans (mk320 _ _) (by decide), Nat.le_trans (le_sum (mk320 _ _) (mk320 _ _)) (by decide)⟩, ?_⟩
  conv => whnf
  refine bcase_true (decide_eq_true (Int.mul_assoc _ _ _)) ?_
  conv => whnf
  refine ⟨⟨Nat.le_trans (mk320 _ _) (by decide), Nat.le_trans (Nat.le_refl 64) (by decide)⟩, ?_⟩
  conv => whnf
  refine ⟨⟨Nat.le_trans (mk320 _ _) (by decide), Nat.le_trans (Nat.le_refl 0) (by decide)⟩, ?_⟩
  conv => whnf
  refine bcase_true (decide_eq_true (z_sn _ _)) ?_
  conv => whnf
  refine bcase_true (decide_eq_true (z_one _)) ?_
  conv => whnf
  refine ⟨⟨Nat.le_trans (mk320 _ _) (by decide), Nat.le_trans (mk320 _ _) (by decide)⟩, ?_⟩
  conv => whnf
  refine ⟨⟨Nat.le_trans (mk320 _ _) (by decide), Nat.le_trans (Nat.succ_le_succ (le_sum (mk320 _ _) (mk320 _ _))) (by decide)⟩, ?_⟩
  conv => whnf
  refine ⟨⟨Nat.le_trans (mk320 _ _) (by decide), Nat.le_trans (mk320 _ _) (by decide)⟩, ?_⟩
  conv => whnf
  refine ⟨⟨Nat.le_trans (mk320 _ _) (by decide), Nat.le_trans (mk320 _ _) (by decide)⟩, ?_⟩
  conv => whnf
  refine ⟨⟨Nat.le_trans (le_sum (mk320 _ _) (mk320 _ _)) (by decide), Nat.le_trans (le_sum (mk320 _ _) (mk320 _ _)) (by decide)⟩, ?_⟩
  conv => whnf
  exact fun ρ => bool_sv (decide_eq_true (Int.mul_add _ _ _)) ρ
set_option maxHeartbeats 8000000 in
theorem vcWideRulesAAB (b0 : Bool) (z0 : Int) (h0 : IR z0) (l0 : List UInt8) (c0 : Nat) (g0 : SliOk false l0.length c0) (m0 : l0.length ≤ 140737488351232) (b1 : Bool) (z1 : Int) (h1 : IR z1) (l1 : List UInt8) (c1 : Nat) (g1 : SliOk false l1.length c1) (m1 : l1.length ≤ 140737488351232) (b2 : Bool) (z2 : Int) (h2 : IR z2) (a2 : Option Addr) : vcF envP (inl envP noF 0) Tryd.f7 [.agg [.val (.bool b0), .sli false 0 0 l0.length c0 g0, .int z0 h0], .agg [.val (.bool b1), .sli false 1 0 l1.length c1 g1, .int z1 h1], .agg [.val (.bool b2), .val (.slice a2 0 0), .int z2 h2]] [⟨5, true, bsC l0, 0⟩, ⟨5, true, bsC l1, 0⟩] fun u _ => ∀ ρ, u.den ρ = (SV.c (.val (.bool true))).den ρ := by
  conv => whnf
  refine ⟨⟨l0, bs_all l0 rfl, rfl, m0⟩, ?_⟩
  conv => whnf
  refine ⟨⟨l1, bs_all l1 rfl, rfl, m1⟩, ?_⟩
  conv => whnf
  refine ⟨⟨Nat.le_trans (mk320 _ _) (by decide), Nat.le_trans (mk320 _ _) (by decide)⟩, ?_⟩
  conv => whnf
  refine ⟨⟨Nat.le_trans (mk320 _ _) (by decide), Nat.le_trans (mk320 _ _) (by decide)⟩, ?_⟩
  conv => whnf
  refine bcase_true (decide_eq_true (Int.add_comm _ _)) ?_
  conv => whnf
  refine ⟨⟨Nat.le_trans (mk320 _ _) (by decide), Nat.le_trans (mk320 _ _) (by decide)⟩, ?_⟩
  conv => whnf
  refine ⟨⟨Nat.le_trans (Nat.succ_le_succ (le_sum (mk320 _ _) (mk320 _ _))) (by decide), Nat.le_trans (mk320 _ _) (by decide)⟩, ?_⟩
  conv => whnf
  refine ⟨⟨Nat.le_trans (mk320 _ _) (by decide), Nat.le_trans (mk320 _ _) (by decide)⟩, ?_⟩
  conv => whnf
  refine ⟨⟨Nat.le_trans (mk320 _ _) (by decide), Nat.le_trans (Nat.succ_le_succ (le_sum (mk320 _ _) (mk320 _ _))) (by decide)⟩, ?_⟩
  conv => whnf
  refine bcase_true (decide_eq_true (Int.add_assoc _ _ _)) ?_
  conv => whnf
  refine ⟨Nat.le_trans (mk320 _ _) (by decide), ?_⟩
  conv => whnf
  refine ⟨⟨Nat.le_trans (mk320 _ _) (by decide), Nat.le_trans (mk320 _ _) (by decide)⟩, ?_⟩
  conv => whnf
  refine bcase_true (decide_eq_true (Int.add_right_neg _)) ?_
  conv => whnf
  refine ⟨⟨Nat.le_trans (mk320 _ _) (by decide), Nat.le_trans (mk320 _ _) (by decide)⟩, ?_⟩
  conv => whnf
  refine ⟨⟨Nat.le_trans (Nat.succ_le_succ (le_sum (mk320 _ _) (mk320 _ _))) (by decide), Nat.le_trans (mk320 _ _) (by decide)⟩, ?_⟩
  conv => whnf
  refine ⟨Nat.le_trans (mk320 _ _) (by decide), ?_⟩
  conv => whnf
  refine ⟨Nat.le_trans (mk320 _ _) (by decide), ?_⟩
  conv => whnf
  refine ⟨⟨Nat.le_trans (mk320 _ _) (by decide), Nat.le_trans (mk320 _ _) (by decide)⟩, ?_⟩
  conv => whnf
  refine ⟨⟨Nat.le_trans (mk320 _ _) (by decide), Nat.le_trans (mk320 _ _) (by decide)⟩, ?_⟩
  conv => whnf
  refine bcase_true (decide_eq_true (Int.mul_comm _ _)) ?_
  conv => whnf
  refine ⟨⟨Nat.le_trans (mk320 _ _) (by decide), Nat.le_trans (mk320 _ _) (by decide)⟩, ?_⟩
  conv => whnf
  refine ⟨⟨Nat.le_trans (le_sum (mk320 _ _) (mk320 _ _)) (by decide), Nat.le_trans (mk320 _ _) (by decide)⟩, ?_⟩
  conv => whnf
  refine ⟨⟨Nat.le_trans (mk320 _ _) (by decide), Nat.le_trans (mk320 _ _) (by decide)⟩, ?_⟩
  conv => whnf
  refine ⟨⟨Nat.le_trans (mk320 _ _) (by decide), Nat.le_trans (le_sum (mk320 _ _) (mk320 _ _)) (by decide)⟩, ?_⟩
  conv => whnf
  refine bcase_true (decide_eq_true (Int.mul_assoc _ _ _)) ?_
  conv => whnf
  refine ⟨⟨Nat.le_trans (mk320 _ _) (by decide), Nat.le_trans (Nat.le_refl 64) (by decide)⟩, ?_⟩
  conv => whnf
  refine ⟨⟨Nat.le_trans (mk320 _ _) (by decide), Nat.le_trans (Nat.le_refl 0) (by decide)⟩, ?_⟩
  conv => whnf
  refine bcase_true (decide_eq_true (z_sn _ _)) ?_
  conv => whnf
  refine bcase_true (decide_eq_true (z_one _)) ?_
  conv => whnf
  refine ⟨⟨Nat.le_trans (mk320 _ _) (by decide), Nat.le_trans (mk320 _ _) (by decide)⟩, ?_⟩
  conv => whnf
  refine ⟨⟨Nat.le_trans (mk320 _ _) (by decide), Nat.le_trans (Nat.succ_le_succ (le_sum (mk320 _ _) (mk320 _ _))) (by decide)⟩, ?_⟩
  conv => whnf
  refine ⟨⟨Nat.le_trans (mk320 _ _) (by decide), Nat.le_trans (mk320 _ _) (by decide)⟩, ?_⟩
  conv => whnf
  refine ⟨⟨Nat.le_trans (mk320 _ _) (by decide), Nat.le_trans (mk320 _ _) (by decide)⟩, ?_⟩
  conv => whnf
  refine ⟨⟨Nat.le_trans (le_sum (mk320 _ _) (mk320 _ _)) (by decide), Nat.le_trans (le_sum (mk320 _ _) (mk320 _ _)) (by decide)⟩, ?_⟩
  conv => whnf
  exact fun ρ => bool_sv (decide_eq_true (Int.mul_add _ _ _)) ρ
set_option maxHeartbeats 8000000 in
theorem vcWideRulesABA (b0 : Bool) (z0 : Int) (h0 : IR z0) (l0 : List UInt8) (c0 : Nat) (g0 : SliOk false l0.length c0) (m0 : l0.length ≤ 140737488351232) (b1 : Bool) (z1 : Int) (h1 : IR z1) (a1 : Option Addr) (b2 : Bool) (z2 : Int) (h2 : IR z2) (l2 : List UInt8) (c2 : Nat) (g2 : SliOk false l2.length c2) (m2 : l2.length ≤ 140737488351232) : vcF envP (inl envP noF 0) Tryd.f7 [.agg [.val (.bool b0), .sli false 0 0 l0.length c0 g0, .int z0 h0], .agg [.val (.bool b1), .val (.slice a1 0 0), .int z1 h1], .agg [.val (.bool b2), .sli false 1 0 l2.length c2 g2, .int z2 h2]] [⟨5, true, bsC l0, 0⟩, ⟨5, true, bsC l2, 0⟩] fun u _ => ∀ ρ, u.den ρ = (SV.c (.val (.bool true))).den ρ := by
  conv => whnf
  refine ⟨⟨l0, bs_all l0 rfl, rfl, m0⟩, ?_⟩
  conv => whnf
  refine ⟨⟨l2, bs_all l2 rfl, rfl, m2⟩, ?_⟩
  conv => whnf
  refine ⟨⟨Nat.le_trans (mk320 _ _) (by decide), Nat.le_trans (mk320 _ _) (by decide)⟩, ?_⟩
  conv => whnf
  refine ⟨⟨Nat.le_trans (mk320 _ _) (by decide), Nat.le_trans (mk320 _ _) (by decide)⟩, ?_⟩
  conv => whnf
  refine bcase_true (decide_eq_true (Int.add_comm _ _)) ?_
  conv => whnf
  refine ⟨⟨Nat.le_trans (mk320 _ _) (by decide), Nat.le_trans (mk320 _ _) (by decide)⟩, ?_⟩
  conv => whnf
  refine ⟨⟨Nat.le_trans (Nat.succ_le_succ (le_sum (mk320 _ _) (mk320 _ _))) (by decide), Nat.le_trans (mk320 _ _) (by decide)⟩, ?_⟩
  conv => whnf
  refine ⟨⟨Nat.le_trans (mk320 _ _) (by decide), Nat.le_trans (mk320 _ _) (by decide)⟩, ?_⟩
  conv => whnf
  refine ⟨⟨Nat.le_trans (mk320 _ _) (by decide), Nat.le_trans (Nat.succ_le_succ (le_sum (mk320 _ _) (mk320 _ _))) (by decide)⟩, ?_⟩
  conv => whnf
  refine bcase_true (decide_eq_true (Int.add_assoc _ _ _)) ?_
  conv => whnf
  refine ⟨Nat.le_trans (mk320 _ _) (by decide), ?_⟩
  conv => whnf
  refine ⟨⟨Nat.le_trans (mk320 _ _) (by decide), Nat.le_trans (mk320 _ _) (by decide)⟩, ?_⟩
  conv => whnf
  refine bcase_true (decide_eq_true (Int.add_right_neg _)) ?_
  conv => whnf
  refine ⟨⟨Nat.le_trans (mk320 _ _) (by decide), Nat.le_trans (mk320 _ _) (by decide)⟩, ?_⟩
  conv => whnf
  refine ⟨⟨Nat.le_trans (Nat.succ_le_succ (le_sum (mk320 _ _) (mk320 _ _))) (by decide), Nat.le_trans (mk320 _ _) (by decide)⟩, ?_⟩
  conv => whnf
  refine ⟨Nat.le_trans (mk320 _ _) (by decide), ?_⟩
  conv => whnf
  refine ⟨Nat.le_trans (mk320 _ _) (by decide), ?_⟩
  conv => whnf
  refine ⟨⟨Nat.le_trans (mk320 _ _) (by decide), Nat.le_trans (mk320 _ _) (by decide)⟩, ?_⟩
  conv => whnf
  refine ⟨⟨Nat.le_trans (mk320 _ _) (by decide), Nat.le_trans (mk320 _ _) (by decide)⟩, ?_⟩
  conv => whnf
  refine bcase_true (decide_eq_true (Int.mul_comm _ _)) ?_
  conv => whnf
  refine ⟨⟨Nat.le_trans (mk320 _ _) (by decide), Nat.le_trans (mk320 _ _) (by decide)⟩, ?_⟩
  conv => whnf
  refine ⟨⟨Nat.le_trans (le_sum (mk320 _ _) (mk320 _ _)) (by decide), Nat.le_trans (mk320 _ _) (by decide)⟩, ?_⟩
  conv => whnf
  refine ⟨⟨Nat.le_trans (mk320 _ _) (by decide), Nat.le_trans (mk320 _ _) (by decide)⟩, ?_⟩
  conv => whnf
  refine ⟨⟨Nat.le_trans (mk320 _ _) (by decide), Nat.le_trans (le_sum (mk320 _ _) (mk320 _ _)) (by decide)⟩, ?_⟩
  conv => whnf
  refine bcase_true (decide_eq_true (Int.mul_assoc _ _ _)) ?_
  conv => whnf
  refine ⟨⟨Nat.le_trans (mk320 _ _) (by decide), Nat.le_trans (Nat.le_refl 64) (by decide)⟩, ?_⟩
  conv => whnf
  refine ⟨⟨Nat.le_trans (mk320 _ _) (by decide), Nat.le_trans (Nat.le_refl 0) (by decide)⟩, ?_⟩
  conv => whnf
  refine bcase_true (decide_eq_true (z_sn _ _)) ?_
  conv => whnf
  refine bcase_true (decide_eq_true (z_one _)) ?_
  conv => whnf
  refine ⟨⟨Nat.le_trans (mk320 _ _) (by decide), Nat.le_trans (mk320 _ _) (by decide)⟩, ?_⟩
  conv => whnf
  refine ⟨⟨Nat.le_trans (mk320 _ _) (by decide), Nat.le_trans (Nat.succ_le_succ (le_sum (mk320 _ _) (mk320 _ _))) (by decide)⟩, ?_⟩
  conv => whnf
  refine ⟨⟨Nat.le_trans (mk320 _ _) (by decide), Nat.le_trans (mk320 _ _) (by decide)⟩, ?_⟩
  conv => whnf
  refine ⟨⟨Nat.le_trans (mk320 _ _) (by decide), Nat.le_trans (mk320 _ _) (by decide)⟩, ?_⟩
  conv => whnf
  refine ⟨⟨Nat.le_trans (le_sum (mk320 _ _) (mk320 _ _)) (by decide), Nat.le_trans (le_sum (mk320 _ _) (mk320 _ _)) (by decide)⟩, ?_⟩
  conv => whnf
  exact fun ρ => bool_sv (decide_eq_true (Int.mul_add _ _ _)) ρ
set_option maxHeartbeats 8000000 in
theorem vcWideRulesABB (b0 : Bool) (z0 : Int) (h0 : IR z0) (l0 : List UInt8) (c0 : Nat) (g0 : SliOk false l0.length c0) (m0 : l0.length ≤ 140737488351232) (b1 : Bool) (z1 : Int) (h1 : IR z1) (a1 : Option Addr) (b2 : Bool) (z2 : Int) (h2 : IR z2) (a2 : Option Addr) : vcF envP (inl envP noF 0) Tryd.f7 [.agg [.val (.bool b0), .sli false 0 0 l0.length c0 g0, .int z0 h0], .agg [.val (.bool b1), .val (.slice a1 0 0), .int z1 h1], .agg [.val (.bool b2), .val (.slice a2 0 0), .int z2 h2]] [⟨5, true, bsC l0, 0⟩] fun u _ => ∀ ρ, u.den ρ = (SV.c (.val (.bool true))).den ρ := by
  conv => whnf
  refine ⟨⟨l0, bs_all l0 rfl, rfl, m0⟩, ?_⟩
  conv => whnf
  refine ⟨⟨Nat.le_trans (mk320 _ _) (by decide), Nat.le_trans (mk320 _ _) (by decide)⟩, ?_⟩
  conv => whnf
  refine ⟨⟨Nat.le_trans (mk320 _ _) (by decide), Nat.le_trans (mk320 _ _) (by decide)⟩, ?_⟩
  conv => whnf
  refine bcase_true (decide_eq_true (Int.add_comm _ _)) ?_
  conv => whnf
  refine ⟨⟨Nat.le_trans (mk320 _ _) (by decide), Nat.le_trans (mk320 _ _) (by decide)⟩, ?_⟩
  conv => whnf
  refine ⟨⟨Nat.le_trans (Nat.succ_le_succ (le_sum (mk320 _ _) (mk320 _ _))) (by decide), Nat.le_trans (mk320 _ _) (by decide)⟩, ?_⟩
  conv => whnf
  refine ⟨⟨Nat.le_trans (mk320 _ _) (by decide), Nat.le_trans (mk320 _ _) (by decide)⟩, ?_⟩
  conv => whnf
  refine ⟨⟨Nat.le_trans (mk320 _ _) (by decide), Nat.le_trans (Nat.succ_le_succ (le_sum (mk320 _ _) (mk320 _ _))) (by decide)⟩, ?_⟩
  conv => whnf
  refine bcase_true (decide_eq_true (Int.add_assoc _ _ _)) ?_
  conv => whnf
  refine ⟨Nat.le_trans (mk320 _ _) (by decide), ?_⟩
  conv => whnf
  refine ⟨⟨Nat.le_trans (mk320 _ _) (by decide), Nat.le_trans (mk320 _ _) (by decide)⟩, ?_⟩
  conv => whnf
  refine bcase_true (decide_eq_true (Int.add_right_neg _)) ?_
  conv => whnf
  refine ⟨⟨Nat.le_trans (mk320 _ _) (by decide), Nat.le_trans (mk320 _ _) (by decide)⟩, ?_⟩
  conv => whnf
  refine ⟨⟨Nat.le_trans (Nat.succ_le_succ (le_sum (mk320 _ _) (mk320 _ _))) (by decide), Nat.le_trans (mk320 _ _) (by decide)⟩, ?_⟩
  conv => whnf
  refine ⟨Nat.le_trans (mk320 _ _) (by decide), ?_⟩
  conv => whnf
  refine ⟨Nat.le_trans (mk320 _ _) (by decide), ?_⟩
  conv => whnf
  refine ⟨⟨Nat.le_trans (mk320 _ _) (by decide), Nat.le_trans (mk320 _ _) (by decide)⟩, ?_⟩
  conv => whnf
  refine ⟨⟨Nat.le_trans (mk320 _ _) (by decide), Nat.le_trans (mk320 _ _) (by decide)⟩, ?_⟩
  conv => whnf
  refine bcase_true (decide_eq_true (Int.mul_comm _ _)) ?_
  conv => whnf
  refine ⟨⟨Nat.le_trans (mk320 _ _) (by decide), Nat.le_trans (mk320 _ _) (by decide)⟩, ?_⟩
  conv => whnf
  refine ⟨⟨Nat.le_trans (le_sum (mk320 _ _) (mk320 _ _)) (by decide), Nat.le_trans (mk320 _ _) (by decide)⟩, ?_⟩
  conv => whnf
  refine ⟨⟨Nat.le_trans (mk320 _ _) (by decide), Nat.le_trans (mk320 _ _) (by decide)⟩, ?_⟩
  conv => whnf
  refine ⟨⟨Nat.le_trans (mk320 _ _) (by decide), Nat.le_trans (le_sum (mk320 _ _) (mk320 _ _)) (by decide)⟩, ?_⟩
  conv => whnf
  refine bcase_true (decide_eq_true (Int.mul_assoc _ _ _)) ?_
  conv => whnf
  refine ⟨⟨Nat.le_trans (mk320 _ _) (by decide), Nat.le_trans (Nat.le_refl 64) (by decide)⟩, ?_⟩
  conv => whnf
  refine ⟨⟨Nat.le_trans (mk320 _ _) (by decide), Nat.le_trans (Nat.le_refl 0) (by decide)⟩, ?_⟩
  conv => whnf
  refine bcase_true (decide_eq_true (z_sn _ _)) ?_
  conv => whnf
  refine bcase_true (decide_eq_true (z_one _)) ?_
  conv => whnf
  refine ⟨⟨Nat.le_trans (mk320 _ _) (by decide), Nat.le_trans (mk320 _ _) (by decide)⟩, ?_⟩
  conv => whnf
  refine ⟨⟨Nat.le_trans (mk320 _ _) (by decide), Nat.le_trans (Nat.succ_le_succ (le_sum (mk320 _ _) (mk320 _ _))) (by decide)⟩, ?_⟩
  conv => whnf
  refine ⟨⟨Nat.le_trans (mk320 _ _) (by decide), Nat.le_trans (mk320 _ _) (by decide)⟩, ?_⟩
  conv => whnf
  refine ⟨⟨Nat.le_trans (mk320 _ _) (by decide), Nat.le_trans (mk320 _ _) (by decide)⟩, ?_⟩
  conv => whnf
  refine ⟨⟨Nat.le_trans (le_sum (mk320 _ _) (mk320 _ _)) (by decide), Nat.le_trans (le_sum (mk320 _ _) (mk320 _ _)) (by decide)⟩, ?_⟩
  conv => whnf
  exact fun ρ => bool_sv (decide_eq_true (Int.mul_add _ _ _)) ρ
set_option maxHeartbeats 8000000 in
theorem vcWideRulesBAA (b0 : Bool) (z0 : Int) (h0 : IR z0) (a0 : Option Addr) (b1 : Bool) (z1 : Int) (h1 : IR z1) (l1 : List UInt8) (c1 : Nat) (g1 : SliOk false l1.length c1) (m1 : l1.length ≤ 140737488351232) (b2 : Bool) (z2 : Int) (h2 : IR z2) (l2 : List UInt8) (c2 : Nat) (g2 : SliOk false l2.length c2) (m2 : l2.length ≤ 140737488351232) : vcF envP (inl envP noF 0) Tryd.f7 [.agg [.val (.bool b0), .val (.slice a0 0 0), .int z0 h0], .agg [.val (.bool b1), .sli false 0 0 l1.length c1 g1, .int z1 h1], .agg [.val (.bool b2), .sli false 1 0 l2.length c2 g2, .int z2 h2]] [⟨5, true, bsC l1, 0⟩, ⟨5, true, bsC l2, 0⟩] fun u _ => ∀ ρ, u.den ρ = (SV.c (.val (.bool true))).den ρ := by
  conv => whnf
  refine ⟨⟨l1, bs_all l1 rfl, rfl, m1⟩, ?_⟩
  conv => whnf
  refine ⟨⟨l2, bs_all l2 rfl, rfl, m2⟩, ?_⟩
  conv => whnf
  refine ⟨⟨Nat.le_trans (mk320 _ _) (by decide), Nat.le_trans (mk320 _ _) (by decide)⟩, ?_⟩
  conv => whnf
  refine ⟨⟨Nat.le_trans (mk320 _ _) (by decide), Nat.le_trans (mk320 _ _) (by decide)⟩, ?_⟩
  conv => whnf
  refine bcase_true (decide_eq_true (Int.add_comm _ _)) ?_
  conv => whnf
  refine ⟨⟨Nat.le_trans (mk320 _ _) (by decide), Nat.le_trans (mk320 _ _) (by decide)⟩, ?_⟩
  conv => whnf
  refine ⟨⟨Nat.le_trans (Nat.succ_le_succ (le_sum (mk320 _ _) (mk320 _ _))) (by decide), Nat.le_trans (mk320 _ _) (by decide)⟩, ?_⟩
  conv => whnf
  refine ⟨⟨Nat.le_trans (mk320 _ _) (by decide), Nat.le_trans (mk320 _ _) (by decide)⟩, ?_⟩
  conv => whnf
  refine ⟨⟨Nat.le_trans (mk320 _ _) (by decide), Nat.le_trans (Nat.succ_le_succ (le_sum (mk320 _ _) (mk320 _ _))) (by decide)⟩, ?_⟩
  conv => whnf
  refine bcase_true (decide_eq_true (Int.add_assoc _ _ _)) ?_
  conv => whnf
  refine ⟨Nat.le_trans (mk320 _ _) (by decide), ?_⟩
  conv => whnf
  refine ⟨⟨Nat.le_trans (mk320 _ _) (by decide), Nat.le_trans (mk320 _ _) (by decide)⟩, ?_⟩
  conv => whnf
  refine bcase_true (decide_eq_true (Int.add_right_neg _)) ?_
  conv => whnf
  refine ⟨⟨Nat.le_trans (mk320 _ _) (by decide), Nat.le_trans (mk320 _ _) (by decide)⟩, ?_⟩
  conv => whnf
  refine ⟨⟨Nat.le_trans (Nat.succ_le_succ (le_sum (mk320 _ _) (mk320 _ _))) (by decide), Nat.le_trans (mk320 _ _) (by decide)⟩, ?_⟩
  conv => whnf
  refine ⟨Nat.le_trans (mk320 _ _) (by decide), ?_⟩
  conv => whnf
  refine ⟨Nat.le_trans (mk320 _ _) (by decide), ?_⟩
  conv => whnf
  refine ⟨⟨Nat.le_trans (mk320 _ _) (by decide), Nat.le_trans (mk320 _ _) (by decide)⟩, ?_⟩
  conv => whnf
  refine ⟨⟨Nat.le_trans (mk320 _ _) (by decide), Nat.le_trans (mk320 _ _) (by decide)⟩, ?_⟩
  conv => whnf
  refine bcase_true (decide_eq_true (Int.mul_comm _ _)) ?_
  conv => whnf
  refine ⟨⟨Nat.le_trans (mk320 _ _) (by decide), Nat.le_trans (mk320 _ _) (by decide)⟩, ?_⟩
  conv => whnf
  refine ⟨⟨Nat.le_trans (le_sum (mk320 _ _) (mk320 _ _)) (by decide), Nat.le_trans (mk320 _ _) (by decide)⟩, ?_⟩
  conv => whnf
  refine ⟨⟨Nat.le_trans (mk320 _ _) (by decide), Nat.le_trans (mk320 _ _) (by decide)⟩, ?_⟩
  conv => whnf
  refine ⟨⟨Nat.le_trans (mk320 _ _) (by decide), Nat.le_trans (le_sum (mk320 _ _) (mk320 _ _)) (by decide)⟩, ?_⟩
  conv => whnf
  refine bcase_true (decide_eq_true (Int.mul_assoc _ _ _)) ?_
  conv => whnf
  refine ⟨⟨Nat.le_trans (mk320 _ _) (by decide), Nat.le_trans (Nat.le_refl 64) (by decide)⟩, ?_⟩
  conv => whnf
  refine ⟨⟨Nat.le_trans (mk320 _ _) (by decide), Nat.le_trans (Nat.le_refl 0) (by decide)⟩, ?_⟩
  conv => whnf
  refine bcase_true (decide_eq_true (z_sn _ _)) ?_
  conv => whnf
  refine bcase_true (decide_eq_true (z_one _)) ?_
  conv => whnf
  refine ⟨⟨Nat.le_trans (mk320 _ _) (by decide), Nat.le_trans (mk320 _ _) (by decide)⟩, ?_⟩
  conv => whnf
  refine ⟨⟨Nat.le_trans (mk320 _ _) (by decide), Nat.le_trans (Nat.succ_le_succ (le_sum (mk320 _ _) (mk320 _ _))) (by decide)⟩, ?_⟩
  conv => whnf
  refine ⟨⟨Nat.le_trans (mk320 _ _) (by decide), Nat.le_trans (mk320 _ _) (by decide)⟩, ?_⟩
  conv => whnf
  refine ⟨⟨Nat.le_trans (mk320 _ _) (by decide), Nat.le_trans (mk320 _ _) (by decide)⟩, ?_⟩
  conv => whnf
  refine ⟨⟨Nat.le_trans (le_sum (mk320 _ _) (mk320 _ _)) (by decide), Nat.le_trans (le_sum (mk320 _ _) (mk320 _ _)) (by decide)⟩, ?_⟩
  conv => whnf
  exact fun ρ => bool_sv (decide_eq_true (Int.mul_add _ _ _)) ρ
set_option maxHeartbeats 8000000 in
theorem vcWideRulesBAB (b0 : Bool) (z0 : Int) (h0 : IR z0) (a0 : Option Addr) (b1 : Bool) (z1 : Int) (h1 : IR z1) (l1 : List UInt8) (c1 : Nat) (g1 : SliOk false l1.length c1) (m1 : l1.length ≤ 140737488351232) (b2 : Bool) (z2 : Int) (h2 : IR z2) (a2 : Option Addr) : vcF envP (inl envP noF 0) Tryd.f7 [.agg [.val (.bool b0), .val (.slice a0 0 0), .int z0 h0], .agg [.val (.bool b1), .sli false 0 0 l1.length c1 g1, .int z1 h1], .agg [.val (.bool b2), .val (.slice a2 0 0), .int z2 h2]] [⟨5, true, bsC l1, 0⟩] fun u _ => ∀ ρ, u.den ρ = (SV.c (.val (.bool true))).den ρ := by
  conv => whnf
  refine ⟨⟨l1, bs_all l1 rfl, rfl, m1⟩, ?_⟩
  conv => whnf
  refine ⟨⟨Nat.le_trans (mk320 _ _) (by decide), Nat.le_trans (mk320 _ _) (by decide)⟩, ?_⟩
  conv => whnf
  refine ⟨⟨Nat.le_trans (mk320 _ _) (by decide), Nat.le_trans (mk320 _ _) (by decide)⟩, ?_⟩
  conv => whnf
  refine bcase_true (decide_eq_true (Int.add_comm _ _)) ?_
  conv => whnf
  refine ⟨⟨Nat.le_trans (mk320 _ _) (by decide), Nat.le_trans (mk320 _ _) (by decide)⟩, ?_⟩
  conv => whnf
  refine ⟨⟨Nat.le_trans (Nat.succ_le_succ (le_sum (mk320 _ _) (mk320 _ _))) (by decide), Nat.le_trans (mk320 _ _) (by decide)⟩, ?_⟩
  conv => whnf
  refine ⟨⟨Nat.le_trans (mk320 _ _) (by decide), Nat.le_trans (mk320 _ _) (by decide)⟩, ?_⟩
  conv => whnf
  refine ⟨⟨Nat.le_trans (mk320 _ _) (by decide), Nat.le_trans (Nat.succ_le_succ (le_sum (mk320 _ _) (mk320 _ _))) (by decide)⟩, ?_⟩
  conv => whnf
  refine bcase_true (decide_eq_true (Int.add_assoc _ _ _)) ?_
  conv => whnf
  refine ⟨Nat.le_trans (mk320 _ _) (by decide), ?_⟩
  conv => whnf
  refine ⟨⟨Nat.le_trans (mk320 _ _) (by decide), Nat.le_trans (mk320 _ _) (by decide)⟩, ?_⟩
  conv => whnf
  refine bcase_true (decide_eq_true (Int.add_right_neg _)) ?_
  conv => whnf
  refine ⟨⟨Nat.le_trans (mk320 _ _) (by decide), Nat.le_trans (mk320 _ _) (by decide)⟩, ?_⟩
  conv => whnf
  refine ⟨⟨Nat.le_trans (Nat.succ_le_succ (le_sum (mk320 _ _) (mk320 _ _))) (by decide), Nat.le_trans (mk320 _ _) (by decide)⟩, ?_⟩
  conv => whnf
  refine ⟨Nat.le_trans (mk320 _ _) (by decide), ?_⟩
  conv => whnf
  refine ⟨Nat.le_trans (mk320 _ _) (by decide), ?_⟩
  conv => whnf
  refine ⟨⟨Nat.le_trans (mk320 _ _) (by decide), Nat.le_trans (mk320 _ _) (by decide)⟩, ?_⟩
  conv => whnf
  refine ⟨⟨Nat.le_trans (mk320 _ _) (by decide), Nat.le_trans (mk320 _ _) (by decide)⟩, ?_⟩
  conv => whnf
  refine bcase_true (decide_eq_true (Int.mul_comm _ _)) ?_
  conv => whnf
  refine ⟨⟨Nat.le_trans (mk320 _ _) (by decide), Nat.le_trans (mk320 _ _) (by decide)⟩, ?_⟩
  conv => whnf
  refine ⟨⟨Nat.le_trans (le_sum (mk320 _ _) (mk320 _ _)) (by decide), Nat.le_trans (mk320 _ _) (by decide)⟩, ?_⟩
  conv => whnf
  refine ⟨⟨Nat.le_trans (mk320 _ _) (by decide), Nat.le_trans (mk320 _ _) (by decide)⟩, ?_⟩
  conv => whnf
  refine ⟨⟨Nat.le_trans (mk320 _ _) (by decide), Nat.le_trans (le_sum (mk320 _ _) (mk320 _ _)) (by decide)⟩, ?_⟩
  conv => whnf
  refine bcase_true (decide_eq_true (Int.mul_assoc _ _ _)) ?_
  conv => whnf
  refine ⟨⟨Nat.le_trans (mk320 _ _) (by decide), Nat.le_trans (Nat.le_refl 64) (by decide)⟩, ?_⟩
  conv => whnf
  refine ⟨⟨Nat.le_trans (mk320 _ _) (by decide), Nat.le_trans (Nat.le_refl 0) (by decide)⟩, ?_⟩
  conv => whnf
  refine bcase_true (decide_eq_true (z_sn _ _)) ?_
  conv => whnf
  refine bcase_true (decide_eq_true (z_one _)) ?_
  conv => whnf
  refine ⟨⟨Nat.le_trans (mk320 _ _) (by decide), Nat.le_trans (mk320 _ _) (by decide)⟩, ?_⟩
  conv => whnf
  refine ⟨⟨Nat.le_trans (mk320 _ _) (by decide), Nat.le_trans (Nat.succ_le_succ (le_sum (mk320 _ _) (mk320 _ _))) (by decide)⟩, ?_⟩
  conv => whnf
  refine ⟨⟨Nat.le_trans (mk320 _ _) (by decide), Nat.le_trans (mk320 _ _) (by decide)⟩, ?_⟩
  conv => whnf
  refine ⟨⟨Nat.le_trans (mk320 _ _) (by decide), Nat.le_trans (mk320 _ _) (by decide)⟩, ?_⟩
  conv => whnf
  refine ⟨⟨Nat.le_trans (le_sum (mk320 _ _) (mk320 _ _)) (by decide), Nat.le_trans (le_sum (mk320 _ _) (mk320 _ _)) (by decide)⟩, ?_⟩
  conv => whnf
  exact fun ρ => bool_sv (decide_eq_true (Int.mul_add _ _ _)) ρ
set_option maxHeartbeats 8000000 in
theorem vcWideRulesBBA (b0 : Bool) (z0 : Int) (h0 : IR z0) (a0 : Option Addr) (b1 : Bool) (z1 : Int) (h1 : IR z1) (a1 : Option Addr) (b2 : Bool) (z2 : Int) (h2 : IR z2) (l2 : List UInt8) (c2 : Nat) (g2 : SliOk false l2.length c2) (m2 : l2.length ≤ 140737488351232) : vcF envP (inl envP noF 0) Tryd.f7 [.agg [.val (.bool b0), .val (.slice a0 0 0), .int z0 h0], .agg [.val (.bool b1), .val (.slice a1 0 0), .int z1 h1], .agg [.val (.bool b2), .sli false 0 0 l2.length c2 g2, .int z2 h2]] [⟨5, true, bsC l2, 0⟩] fun u _ => ∀ ρ, u.den ρ = (SV.c (.val (.bool true))).den ρ := by
  conv => whnf
  refine ⟨⟨l2, bs_all l2 rfl, rfl, m2⟩, ?_⟩
  conv => whnf
  refine ⟨⟨Nat.le_trans (mk320 _ _) (by decide), Nat.le_trans (mk320 _ _) (by decide)⟩, ?_⟩
  conv => whnf
  refine ⟨⟨Nat.le_trans (mk320 _ _) (by decide), Nat.le_trans (mk320 _ _) (by decide)⟩, ?_⟩
  conv => whnf
  refine bcase_true (decide_eq_true (Int.add_comm _ _)) ?_
  conv => whnf
  refine ⟨⟨Nat.le_trans (mk320 _ _) (by decide), Nat.le_trans (mk320 _ _) (by decide)⟩, ?_⟩
  conv => whnf
  refine ⟨⟨Nat.le_trans (Nat.succ_le_succ (le_sum (mk320 _ _) (mk320 _ _))) (by decide), Nat.le_trans (mk320 _ _) (by decide)⟩, ?_⟩
  conv => whnf
  refine ⟨⟨Nat.le_trans (mk320 _ _) (by decide), Nat.le_trans (mk320 _ _) (by decide)⟩, ?_⟩
  conv => whnf
  refine ⟨⟨Nat.le_trans (mk320 _ _) (by decide), Nat.le_trans (Nat.succ_le_succ (le_sum (mk320 _ _) (mk320 _ _))) (by decide)⟩, ?_⟩
  conv => whnf
  refine bcase_true (decide_eq_true (Int.add_assoc _ _ _)) ?_
  conv => whnf
  refine ⟨Nat.le_trans (mk320 _ _) (by decide), ?_⟩
  conv => whnf
  refine ⟨⟨Nat.le_trans (mk320 _ _) (by decide), Nat.le_trans (mk320 _ _) (by decide)⟩, ?_⟩
  conv => whnf
  refine bcase_true (decide_eq_true (Int.add_right_neg _)) ?_
  conv => whnf
  refine ⟨⟨Nat.le_trans (mk320 _ _) (by decide), Nat.le_trans (mk320 _ _) (by decide)⟩, ?_⟩
  conv => whnf
  refine ⟨⟨Nat.le_trans (Nat.succ_le_succ (le_sum (mk320 _ _) (mk320 _ _))) (by decide), Nat.le_trans (mk320 _ _) (by decide)⟩, ?_⟩
  conv => whnf
  refine ⟨Nat.le_trans (mk320 _ _) (by decide), ?_⟩
  conv => whnf
  refine ⟨Nat.le_trans (mk320 _ _) (by decide), ?_⟩
  conv => whnf
  refine ⟨⟨Nat.le_trans (mk320 _ _) (by decide), Nat.le_trans (mk320 _ _) (by decide)⟩, ?_⟩
  conv => whnf
  refine ⟨⟨Nat.le_trans (mk320 _ _) (by decide), Nat.le_trans (mk320 _ _) (by decide)⟩, ?_⟩
  conv => whnf
  refine bcase_true (decide_eq_true (Int.mul_comm _ _)) ?_
  conv => whnf
  refine ⟨⟨Nat.le_trans (mk320 _ _) (by decide), Nat.le_trans (mk320 _ _) (by decide)⟩, ?_⟩
  conv => whnf
  refine ⟨⟨Nat.le_trans (le_sum (mk320 _ _) (mk320 _ _)) (by decide), Nat.le_trans (mk320 _ _) (by decide)⟩, ?_⟩
  conv => whnf
  refine ⟨⟨Nat.le_trans (mk320 _ _) (by decide), Nat.le_trans (mk320 _ _) (by decide)⟩, ?_⟩
  conv => whnf
  refine ⟨⟨Nat.le_trans (mk320 _ _) (by decide), Nat.le_trans (le_sum (mk320 _ _) (mk320 _ _)) (by decide)⟩, ?_⟩
  conv => whnf
  refine bcase_true (decide_eq_true (Int.mul_assoc _ _ _)) ?_
  conv => whnf
  refine ⟨⟨Nat.le_trans (mk320 _ _) (by decide), Nat.le_trans (Nat.le_refl 64) (by decide)⟩, ?_⟩
  conv => whnf
  refine ⟨⟨Nat.le_trans (mk320 _ _) (by decide), Nat.le_trans (Nat.le_refl 0) (by decide)⟩, ?_⟩
  conv => whnf
  refine bcase_true (decide_eq_true (z_sn _ _)) ?_
  conv => whnf
  refine bcase_true (decide_eq_true (z_one _)) ?_
  conv => whnf
  refine ⟨⟨Nat.le_trans (mk320 _ _) (by decide), Nat.le_trans (mk320 _ _) (by decide)⟩, ?_⟩
  conv => whnf
  refine ⟨⟨Nat.le_trans (mk320 _ _) (by decide), Nat.le_trans (Nat.succ_le_succ (le_sum (mk320 _ _) (mk320 _ _))) (by decide)⟩, ?_⟩
  conv => whnf
  refine ⟨⟨Nat.le_trans (mk320 _ _) (by decide), Nat.le_trans (mk320 _ _) (by decide)⟩, ?_⟩
  conv => whnf
  refine ⟨⟨Nat.le_trans (mk320 _ _) (by decide), Nat.le_trans (mk320 _ _) (by decide)⟩, ?_⟩
  conv => whnf
  refine ⟨⟨Nat.le_trans (le_sum (mk320 _ _) (mk320 _ _)) (by decide), Nat.le_trans (le_sum (mk320 _ _) (mk320 _ _)) (by decide)⟩, ?_⟩
  conv => whnf
  exact fun ρ => bool_sv (decide_eq_true (Int.mul_add _ _ _)) ρ
set_option maxHeartbeats 8000000 in
theorem vcWideRulesBBB (b0 : Bool) (z0 : Int) (h0 : IR z0) (a0 : Option Addr) (b1 : Bool) (z1 : Int) (h1 : IR z1) (a1 : Option Addr) (b2 : Bool) (z2 : Int) (h2 : IR z2) (a2 : Option Addr) : vcF envP (inl envP noF 0) Tryd.f7 [.agg [.val (.bool b0), .val (.slice a0 0 0), .int z0 h0], .agg [.val (.bool b1), .val (.slice a1 0 0), .int z1 h1], .agg [.val (.bool b2), .val (.slice a2 0 0), .int z2 h2]] [] fun u _ => ∀ ρ, u.den ρ = (SV.c (.val (.bool true))).den ρ := by
  conv => whnf
  refine ⟨⟨Nat.le_trans (mk320 _ _) (by decide), Nat.le_trans (mk320 _ _) (by decide)⟩, ?_⟩
  conv => whnf
  refine ⟨⟨Nat.le_trans (mk320 _ _) (by decide), Nat.le_trans (mk320 _ _) (by decide)⟩, ?_⟩
  conv => whnf
  refine bcase_true (decide_eq_true (Int.add_comm _ _)) ?_
  conv => whnf
  refine ⟨⟨Nat.le_trans (mk320 _ _) (by decide), Nat.le_trans (mk320 _ _) (by decide)⟩, ?_⟩
  conv => whnf
  refine ⟨⟨Nat.le_trans (Nat.succ_le_succ (le_sum (mk320 _ _) (mk320 _ _))) (by decide), Nat.le_trans (mk320 _ _) (by decide)⟩, ?_⟩
  conv => whnf
  refine ⟨⟨Nat.le_trans (mk320 _ _) (by decide), Nat.le_trans (mk320 _ _) (by decide)⟩, ?_⟩
  conv => whnf
  refine ⟨⟨Nat.le_trans (mk320 _ _) (by decide), Nat.le_trans (Nat.succ_le_succ (le_sum (mk320 _ _) (mk320 _ _))) (by decide)⟩, ?_⟩
  conv => whnf
  refine bcase_true (decide_eq_true (Int.add_assoc _ _ _)) ?_
  conv => whnf
  refine ⟨Nat.le_trans (mk320 _ _) (by decide), ?_⟩
  conv => whnf
  refine ⟨⟨Nat.le_trans (mk320 _ _) (by decide), Nat.le_trans (mk320 _ _) (by decide)⟩, ?_⟩
  conv => whnf
  refine bcase_true (decide_eq_true (Int.add_right_neg _)) ?_
  conv => whnf
  refine ⟨⟨Nat.le_trans (mk320 _ _) (by decide), Nat.le_trans (mk320 _ _) (by decide)⟩, ?_⟩
  conv => whnf
  refine ⟨⟨Nat.le_trans (Nat.succ_le_succ (le_sum (mk320 _ _) (mk320 _ _))) (by decide), Nat.le_trans (mk320 _ _) (by decide)⟩, ?_⟩
  conv => whnf
  refine ⟨Nat.le_trans (mk320 _ _) (by decide), ?_⟩
  conv => whnf
  refine ⟨Nat.le_trans (mk320 _ _) (by decide), ?_⟩
  conv => whnf
  refine ⟨⟨Nat.le_trans (mk320 _ _) (by decide), Nat.le_trans (mk320 _ _) (by decide)⟩, ?_⟩
  conv => whnf
  refine ⟨⟨Nat.le_trans (mk320 _ _) (by decide), Nat.le_trans (mk320 _ _) (by decide)⟩, ?_⟩
  conv => whnf
  refine bcase_true (decide_eq_true (Int.mul_comm _ _)) ?_
  conv => whnf
  refine ⟨⟨Nat.le_trans (mk320 _ _) (by decide), Nat.le_trans (mk320 _ _) (by decide)⟩, ?_⟩
  conv => whnf
  refine ⟨⟨Nat.le_trans (le_sum (mk320 _ _) (mk320 _ _)) (by decide), Nat.le_trans (mk320 _ _) (by decide)⟩, ?_⟩
  conv => whnf
  refine ⟨⟨Nat.le_trans (mk320 _ _) (by decide), Nat.le_trans (mk320 _ _) (by decide)⟩, ?_⟩
  conv => whnf
  refine ⟨⟨Nat.le_trans (mk320 _ _) (by decide), Nat.le_trans (le_sum (mk320 _ _) (mk320 _ _)) (by decide)⟩, ?_⟩
  conv => whnf
  refine bcase_true (decide_eq_true (Int.mul_assoc _ _ _)) ?_
  conv => whnf
  refine ⟨⟨Nat.le_trans (mk320 _ _) (by decide), Nat.le_trans (Nat.le_refl 64) (by decide)⟩, ?_⟩
  conv => whnf
  refine ⟨⟨Nat.le_trans (mk320 _ _) (by decide), Nat.le_trans (Nat.le_refl 0) (by decide)⟩, ?_⟩
  conv => whnf
  refine bcase_true (decide_eq_true (z_sn _ _)) ?_
  conv => whnf
  refine bcase_true (decide_eq_true (z_one _)) ?_
  conv => whnf
  refine ⟨⟨Nat.le_trans (mk320 _ _) (by decide), Nat.le_trans (mk320 _ _) (by decide)⟩, ?_⟩
  conv => whnf
  refine ⟨⟨Nat.le_trans (mk320 _ _) (by decide), Nat.le_trans (Nat.succ_le_succ (le_sum (mk320 _ _) (mk320 _ _))) (by decide)⟩, ?_⟩
  conv => whnf
  refine ⟨⟨Nat.le_trans (mk320 _ _) (by decide), Nat.le_trans (mk320 _ _) (by decide)⟩, ?_⟩
  conv => whnf
  refine ⟨⟨Nat.le_trans (mk320 _ _) (by decide), Nat.le_trans (mk320 _ _) (by decide)⟩, ?_⟩
  conv => whnf
  refine ⟨⟨Nat.le_trans (le_sum (mk320 _ _) (mk320 _ _)) (by decide), Nat.le_trans (le_sum (mk320 _ _) (mk320 _ _)) (by decide)⟩, ?_⟩
  conv => whnf
  exact fun ρ => bool_sv (decide_eq_true (Int.mul_add _ _ _)) ρ
end Go.Proofs.YtbhcmajeoamloaaDoor
