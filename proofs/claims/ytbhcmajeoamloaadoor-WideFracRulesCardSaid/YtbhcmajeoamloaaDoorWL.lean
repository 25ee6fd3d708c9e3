/- law 01: WideFracs, WideFracRules. -/
import Derived.Test.YtbhcmajeoamloaaDoorWH
import Derived.Test.YtbhcmajeoamloaaDoorFrR
namespace Go.Proofs.YtbhcmajeoamloaaDoor
open Go.RowKit
set_option maxRecDepth 100000

def lawF : List (FuncId × Dn) := (39, dFracA) :: (41, dCmpFrac) :: (43, dAddFrac) :: (45, dMulFrac) :: lawP
theorem lawF_ok : AllOk lawF := .cons spRFracA <| .cons spRCmpFrac <| .cons spRAddFrac <| .cons spRMulFrac lawP_ok
def rdF : List (FuncId × Dr) := (37, dFracX) :: rdW
theorem rdF_ok : AllR rdF := .cons spFracX rdW_ok
def envG : Env := envN 0 lawF rdF fun _ => false
theorem envG_ok : EOk Tryd.prog envG := envN_ok lawF_ok rdF_ok 0 fun _ => false
theorem one_num {b : Bool} {c : C} {z : Int} {hz : IR z} {l : List C} (hc : c.one = true) (h : allOne l = true) : allOne (.val (.bool b) :: c :: .int z hz :: l) = true := by
  show (true && (c.one && (true && allOne l))) = true
  rw [hc, h]; rfl
theorem take_one {x : C} {l : List C} {n : Nat} (h : x.n = 1) : takeC (n + 1) (x :: l) = (match takeC n l with | some (a, b) => some (x :: a, b) | none => none) := by
  show (if x.n ≤ n + 1 then (match takeC (n + 1 - x.n) l with | some (a, b) => some (x :: a, b) | none => none) else none) = _
  rw [h, if_pos (by omega), Nat.add_sub_cancel]
theorem sub_hd {b : Bool} {c : C} {z : Int} {hz : IR z} {l : List C} (hc : c.n = 1) : subC (.val (.bool b) :: c :: .int z hz :: l) 0 3 = some [.val (.bool b), c, .int z hz] := by
  have e : takeC 3 (.val (.bool b) :: c :: .int z hz :: l) = some ([.val (.bool b), c, .int z hz], l) := by
    rw [take_one rfl, take_one hc, take_one rfl, show takeC 0 l = some ([], l) by cases l <;> rfl]
  show (match takeC 3 (.val (.bool b) :: c :: .int z hz :: l) with | some (m, _) => some m | none => none) = _
  rw [e]
theorem sub_tl {b : Bool} {c : C} {z : Int} {hz : IR z} {l m : List C} {k : Nat} (hc : c.n = 1) (h : subC l k 3 = some m) : subC (.val (.bool b) :: c :: .int z hz :: l) (k + 3) 3 = some m := by
  unfold subC at h ⊢
  rw [take_one rfl, take_one hc, take_one rfl]
  cases ht : takeC k l with
  | none => rw [ht] at h; cases h
  | some p => rw [ht] at h; exact h
set_option maxHeartbeats 16000000 in
theorem vcWideFracs (b0 : Bool) (z0 : Int) (h0 : IR z0) (c0 : C) (l0 : List UInt8) (k0 : ChOk 0 c0 l0) (b1 : Bool) (z1 : Int) (h1 : IR z1) (c1 : C) (l1 : List UInt8) (k1 : ChOk 1 c1 l1) (b2 : Bool) (z2 : Int) (h2 : IR z2) (c2 : C) (l2 : List UInt8) (k2 : ChOk 2 c2 l2) (b3 : Bool) (z3 : Int) (h3 : IR z3) (c3 : C) (l3 : List UInt8) (k3 : ChOk 3 c3 l3) : vcF envG (inl envG noF 0) Tryd.f11 [.agg [.val (.bool b0), c0, .int z0 h0, .val (.bool b1), c1, .int z1 h1], .agg [.val (.bool b2), c2, .int z2 h2, .val (.bool b3), c3, .int z3 h3]] [⟨5, true, bsC l0, 0⟩, ⟨5, true, bsC l1, 0⟩, ⟨5, true, bsC l2, 0⟩, ⟨5, true, bsC l3, 0⟩] fun u _ => ∀ ρ, u.den ρ = (SV.c (.val (.bool true))).den ρ := by
  conv => whnf
  obtain ⟨L0, hL0⟩ : ∃ L, L = [C.val (.bool b0), c0, .int z0 h0, C.val (.bool b1), c1, .int z1 h1] := ⟨_, rfl⟩
  conv =>
    arg 2
    tactic' =>
      apply eff_box (l := L0) (ho := ?how9) (hx := ?hxw9) (h1 := ?h1w9)
      case how9 => rfl
      case hxw9 => exact congrArg some hL0.symm
      case h1w9 => exact (by rw [hL0]; exact (one_num k0.one (one_num k1.one rfl)))
  conv => whnf
  rw [forceL_eq]
  conv => whnf
  obtain ⟨L2, hL2⟩ : ∃ L, L = [C.val (.bool b2), c2, .int z2 h2, C.val (.bool b3), c3, .int z3 h3] := ⟨_, rfl⟩
  conv =>
    arg 2
    tactic' =>
      apply eff_box (l := L2) (ho := ?how10) (hx := ?hxw10) (h1 := ?h1w10)
      case how10 => rfl
      case hxw10 => exact congrArg some hL2.symm
      case h1w10 => exact (by rw [hL2]; exact (one_num k2.one (one_num k3.one rfl)))
  conv => whnf
  rw [forceL_eq]
  conv => whnf
  obtain ⟨M0, hM0⟩ : ∃ M, M = [C.val (.bool b0), c0, .int z0 h0] := ⟨_, rfl⟩
  conv =>
    arg 2
    tactic' =>
      apply eff_load_sub (m := M0) (ho := ?how11) (hT := ?hTw11) (hx := ?hxw11) (hb := ?hbw11) (hm := ?hmw11) (hv := ?hvw11)
      case how11 => rfl
      case hTw11 => rfl
      case hxw11 => rfl
      case hbw11 => rfl
      case hmw11 => exact (by rw [hM0, hL0]; exact (sub_hd k0.n))
      case hvw11 => rfl
  conv => whnf
  rw [forceL_eq]
  subst hM0
  conv => whnf
  obtain ⟨M2, hM2⟩ : ∃ M, M = [C.val (.bool b2), c2, .int z2 h2] := ⟨_, rfl⟩
  conv =>
    arg 2
    tactic' =>
      apply eff_load_sub (m := M2) (ho := ?how12) (hT := ?hTw12) (hx := ?hxw12) (hb := ?hbw12) (hm := ?hmw12) (hv := ?hvw12)
      case how12 => rfl
      case hTw12 => rfl
      case hxw12 => rfl
      case hbw12 => rfl
      case hmw12 => exact (by rw [hM2, hL2]; exact (sub_hd k2.n))
      case hvw12 => rfl
  conv => whnf
  rw [forceL_eq]
  subst hM2
  conv => whnf
  refine ⟨⟨k0.ok rfl, k2.ok rfl⟩, ?_⟩
  generalize e0 : fracS z0 (lstC _ c0) = s0
  have hs0 : 8 * s0.size ≤ 320 := e0 ▸ fr320 _ _
  generalize e2 : fracS z2 (lstC _ c2) = s2
  have hs2 : 8 * s2.size ≤ 320 := e2 ▸ fr320 _ _
  conv => whnf
  obtain ⟨M1, hM1⟩ : ∃ M, M = [C.val (.bool b1), c1, .int z1 h1] := ⟨_, rfl⟩
  conv =>
    arg 2
    tactic' =>
      apply eff_load_sub (m := M1) (ho := ?how13) (hT := ?hTw13) (hx := ?hxw13) (hb := ?hbw13) (hm := ?hmw13) (hv := ?hvw13)
      case how13 => rfl
      case hTw13 => rfl
      case hxw13 => rfl
      case hbw13 => rfl
      case hmw13 => exact (by rw [hM1, hL0]; exact (sub_tl k0.n (sub_hd k1.n)))
      case hvw13 => rfl
  conv => whnf
  rw [forceL_eq]
  subst hM1
  conv => whnf
  obtain ⟨M3, hM3⟩ : ∃ M, M = [C.val (.bool b3), c3, .int z3 h3] := ⟨_, rfl⟩
  conv =>
    arg 2
    tactic' =>
      apply eff_load_sub (m := M3) (ho := ?how14) (hT := ?hTw14) (hx := ?hxw14) (hb := ?hbw14) (hm := ?hmw14) (hv := ?hvw14)
      case how14 => rfl
      case hTw14 => rfl
      case hxw14 => rfl
      case hbw14 => rfl
      case hmw14 => exact (by rw [hM3, hL2]; exact (sub_tl k2.n (sub_hd k3.n)))
      case hvw14 => rfl
  conv => whnf
  rw [forceL_eq]
  subst hM3
  conv => whnf
  refine ⟨⟨k1.ok rfl, k3.ok rfl⟩, ?_⟩
  generalize e1 : fracS z1 (lstC _ c1) = s1
  have hs1 : 8 * s1.size ≤ 320 := e1 ▸ fr320 _ _
  generalize e3 : fracS z3 (lstC _ c3) = s3
  have hs3 : 8 * s3.size ≤ 320 := e3 ▸ fr320 _ _
  conv => whnf
  refine ⟨⟨Nat.le_trans hs0 (by decide), Nat.le_trans hs2 (by decide)⟩, ?_⟩
  conv => whnf
  refine ⟨⟨Nat.le_trans hs0 (by decide), Nat.le_trans hs2 (by decide)⟩, ?_⟩
  conv => whnf
  refine bcase_true (and_t (decide_eq_true rfl) (decide_eq_true rfl)) ?_
  conv => whnf
  refine bcase_true (bb_t _) ?_
  conv => whnf
  refine ⟨⟨⟨Nat.le_trans hs0 (by decide), Nat.le_trans (Nat.succ_le_succ hs2) (by decide)⟩, Nat.le_trans hs1 (by decide), Nat.le_trans (Nat.succ_le_succ hs3) (by decide)⟩, ?_⟩
  conv => whnf
  refine ⟨⟨⟨Nat.le_trans hs0 (by decide), Nat.le_trans (Nat.succ_le_succ hs2) (by decide)⟩, Nat.le_trans hs1 (by decide), Nat.le_trans (Nat.succ_le_succ hs3) (by decide)⟩, ?_⟩
  conv => whnf
  refine bcase_true (decide_eq_true (rfl)) ?_
  conv => whnf
  refine ⟨⟨⟨Nat.le_trans hs0 (by decide), Nat.le_trans (Nat.succ_le_succ hs2) (by decide)⟩, Nat.le_trans hs1 (by decide), Nat.le_trans (Nat.succ_le_succ hs3) (by decide)⟩, ?_⟩
  conv => whnf
  refine ⟨⟨⟨Nat.le_trans hs0 (by decide), Nat.le_trans (Nat.succ_le_succ hs2) (by decide)⟩, Nat.le_trans hs1 (by decide), Nat.le_trans (Nat.succ_le_succ hs3) (by decide)⟩, ?_⟩
  conv => whnf
  refine bcase_true (and_t (decide_eq_true rfl) (decide_eq_true rfl)) ?_
  conv => whnf
  refine ⟨⟨⟨Nat.le_trans hs0 (by decide), Nat.le_trans (Nat.succ_le_succ hs2) (by decide)⟩, Nat.le_trans hs1 (by decide), Nat.le_trans (Nat.succ_le_succ hs3) (by decide)⟩, ?_⟩
  conv => whnf
  refine ⟨⟨⟨Nat.le_trans hs0 (by decide), Nat.le_trans (Nat.succ_le_succ hs2) (by decide)⟩, Nat.le_trans hs1 (by decide), Nat.le_trans (Nat.succ_le_succ hs3) (by decide)⟩, ?_⟩
  conv => whnf
  exact fun ρ => bool_sv (and_t (decide_eq_true rfl) (decide_eq_true rfl)) ρ
set_option maxHeartbeats 16000000 in
theorem vcWideFracRules (b0 : Bool) (z0 : Int) (h0 : IR z0) (c0 : C) (l0 : List UInt8) (k0 : ChOk 0 c0 l0) (b1 : Bool) (z1 : Int) (h1 : IR z1) (c1 : C) (l1 : List UInt8) (k1 : ChOk 1 c1 l1) (b2 : Bool) (z2 : Int) (h2 : IR z2) (c2 : C) (l2 : List UInt8) (k2 : ChOk 2 c2 l2) (b3 : Bool) (z3 : Int) (h3 : IR z3) (c3 : C) (l3 : List UInt8) (k3 : ChOk 3 c3 l3) (b4 : Bool) (z4 : Int) (h4 : IR z4) (c4 : C) (l4 : List UInt8) (k4 : ChOk 4 c4 l4) (b5 : Bool) (z5 : Int) (h5 : IR z5) (c5 : C) (l5 : List UInt8) (k5 : ChOk 5 c5 l5) : vcF envG (inl envG noF 0) Tryd.f12 [.agg [.val (.bool b0), c0, .int z0 h0, .val (.bool b1), c1, .int z1 h1, .val (.bool b2), c2, .int z2 h2], .agg [.val (.bool b3), c3, .int z3 h3, .val (.bool b4), c4, .int z4 h4, .val (.bool b5), c5, .int z5 h5]] [⟨5, true, bsC l0, 0⟩, ⟨5, true, bsC l1, 0⟩, ⟨5, true, bsC l2, 0⟩, ⟨5, true, bsC l3, 0⟩, ⟨5, true, bsC l4, 0⟩, ⟨5, true, bsC l5, 0⟩] fun u _ => ∀ ρ, u.den ρ = (SV.c (.val (.bool true))).den ρ := by
  conv => whnf
  obtain ⟨L0, hL0⟩ : ∃ L, L = [C.val (.bool b0), c0, .int z0 h0, C.val (.bool b1), c1, .int z1 h1, C.val (.bool b2), c2, .int z2 h2] := ⟨_, rfl⟩
  conv =>
    arg 2
    tactic' =>
      apply eff_box (l := L0) (ho := ?how15) (hx := ?hxw15) (h1 := ?h1w15)
      case how15 => rfl
      case hxw15 => exact congrArg some hL0.symm
      case h1w15 => exact (by rw [hL0]; exact (one_num k0.one (one_num k1.one (one_num k2.one rfl))))
  conv => whnf
  rw [forceL_eq]
  conv => whnf
  obtain ⟨L3, hL3⟩ : ∃ L, L = [C.val (.bool b3), c3, .int z3 h3, C.val (.bool b4), c4, .int z4 h4, C.val (.bool b5), c5, .int z5 h5] := ⟨_, rfl⟩
  conv =>
    arg 2
    tactic' =>
      apply eff_box (l := L3) (ho := ?how16) (hx := ?hxw16) (h1 := ?h1w16)
      case how16 => rfl
      case hxw16 => exact congrArg some hL3.symm
      case h1w16 => exact (by rw [hL3]; exact (one_num k3.one (one_num k4.one (one_num k5.one rfl))))
  conv => whnf
  rw [forceL_eq]
  conv => whnf
  obtain ⟨M0, hM0⟩ : ∃ M, M = [C.val (.bool b0), c0, .int z0 h0] := ⟨_, rfl⟩
  conv =>
    arg 2
    tactic' =>
      apply eff_load_sub (m := M0) (ho := ?how17) (hT := ?hTw17) (hx := ?hxw17) (hb := ?hbw17) (hm := ?hmw17) (hv := ?hvw17)
      case how17 => rfl
      case hTw17 => rfl
      case hxw17 => rfl
      case hbw17 => rfl
      case hmw17 => exact (by rw [hM0, hL0]; exact (sub_hd k0.n))
      case hvw17 => rfl
  conv => whnf
  rw [forceL_eq]
  subst hM0
  conv => whnf
  obtain ⟨M3, hM3⟩ : ∃ M, M = [C.val (.bool b3), c3, .int z3 h3] := ⟨_, rfl⟩
  conv =>
    arg 2
    tactic' =>
      apply eff_load_sub (m := M3) (ho := ?how18) (hT := ?hTw18) (hx := ?hxw18) (hb := ?hbw18) (hm := ?hmw18) (hv := ?hvw18)
      case how18 => rfl
      case hTw18 => rfl
      case hxw18 => rfl
      case hbw18 => rfl
      case hmw18 => exact (by rw [hM3, hL3]; exact (sub_hd k3.n))
      case hvw18 => rfl
  conv => whnf
  rw [forceL_eq]
  subst hM3
  conv => whnf
  refine ⟨⟨k0.ok rfl, k3.ok rfl⟩, ?_⟩
  generalize e0 : fracS z0 (lstC _ c0) = s0
  have hs0 : 8 * s0.size ≤ 320 := e0 ▸ fr320 _ _
  generalize e3 : fracS z3 (lstC _ c3) = s3
  have hs3 : 8 * s3.size ≤ 320 := e3 ▸ fr320 _ _
  conv => whnf
  obtain ⟨M1, hM1⟩ : ∃ M, M = [C.val (.bool b1), c1, .int z1 h1] := ⟨_, rfl⟩
  conv =>
    arg 2
    tactic' =>
      apply eff_load_sub (m := M1) (ho := ?how19) (hT := ?hTw19) (hx := ?hxw19) (hb := ?hbw19) (hm := ?hmw19) (hv := ?hvw19)
      case how19 => rfl
      case hTw19 => rfl
      case hxw19 => rfl
      case hbw19 => rfl
      case hmw19 => exact (by rw [hM1, hL0]; exact (sub_tl k0.n (sub_hd k1.n)))
      case hvw19 => rfl
  conv => whnf
  rw [forceL_eq]
  subst hM1
  conv => whnf
  obtain ⟨M4, hM4⟩ : ∃ M, M = [C.val (.bool b4), c4, .int z4 h4] := ⟨_, rfl⟩
  conv =>
    arg 2
    tactic' =>
      apply eff_load_sub (m := M4) (ho := ?how20) (hT := ?hTw20) (hx := ?hxw20) (hb := ?hbw20) (hm := ?hmw20) (hv := ?hvw20)
      case how20 => rfl
      case hTw20 => rfl
      case hxw20 => rfl
      case hbw20 => rfl
      case hmw20 => exact (by rw [hM4, hL3]; exact (sub_tl k3.n (sub_hd k4.n)))
      case hvw20 => rfl
  conv => whnf
  rw [forceL_eq]
  subst hM4
  conv => whnf
  refine ⟨⟨k1.ok rfl, k4.ok rfl⟩, ?_⟩
  generalize e1 : fracS z1 (lstC _ c1) = s1
  have hs1 : 8 * s1.size ≤ 320 := e1 ▸ fr320 _ _
  generalize e4 : fracS z4 (lstC _ c4) = s4
  have hs4 : 8 * s4.size ≤ 320 := e4 ▸ fr320 _ _
  conv => whnf
  obtain ⟨M2, hM2⟩ : ∃ M, M = [C.val (.bool b2), c2, .int z2 h2] := ⟨_, rfl⟩
  conv =>
    arg 2
    tactic' =>
      apply eff_load_sub (m := M2) (ho := ?how21) (hT := ?hTw21) (hx := ?hxw21) (hb := ?hbw21) (hm := ?hmw21) (hv := ?hvw21)
      case how21 => rfl
      case hTw21 => rfl
      case hxw21 => rfl
      case hbw21 => rfl
      case hmw21 => exact (by rw [hM2, hL0]; exact (sub_tl k0.n (sub_tl k1.n (sub_hd k2.n))))
      case hvw21 => rfl
  conv => whnf
  rw [forceL_eq]
  subst hM2
  conv => whnf
  obtain ⟨M5, hM5⟩ : ∃ M, M = [C.val (.bool b5), c5, .int z5 h5] := ⟨_, rfl⟩
  conv =>
    arg 2
    tactic' =>
      apply eff_load_sub (m := M5) (ho := ?how22) (hT := ?hTw22) (hx := ?hxw22) (hb := ?hbw22) (hm := ?hmw22) (hv := ?hvw22)
      case how22 => rfl
      case hTw22 => rfl
      case hxw22 => rfl
      case hbw22 => rfl
      case hmw22 => exact (by rw [hM5, hL3]; exact (sub_tl k3.n (sub_tl k4.n (sub_hd k5.n))))
      case hvw22 => rfl
  conv => whnf
  rw [forceL_eq]
  subst hM5
  conv => whnf
  refine ⟨⟨k2.ok rfl, k5.ok rfl⟩, ?_⟩
  generalize e2 : fracS z2 (lstC _ c2) = s2
  have hs2 : 8 * s2.size ≤ 320 := e2 ▸ fr320 _ _
  generalize e5 : fracS z5 (lstC _ c5) = s5
  have hs5 : 8 * s5.size ≤ 320 := e5 ▸ fr320 _ _
  conv => whnf
  refine ⟨⟨⟨Nat.le_trans hs1 (by decide), Nat.le_trans (Nat.succ_le_succ hs4) (by decide)⟩, Nat.le_trans (Nat.le_refl 64) (by decide), Nat.le_trans (Nat.le_refl 65) (by decide)⟩, ?_⟩
  conv => whnf
  refine ⟨⟨⟨Nat.le_trans hs0 (by decide), Nat.le_trans (Nat.succ_le_succ hs3) (by decide)⟩, Nat.le_trans hs1 (by decide), Nat.le_trans (Nat.succ_le_succ hs4) (by decide)⟩, ?_⟩
  conv => whnf
  refine ⟨⟨⟨Nat.le_trans hs1 (by decide), Nat.le_trans (Nat.succ_le_succ hs4) (by decide)⟩, Nat.le_trans hs0 (by decide), Nat.le_trans (Nat.succ_le_succ hs3) (by decide)⟩, ?_⟩
  conv => whnf
  refine bcase_true (and_t (decide_eq_true (fr_comm _ _ _ _).1) (decide_eq_true (fr_comm _ _ _ _).2)) ?_
  conv => whnf
  refine ⟨⟨⟨Nat.le_trans hs0 (by decide), Nat.le_trans (Nat.succ_le_succ hs3) (by decide)⟩, Nat.le_trans hs1 (by decide), Nat.le_trans (Nat.succ_le_succ hs4) (by decide)⟩, ?_⟩
  conv => whnf
  refine ⟨⟨⟨Nat.le_trans (Nat.succ_le_succ (le_sum (le_sum hs0 (Nat.succ_le_succ hs4)) (le_sum hs1 (Nat.succ_le_succ hs3)))) (by decide), Nat.le_trans (Nat.succ_le_succ (le_sum (Nat.succ_le_succ hs3) (Nat.succ_le_succ hs4))) (by decide)⟩, Nat.le_trans hs2 (by decide), Nat.le_trans (Nat.succ_le_succ hs5) (by decide)⟩, ?_⟩
  conv => whnf
  refine ⟨⟨⟨Nat.le_trans hs1 (by decide), Nat.le_trans (Nat.succ_le_succ hs4) (by decide)⟩, Nat.le_trans hs2 (by decide), Nat.le_trans (Nat.succ_le_succ hs5) (by decide)⟩, ?_⟩
  conv => whnf
  refine ⟨⟨⟨Nat.le_trans hs0 (by decide), Nat.le_trans (Nat.succ_le_succ hs3) (by decide)⟩, Nat.le_trans (Nat.succ_le_succ (le_sum (le_sum hs1 (Nat.succ_le_succ hs5)) (le_sum hs2 (Nat.succ_le_succ hs4)))) (by decide), Nat.le_trans (Nat.succ_le_succ (le_sum (Nat.succ_le_succ hs4) (Nat.succ_le_succ hs5))) (by decide)⟩, ?_⟩
  conv => whnf
  refine ⟨⟨⟨Nat.le_trans hs0 (by decide), Nat.le_trans (Nat.succ_le_succ hs3) (by decide)⟩, Nat.le_trans hs1 (by decide), Nat.le_trans (Nat.succ_le_succ hs4) (by decide)⟩, ?_⟩
  conv => whnf
  refine ⟨⟨⟨Nat.le_trans hs1 (by decide), Nat.le_trans (Nat.succ_le_succ hs4) (by decide)⟩, Nat.le_trans hs0 (by decide), Nat.le_trans (Nat.succ_le_succ hs3) (by decide)⟩, ?_⟩
  conv => whnf
  refine bcase_true (and_t (decide_eq_true (fm_comm _ _ _ _).1) (decide_eq_true (fm_comm _ _ _ _).2)) ?_
  conv => whnf
  refine ⟨⟨⟨Nat.le_trans hs0 (by decide), Nat.le_trans (Nat.succ_le_succ hs3) (by decide)⟩, Nat.le_trans hs1 (by decide), Nat.le_trans (Nat.succ_le_succ hs4) (by decide)⟩, ?_⟩
  conv => whnf
  refine ⟨⟨⟨Nat.le_trans (le_sum hs0 hs1) (by decide), Nat.le_trans (Nat.succ_le_succ (le_sum (Nat.succ_le_succ hs3) (Nat.succ_le_succ hs4))) (by decide)⟩, Nat.le_trans hs2 (by decide), Nat.le_trans (Nat.succ_le_succ hs5) (by decide)⟩, ?_⟩
  conv => whnf
  refine ⟨⟨⟨Nat.le_trans hs1 (by decide), Nat.le_trans (Nat.succ_le_succ hs4) (by decide)⟩, Nat.le_trans hs2 (by decide), Nat.le_trans (Nat.succ_le_succ hs5) (by decide)⟩, ?_⟩
  conv => whnf
  refine ⟨⟨⟨Nat.le_trans hs0 (by decide), Nat.le_trans (Nat.succ_le_succ hs3) (by decide)⟩, Nat.le_trans (le_sum hs1 hs2) (by decide), Nat.le_trans (Nat.succ_le_succ (le_sum (Nat.succ_le_succ hs4) (Nat.succ_le_succ hs5))) (by decide)⟩, ?_⟩
  conv => whnf
  refine bcase_true (and_t (decide_eq_true (fm_assoc (pD_pos _) (pD_pos _) (pD_pos _)).1) (decide_eq_true (fm_assoc (pD_pos _) (pD_pos _) (pD_pos _)).2)) ?_
  conv => whnf
  refine ⟨⟨⟨Nat.le_trans hs1 (by decide), Nat.le_trans (Nat.succ_le_succ hs4) (by decide)⟩, Nat.le_trans hs2 (by decide), Nat.le_trans (Nat.succ_le_succ hs5) (by decide)⟩, ?_⟩
  conv => whnf
  refine ⟨⟨⟨Nat.le_trans hs0 (by decide), Nat.le_trans (Nat.succ_le_succ hs3) (by decide)⟩, Nat.le_trans (Nat.succ_le_succ (le_sum (le_sum hs1 (Nat.succ_le_succ hs5)) (le_sum hs2 (Nat.succ_le_succ hs4)))) (by decide), Nat.le_trans (Nat.succ_le_succ (le_sum (Nat.succ_le_succ hs4) (Nat.succ_le_succ hs5))) (by decide)⟩, ?_⟩
  conv => whnf
  refine ⟨⟨⟨Nat.le_trans hs0 (by decide), Nat.le_trans (Nat.succ_le_succ hs3) (by decide)⟩, Nat.le_trans hs1 (by decide), Nat.le_trans (Nat.succ_le_succ hs4) (by decide)⟩, ?_⟩
  conv => whnf
  refine ⟨⟨⟨Nat.le_trans hs0 (by decide), Nat.le_trans (Nat.succ_le_succ hs3) (by decide)⟩, Nat.le_trans hs2 (by decide), Nat.le_trans (Nat.succ_le_succ hs5) (by decide)⟩, ?_⟩
  conv => whnf
  refine ⟨⟨⟨Nat.le_trans (le_sum hs0 hs1) (by decide), Nat.le_trans (Nat.succ_le_succ (le_sum (Nat.succ_le_succ hs3) (Nat.succ_le_succ hs4))) (by decide)⟩, Nat.le_trans (le_sum hs0 hs2) (by decide), Nat.le_trans (Nat.succ_le_succ (le_sum (Nat.succ_le_succ hs3) (Nat.succ_le_succ hs5))) (by decide)⟩, ?_⟩
  conv => whnf
  refine ⟨⟨⟨Nat.le_trans hs0 (by decide), Nat.le_trans (Nat.succ_le_succ hs3) (by decide)⟩, Nat.le_trans hs1 (by decide), Nat.le_trans (Nat.succ_le_succ hs4) (by decide)⟩, ?_⟩
  conv => whnf
  refine ⟨⟨⟨Nat.le_trans hs0 (by decide), Nat.le_trans (Nat.succ_le_succ hs3) (by decide)⟩, Nat.le_trans (le_sum hs1 (Nat.le_refl 64)) (by decide), Nat.le_trans (Nat.succ_le_succ (le_sum (Nat.succ_le_succ hs4) (Nat.le_refl 65))) (by decide)⟩, ?_⟩
  conv => whnf
  refine ⟨Nat.le_trans (Nat.succ_le_succ (le_sum (le_sum hs0 (Nat.succ_le_succ (le_sum (Nat.succ_le_succ hs4) (Nat.le_refl 65)))) (le_sum (le_sum hs1 (Nat.le_refl 64)) (Nat.succ_le_succ hs3)))) (by decide), ?_⟩
  conv => whnf
  refine bcase_true (decide_eq_true (f_order (pD_pos _) (pD_pos _))) ?_
  conv => whnf
  refine ⟨⟨⟨Nat.le_trans hs0 (by decide), Nat.le_trans (Nat.succ_le_succ hs3) (by decide)⟩, Nat.le_trans hs1 (by decide), Nat.le_trans (Nat.succ_le_succ hs4) (by decide)⟩, ?_⟩
  conv => whnf
  refine ⟨⟨⟨Nat.le_trans hs0 (by decide), Nat.le_trans (Nat.succ_le_succ hs3) (by decide)⟩, Nat.le_trans hs2 (by decide), Nat.le_trans (Nat.succ_le_succ hs5) (by decide)⟩, ?_⟩
  conv => whnf
  refine ⟨⟨⟨Nat.le_trans hs1 (by decide), Nat.le_trans (Nat.succ_le_succ hs4) (by decide)⟩, Nat.le_trans hs2 (by decide), Nat.le_trans (Nat.succ_le_succ hs5) (by decide)⟩, ?_⟩
  conv => whnf
  refine ⟨⟨⟨Nat.le_trans (Nat.succ_le_succ (le_sum (le_sum hs0 (Nat.succ_le_succ hs5)) (le_sum hs2 (Nat.succ_le_succ hs3)))) (by decide), Nat.le_trans (Nat.succ_le_succ (le_sum (Nat.succ_le_succ hs3) (Nat.succ_le_succ hs5))) (by decide)⟩, Nat.le_trans (Nat.succ_le_succ (le_sum (le_sum hs1 (Nat.succ_le_succ hs5)) (le_sum hs2 (Nat.succ_le_succ hs4)))) (by decide), Nat.le_trans (Nat.succ_le_succ (le_sum (Nat.succ_le_succ hs4) (Nat.succ_le_succ hs5))) (by decide)⟩, ?_⟩
  conv => whnf
  refine bcase_true (and_t (decide_eq_true (fr_assoc (pD_pos _) (pD_pos _) (pD_pos _)).1) (decide_eq_true (fr_assoc (pD_pos _) (pD_pos _) (pD_pos _)).2)) ?_
  conv => whnf
  refine bcase_true (and_t (decide_eq_true (f_dist (pD_pos _) (pD_pos _) (pD_pos _)).1) (decide_eq_true (f_dist (pD_pos _) (pD_pos _) (pD_pos _)).2)) ?_
  conv => whnf
  exact fun ρ => bool_sv (decide_eq_true (f_shift (pD_pos _) (pD_pos _) (pD_pos _))) ρ
end Go.Proofs.YtbhcmajeoamloaaDoor
