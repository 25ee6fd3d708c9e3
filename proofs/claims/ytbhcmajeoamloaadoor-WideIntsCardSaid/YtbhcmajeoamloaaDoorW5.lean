/- law 01: WideRemainders, WideQuotients, WideDivisors. -/
import Derived.Test.YtbhcmajeoamloaaDoorW4
import Derived.Test.YtbhcmajeoamloaaDoorIab
namespace Go.Proofs.YtbhcmajeoamloaaDoor
open Go.RowKit
set_option maxRecDepth 100000

theorem tdiv0 {x y : Int} (h : y = 0) : x.tdiv y = 0 := by rw [h]; exact Int.tdiv_zero _
theorem rem0 {x y : Int} (h : y = 0) : remZ x y = 0 := by unfold remZ; rw [if_pos h]
theorem rem_id {x y : Int} (h : y ≠ 0) : (x.tdiv y * y + remZ x y - x).sign = 0 := by
  unfold remZ
  rw [if_neg h]
  have := Int.tmod_add_mul_tdiv x y
  rw [Int.mul_comm] at this
  rw [show x.tdiv y * y + x.tmod y - x = 0 by omega]; rfl
theorem ival_f (l : List UInt8) : ival false l = (mval l : Int) := by unfold ival; simp
theorem rem_lt {b : Bool} {s : ByteArray} {x y : Int} (hy : y = ival b s.data.toList) (h : y ≠ 0) : (ival false (⟨(mag (remZ x y).natAbs).toArray⟩ : ByteArray).data.toList - ival false s.data.toList).sign < 0 := by
  have e1 : (⟨(mag (remZ x y).natAbs).toArray⟩ : ByteArray).data.toList = mag (remZ x y).natAbs := rfl
  rw [e1, ival_f, ival_f, mval_mag, ← ival_natAbs b, ← hy]
  have h1 : (remZ x y).natAbs < y.natAbs := by
    unfold remZ
    rw [if_neg h, Int.natAbs_tmod]
    exact Nat.mod_lt _ (by omega)
  rw [Int.sign_eq_neg_one_of_neg (by omega)]; decide
theorem rem_sgn {x y : Int} (h : (remZ x y).sign ≠ 0) : (remZ x y).sign = x.sign := by
  unfold remZ at h ⊢
  split at h
  · exact absurd rfl h
  · rename_i hy
    rw [if_neg hy]
    rcases Int.lt_trichotomy x 0 with hx | hx | hx
    · rw [Int.sign_eq_neg_one_of_neg hx]
      have h2 : x.tmod y ≤ 0 := by
        have := Int.tmod_nonneg y (show 0 ≤ -x by omega)
        rw [Int.neg_tmod] at this; omega
      have h3 : x.tmod y ≠ 0 := fun e => h (by rw [e]; rfl)
      exact Int.sign_eq_neg_one_of_neg (by omega)
    · subst hx; rw [Int.zero_tmod]
    · rw [Int.sign_eq_one_of_pos hx]
      have h2 := Int.tmod_nonneg y (show 0 ≤ x by omega)
      have h3 : x.tmod y ≠ 0 := fun e => h (by rw [e]; rfl)
      exact Int.sign_eq_one_of_pos (by omega)
theorem mag327 {z : Int} (h : Sm 320 z) : 8 * (⟨(mag z.natAbs).toArray⟩ : ByteArray).size ≤ 327 := mag_bits h
theorem not_t {p : Prop} [Decidable p] (h : ¬p) : (!decide p) = true := by rw [decide_eq_false h]; rfl
set_option maxHeartbeats 8000000 in
theorem vcWideRemaindersAA (b0 : Bool) (z0 : Int) (h0 : IR z0) (l0 : List UInt8) (c0 : Nat) (g0 : SliOk false l0.length c0) (m0 : l0.length ≤ 140737488351232) (b1 : Bool) (z1 : Int) (h1 : IR z1) (l1 : List UInt8) (c1 : Nat) (g1 : SliOk false l1.length c1) (m1 : l1.length ≤ 140737488351232) : vcF envP (inl envP noF 0) Tryd.f9 [.agg [.val (.bool b0), .sli false 0 0 l0.length c0 g0, .int z0 h0], .agg [.val (.bool b1), .sli false 1 0 l1.length c1 g1, .int z1 h1]] [⟨5, true, bsC l0, 0⟩, ⟨5, true, bsC l1, 0⟩] fun u _ => ∀ ρ, u.den ρ = (SV.c (.val (.bool true))).den ρ := by
  conv => whnf
  refine ⟨⟨l0, bs_all l0 rfl, rfl, m0⟩, ?_⟩
  conv => whnf
  refine ⟨⟨l1, bs_all l1 rfl, rfl, m1⟩, ?_⟩
  conv => whnf
  refine ⟨⟨Nat.le_trans (mk320 _ _) (by decide), Nat.le_trans (mk320 _ _) (by decide)⟩, ?_⟩
  conv => whnf
  refine ⟨Nat.le_trans (mk320 _ _) (by decide), ?_⟩
  conv => whnf
  refine bcase_intro (fun hz => ?_) (fun hz => ?_)
  · have hyz := sign_zero hz
    conv => whnf
    refine bcase_true (not_t (fun hn => hn hyz)) ?_
    conv => whnf
    refine bcase_true (decide_eq_true (tdiv0 hyz)) ?_
    conv => whnf
    exact fun ρ => bool_sv (decide_eq_true (rem0 hyz)) ρ
  · have hyz := sign_nz hz
    conv => whnf
    refine bcase_true (decide_eq_true (hyz)) ?_
    conv => whnf
    refine ⟨⟨Nat.le_trans (mk320 _ _) (by decide), Nat.le_trans (mk320 _ _) (by decide)⟩, ?_⟩
    conv => whnf
    refine ⟨⟨Nat.le_trans (le_sum (mk320 _ _) (mk320 _ _)) (by decide), Nat.le_trans (mk320 _ _) (by decide)⟩, ?_⟩
    conv => whnf
    refine ⟨⟨Nat.le_trans (Nat.succ_le_succ (le_sum (le_sum (mk320 _ _) (mk320 _ _)) (mk320 _ _))) (by decide), Nat.le_trans (mk320 _ _) (by decide)⟩, ?_⟩
    conv => whnf
    refine bcase_true (decide_eq_true (rem_id hyz)) ?_
    conv => whnf
    refine ⟨⟨Nat.le_trans (mag327 ((sm_rem (sm_raw _ _) _).mono (mk320 _ _))) (by decide), Nat.le_trans (mk320 _ _) (by decide)⟩, ?_⟩
    conv => whnf
    refine bcase_true (decide_eq_true (rem_lt rfl hyz)) ?_
    conv => whnf
    refine ⟨Nat.le_trans (mk320 _ _) (by decide), ?_⟩
    conv => whnf
    refine bcase_intro (fun hs => ?_) (fun hs => ?_)
    · conv => whnf
      exact fun ρ => bool_sv rfl ρ
    · have hs := of_decide_eq_false hs
      conv => whnf
      refine ⟨Nat.le_trans (mk320 _ _) (by decide), ?_⟩
      conv => whnf
      refine ⟨Nat.le_trans (mk320 _ _) (by decide), ?_⟩
      conv => whnf
      exact fun ρ => bool_sv (decide_eq_true (rem_sgn hs)) ρ
set_option maxHeartbeats 8000000 in
theorem vcWideRemaindersAB (b0 : Bool) (z0 : Int) (h0 : IR z0) (l0 : List UInt8) (c0 : Nat) (g0 : SliOk false l0.length c0) (m0 : l0.length ≤ 140737488351232) (b1 : Bool) (z1 : Int) (h1 : IR z1) (a1 : Option Addr) : vcF envP (inl envP noF 0) Tryd.f9 [.agg [.val (.bool b0), .sli false 0 0 l0.length c0 g0, .int z0 h0], .agg [.val (.bool b1), .val (.slice a1 0 0), .int z1 h1]] [⟨5, true, bsC l0, 0⟩] fun u _ => ∀ ρ, u.den ρ = (SV.c (.val (.bool true))).den ρ := by
  conv => whnf
  refine ⟨⟨l0, bs_all l0 rfl, rfl, m0⟩, ?_⟩
  conv => whnf
  refine ⟨⟨Nat.le_trans (mk320 _ _) (by decide), Nat.le_trans (mk320 _ _) (by decide)⟩, ?_⟩
  conv => whnf
  refine ⟨Nat.le_trans (mk320 _ _) (by decide), ?_⟩
  conv => whnf
  refine bcase_intro (fun hz => ?_) (fun hz => ?_)
  · have hyz := sign_zero hz
    conv => whnf
    refine bcase_true (not_t (fun hn => hn hyz)) ?_
    conv => whnf
    refine bcase_true (decide_eq_true (tdiv0 hyz)) ?_
    conv => whnf
    exact fun ρ => bool_sv (decide_eq_true (rem0 hyz)) ρ
  · have hyz := sign_nz hz
    conv => whnf
    refine bcase_true (decide_eq_true (hyz)) ?_
    conv => whnf
    refine ⟨⟨Nat.le_trans (mk320 _ _) (by decide), Nat.le_trans (mk320 _ _) (by decide)⟩, ?_⟩
    conv => whnf
    refine ⟨⟨Nat.le_trans (le_sum (mk320 _ _) (mk320 _ _)) (by decide), Nat.le_trans (mk320 _ _) (by decide)⟩, ?_⟩
    conv => whnf
    refine ⟨⟨Nat.le_trans (Nat.succ_le_succ (le_sum (le_sum (mk320 _ _) (mk320 _ _)) (mk320 _ _))) (by decide), Nat.le_trans (mk320 _ _) (by decide)⟩, ?_⟩
    conv => whnf
    refine bcase_true (decide_eq_true (rem_id hyz)) ?_
    conv => whnf
    refine ⟨⟨Nat.le_trans (mag327 ((sm_rem (sm_raw _ _) _).mono (mk320 _ _))) (by decide), Nat.le_trans (mk320 _ _) (by decide)⟩, ?_⟩
    conv => whnf
    refine bcase_true (decide_eq_true (rem_lt rfl hyz)) ?_
    conv => whnf
    refine ⟨Nat.le_trans (mk320 _ _) (by decide), ?_⟩
    conv => whnf
    refine bcase_intro (fun hs => ?_) (fun hs => ?_)
    · conv => whnf
      exact fun ρ => bool_sv rfl ρ
    · have hs := of_decide_eq_false hs
      conv => whnf
      refine ⟨Nat.le_trans (mk320 _ _) (by decide), ?_⟩
      conv => whnf
      refine ⟨Nat.le_trans (mk320 _ _) (by decide), ?_⟩
      conv => whnf
      exact fun ρ => bool_sv (decide_eq_true (rem_sgn hs)) ρ
set_option maxHeartbeats 8000000 in
theorem vcWideRemaindersBA (b0 : Bool) (z0 : Int) (h0 : IR z0) (a0 : Option Addr) (b1 : Bool) (z1 : Int) (h1 : IR z1) (l1 : List UInt8) (c1 : Nat) (g1 : SliOk false l1.length c1) (m1 : l1.length ≤ 140737488351232) : vcF envP (inl envP noF 0) Tryd.f9 [.agg [.val (.bool b0), .val (.slice a0 0 0), .int z0 h0], .agg [.val (.bool b1), .sli false 0 0 l1.length c1 g1, .int z1 h1]] [⟨5, true, bsC l1, 0⟩] fun u _ => ∀ ρ, u.den ρ = (SV.c (.val (.bool true))).den ρ := by
  conv => whnf
  refine ⟨⟨l1, bs_all l1 rfl, rfl, m1⟩, ?_⟩
  conv => whnf
  refine ⟨⟨Nat.le_trans (mk320 _ _) (by decide), Nat.le_trans (mk320 _ _) (by decide)⟩, ?_⟩
  conv => whnf
  refine ⟨Nat.le_trans (mk320 _ _) (by decide), ?_⟩
  conv => whnf
  refine bcase_intro (fun hz => ?_) (fun hz => ?_)
  · have hyz := sign_zero hz
    conv => whnf
    refine bcase_true (not_t (fun hn => hn hyz)) ?_
    conv => whnf
    refine bcase_true (decide_eq_true (tdiv0 hyz)) ?_
    conv => whnf
    exact fun ρ => bool_sv (decide_eq_true (rem0 hyz)) ρ
  · have hyz := sign_nz hz
    conv => whnf
    refine bcase_true (decide_eq_true (hyz)) ?_
    conv => whnf
    refine ⟨⟨Nat.le_trans (mk320 _ _) (by decide), Nat.le_trans (mk320 _ _) (by decide)⟩, ?_⟩
    conv => whnf
    refine ⟨⟨Nat.le_trans (le_sum (mk320 _ _) (mk320 _ _)) (by decide), Nat.le_trans (mk320 _ _) (by decide)⟩, ?_⟩
    conv => whnf
    refine ⟨⟨Nat.le_trans (Nat.succ_le_succ (le_sum (le_sum (mk320 _ _) (mk320 _ _)) (mk320 _ _))) (by decide), Nat.le_trans (mk320 _ _) (by decide)⟩, ?_⟩
    conv => whnf
    refine bcase_true (decide_eq_true (rem_id hyz)) ?_
    conv => whnf
    refine ⟨⟨Nat.le_trans (mag327 ((sm_rem (sm_raw _ _) _).mono (mk320 _ _))) (by decide), Nat.le_trans (mk320 _ _) (by decide)⟩, ?_⟩
    conv => whnf
    refine bcase_true (decide_eq_true (rem_lt rfl hyz)) ?_
    conv => whnf
    refine ⟨Nat.le_trans (mk320 _ _) (by decide), ?_⟩
    conv => whnf
    refine bcase_intro (fun hs => ?_) (fun hs => ?_)
    · conv => whnf
      exact fun ρ => bool_sv rfl ρ
    · have hs := of_decide_eq_false hs
      conv => whnf
      refine ⟨Nat.le_trans (mk320 _ _) (by decide), ?_⟩
      conv => whnf
      refine ⟨Nat.le_trans (mk320 _ _) (by decide), ?_⟩
      conv => whnf
      exact fun ρ => bool_sv (decide_eq_true (rem_sgn hs)) ρ
set_option maxHeartbeats 8000000 in
theorem vcWideRemaindersBB (b0 : Bool) (z0 : Int) (h0 : IR z0) (a0 : Option Addr) (b1 : Bool) (z1 : Int) (h1 : IR z1) (a1 : Option Addr) : vcF envP (inl envP noF 0) Tryd.f9 [.agg [.val (.bool b0), .val (.slice a0 0 0), .int z0 h0], .agg [.val (.bool b1), .val (.slice a1 0 0), .int z1 h1]] [] fun u _ => ∀ ρ, u.den ρ = (SV.c (.val (.bool true))).den ρ := by
  conv => whnf
  refine ⟨⟨Nat.le_trans (mk320 _ _) (by decide), Nat.le_trans (mk320 _ _) (by decide)⟩, ?_⟩
  conv => whnf
  refine ⟨Nat.le_trans (mk320 _ _) (by decide), ?_⟩
  conv => whnf
  refine bcase_intro (fun hz => ?_) (fun hz => ?_)
  · have hyz := sign_zero hz
    conv => whnf
    refine bcase_true (not_t (fun hn => hn hyz)) ?_
    conv => whnf
    refine bcase_true (decide_eq_true (tdiv0 hyz)) ?_
    conv => whnf
    exact fun ρ => bool_sv (decide_eq_true (rem0 hyz)) ρ
  · have hyz := sign_nz hz
    conv => whnf
    refine bcase_true (decide_eq_true (hyz)) ?_
    conv => whnf
    refine ⟨⟨Nat.le_trans (mk320 _ _) (by decide), Nat.le_trans (mk320 _ _) (by decide)⟩, ?_⟩
    conv => whnf
    refine ⟨⟨Nat.le_trans (le_sum (mk320 _ _) (mk320 _ _)) (by decide), Nat.le_trans (mk320 _ _) (by decide)⟩, ?_⟩
    conv => whnf
    refine ⟨⟨Nat.le_trans (Nat.succ_le_succ (le_sum (le_sum (mk320 _ _) (mk320 _ _)) (mk320 _ _))) (by decide), Nat.le_trans (mk320 _ _) (by decide)⟩, ?_⟩
    conv => whnf
    refine bcase_true (decide_eq_true (rem_id hyz)) ?_
    conv => whnf
    refine ⟨⟨Nat.le_trans (mag327 ((sm_rem (sm_raw _ _) _).mono (mk320 _ _))) (by decide), Nat.le_trans (mk320 _ _) (by decide)⟩, ?_⟩
    conv => whnf
    refine bcase_true (decide_eq_true (rem_lt rfl hyz)) ?_
    conv => whnf
    refine ⟨Nat.le_trans (mk320 _ _) (by decide), ?_⟩
    conv => whnf
    refine bcase_intro (fun hs => ?_) (fun hs => ?_)
    · conv => whnf
      exact fun ρ => bool_sv rfl ρ
    · have hs := of_decide_eq_false hs
      conv => whnf
      refine ⟨Nat.le_trans (mk320 _ _) (by decide), ?_⟩
      conv => whnf
      refine ⟨Nat.le_trans (mk320 _ _) (by decide), ?_⟩
      conv => whnf
      exact fun ρ => bool_sv (decide_eq_true (rem_sgn hs)) ρ
/-- Quo against the reference's -/
def dDiv : Dn := num2c 1000 fun _ _ => .c (.val (.bool true))
def lawQ0 : List (FuncId × Dn) := (63, dQuoA) :: (23, dGcdA) :: lawP
theorem lawQ0_ok : AllOk lawQ0 := .cons spRQuoA <| .cons spRGcdA lawP_ok
theorem num8 {k : Nat} {b : Bool} {s : ByteArray} {z : Int} (h : Num (k + 7) b s z) (hk : k ≤ 1000) : 8 * s.size ≤ 1007 := by have := h.2; omega
set_option maxHeartbeats 4000000 in
theorem spDiv : SpOk Tryd.prog 20 dDiv := sp_num2H ⟨Tryd.func20, by kernel_rfl, by kernel_rfl⟩ (envN_ok lawQ0_ok .nil 0 fun _ => false) (mix_ok .nil (envN_ok lawQ0_ok .nil 0 fun _ => false) mixed noF_ok 0) (fun _ _ _ _ => rfl) fun X Y kX kY b s c t nX nY => by
  conv => whnf
  refine ⟨⟨Nat.le_trans (num8 nX kX) (by decide), Nat.le_trans (num8 nY kY) (by decide)⟩, ?_⟩
  conv => whnf
  refine ⟨⟨Nat.le_trans (num8 nX kX) (by decide), Nat.le_trans (num8 nY kY) (by decide)⟩, ?_⟩
  conv => whnf
  refine bcase_true (decide_eq_true (rfl)) ?_
  conv => whnf
  refine bcase_true (decide_eq_true (rfl)) ?_
  conv => whnf
  exact fun ρ => bool_sv (decide_eq_true rfl) ρ
def lawQ : List (FuncId × Dn) := (20, dDiv) :: lawQ0
theorem lawQ_ok : AllOk lawQ := .cons spDiv lawQ0_ok
def envQ : Env := envN 0 lawQ rdW fun _ => false
theorem envQ_ok : EOk Tryd.prog envQ := envN_ok lawQ_ok rdW_ok 0 fun _ => false
theorem sgn_nat (n : Nat) : 0 ≤ ((n : Nat) : Int).sign := by rcases n with _ | n; decide; show (0 : Int) ≤ 1; decide
theorem rem_dvd {x : Int} {g : Nat} (h : g ∣ x.natAbs) : remZ x (g : Int) = 0 := by
  unfold remZ
  split
  · rfl
  · exact Int.natAbs_eq_zero.1 (by rw [Int.natAbs_tmod, Int.natAbs_natCast]; exact Nat.mod_eq_zero_of_dvd h)
theorem gcd_lft (x y : Int) : remZ x ((x.gcd y : Nat) : Int) = 0 := rem_dvd (Nat.gcd_dvd_left _ _)
theorem gcd_rgt (x y : Int) : remZ y ((x.gcd y : Nat) : Int) = 0 := rem_dvd (Nat.gcd_dvd_right _ _)
theorem gcd_mul {x y z : Int} {b : Bool} {l : List UInt8} (hz : z = ival b l) : (((x * z).gcd (y * z) : Nat) : Int) = ((x.gcd y : Nat) : Int) * ival false l := by
  subst hz
  have h : (x * ival b l).gcd (y * ival b l) = x.gcd y * mval l := by
    show Nat.gcd (x * ival b l).natAbs (y * ival b l).natAbs = Nat.gcd x.natAbs y.natAbs * mval l
    rw [Int.natAbs_mul, Int.natAbs_mul, ival_natAbs, Nat.gcd_mul_right]
  rw [h, ival_f, Int.natCast_mul]
theorem sli_min {n c : Nat} (h : SliOk false n c) (k : Nat) : SliOk false (min n k) c := ⟨Nat.le_trans (Nat.min_le_left _ _) h.1, h.2.1, fun e => by cases e⟩
theorem ir_min {n c : Nat} (h : SliOk false n c) (k : Nat) : IR ((min n k : Nat) : Int) := (sli_min h k).ir
theorem min_len (l : List UInt8) (k : Nat) : (l.take (min l.length k)).length = min l.length k := by rw [List.length_take]; omega
set_option maxHeartbeats 8000000 in
theorem vcWideQuotientsAAA (b0 : Bool) (z0 : Int) (h0 : IR z0) (l0 : List UInt8) (c0 : Nat) (g0 : SliOk false l0.length c0) (m0 : l0.length ≤ 140737488351232) (b1 : Bool) (z1 : Int) (h1 : IR z1) (l1 : List UInt8) (c1 : Nat) (g1 : SliOk false l1.length c1) (m1 : l1.length ≤ 140737488351232) (b2 : Bool) (z2 : Int) (h2 : IR z2) (l2 : List UInt8) (c2 : Nat) (g2 : SliOk false l2.length c2) (m2 : l2.length ≤ 140737488351232) : vcF envQ (inl envQ noF 0) Tryd.f4 [.agg [.val (.bool b0), .sli false 0 0 l0.length c0 g0, .int z0 h0], .agg [.val (.bool b1), .sli false 1 0 l1.length c1 g1, .int z1 h1], .agg [.val (.bool b2), .sli false 2 0 l2.length c2 g2, .int z2 h2]] [⟨5, true, bsC l0, 0⟩, ⟨5, true, bsC l1, 0⟩, ⟨5, true, bsC l2, 0⟩] fun u _ => ∀ ρ, u.den ρ = (SV.c (.val (.bool true))).den ρ := by
  conv => whnf
  refine ⟨⟨l0, bs_all l0 rfl, rfl, m0⟩, ?_⟩
  conv => whnf
  refine ⟨⟨l1, bs_all l1 rfl, rfl, m1⟩, ?_⟩
  conv => whnf
  refine ⟨⟨Nat.le_trans (mk320 _ _) (by decide), Nat.le_trans (mk320 _ _) (by decide)⟩, ?_⟩
  conv => whnf
  refine ⟨⟨l2, bs_all l2 rfl, rfl, m2⟩, ?_⟩
  conv => whnf
  refine ⟨⟨Nat.le_trans (le_sum (mk320 _ _) (mk320 _ _)) (by decide), Nat.le_trans (mk320 _ _) (by decide)⟩, ?_⟩
  conv => whnf
  refine ⟨⟨Nat.le_trans (mk320 _ _) (by decide), Nat.le_trans (mk320 _ _) (by decide)⟩, ?_⟩
  conv => whnf
  refine ⟨⟨Nat.le_trans (Nat.succ_le_succ (le_sum (le_sum (mk320 _ _) (mk320 _ _)) (mk320 _ _))) (by decide), Nat.le_trans (mk320 _ _) (by decide)⟩, ?_⟩
  conv => whnf
  refine ⟨⟨Nat.le_trans (Nat.succ_le_succ (le_sum (le_sum (mk320 _ _) (mk320 _ _)) (mk320 _ _))) (by decide), Nat.le_trans (mk320 _ _) (by decide)⟩, ?_⟩
  conv => whnf
  exact fun _ => rfl
set_option maxHeartbeats 8000000 in
theorem vcWideQuotientsAAB (b0 : Bool) (z0 : Int) (h0 : IR z0) (l0 : List UInt8) (c0 : Nat) (g0 : SliOk false l0.length c0) (m0 : l0.length ≤ 140737488351232) (b1 : Bool) (z1 : Int) (h1 : IR z1) (l1 : List UInt8) (c1 : Nat) (g1 : SliOk false l1.length c1) (m1 : l1.length ≤ 140737488351232) (b2 : Bool) (z2 : Int) (h2 : IR z2) (a2 : Option Addr) : vcF envQ (inl envQ noF 0) Tryd.f4 [.agg [.val (.bool b0), .sli false 0 0 l0.length c0 g0, .int z0 h0], .agg [.val (.bool b1), .sli false 1 0 l1.length c1 g1, .int z1 h1], .agg [.val (.bool b2), .val (.slice a2 0 0), .int z2 h2]] [⟨5, true, bsC l0, 0⟩, ⟨5, true, bsC l1, 0⟩] fun u _ => ∀ ρ, u.den ρ = (SV.c (.val (.bool true))).den ρ := by
  conv => whnf
  refine ⟨⟨l0, bs_all l0 rfl, rfl, m0⟩, ?_⟩
  conv => whnf
  refine ⟨⟨l1, bs_all l1 rfl, rfl, m1⟩, ?_⟩
  conv => whnf
  refine ⟨⟨Nat.le_trans (mk320 _ _) (by decide), Nat.le_trans (mk320 _ _) (by decide)⟩, ?_⟩
  conv => whnf
  refine ⟨⟨Nat.le_trans (le_sum (mk320 _ _) (mk320 _ _)) (by decide), Nat.le_trans (mk320 _ _) (by decide)⟩, ?_⟩
  conv => whnf
  refine ⟨⟨Nat.le_trans (mk320 _ _) (by decide), Nat.le_trans (mk320 _ _) (by decide)⟩, ?_⟩
  conv => whnf
  refine ⟨⟨Nat.le_trans (Nat.succ_le_succ (le_sum (le_sum (mk320 _ _) (mk320 _ _)) (mk320 _ _))) (by decide), Nat.le_trans (mk320 _ _) (by decide)⟩, ?_⟩
  conv => whnf
  refine ⟨⟨Nat.le_trans (Nat.succ_le_succ (le_sum (le_sum (mk320 _ _) (mk320 _ _)) (mk320 _ _))) (by decide), Nat.le_trans (mk320 _ _) (by decide)⟩, ?_⟩
  conv => whnf
  exact fun _ => rfl
set_option maxHeartbeats 8000000 in
theorem vcWideQuotientsABA (b0 : Bool) (z0 : Int) (h0 : IR z0) (l0 : List UInt8) (c0 : Nat) (g0 : SliOk false l0.length c0) (m0 : l0.length ≤ 140737488351232) (b1 : Bool) (z1 : Int) (h1 : IR z1) (a1 : Option Addr) (b2 : Bool) (z2 : Int) (h2 : IR z2) (l2 : List UInt8) (c2 : Nat) (g2 : SliOk false l2.length c2) (m2 : l2.length ≤ 140737488351232) : vcF envQ (inl envQ noF 0) Tryd.f4 [.agg [.val (.bool b0), .sli false 0 0 l0.length c0 g0, .int z0 h0], .agg [.val (.bool b1), .val (.slice a1 0 0), .int z1 h1], .agg [.val (.bool b2), .sli false 1 0 l2.length c2 g2, .int z2 h2]] [⟨5, true, bsC l0, 0⟩, ⟨5, true, bsC l2, 0⟩] fun u _ => ∀ ρ, u.den ρ = (SV.c (.val (.bool true))).den ρ := by
  conv => whnf
  refine ⟨⟨l0, bs_all l0 rfl, rfl, m0⟩, ?_⟩
  conv => whnf
  refine ⟨⟨Nat.le_trans (mk320 _ _) (by decide), Nat.le_trans (mk320 _ _) (by decide)⟩, ?_⟩
  conv => whnf
  refine ⟨⟨l2, bs_all l2 rfl, rfl, m2⟩, ?_⟩
  conv => whnf
  refine ⟨⟨Nat.le_trans (le_sum (mk320 _ _) (mk320 _ _)) (by decide), Nat.le_trans (mk320 _ _) (by decide)⟩, ?_⟩
  conv => whnf
  refine ⟨⟨Nat.le_trans (mk320 _ _) (by decide), Nat.le_trans (mk320 _ _) (by decide)⟩, ?_⟩
  conv => whnf
  refine ⟨⟨Nat.le_trans (Nat.succ_le_succ (le_sum (le_sum (mk320 _ _) (mk320 _ _)) (mk320 _ _))) (by decide), Nat.le_trans (mk320 _ _) (by decide)⟩, ?_⟩
  conv => whnf
  refine ⟨⟨Nat.le_trans (Nat.succ_le_succ (le_sum (le_sum (mk320 _ _) (mk320 _ _)) (mk320 _ _))) (by decide), Nat.le_trans (mk320 _ _) (by decide)⟩, ?_⟩
  conv => whnf
  exact fun _ => rfl
set_option maxHeartbeats 8000000 in
theorem vcWideQuotientsABB (b0 : Bool) (z0 : Int) (h0 : IR z0) (l0 : List UInt8) (c0 : Nat) (g0 : SliOk false l0.length c0) (m0 : l0.length ≤ 140737488351232) (b1 : Bool) (z1 : Int) (h1 : IR z1) (a1 : Option Addr) (b2 : Bool) (z2 : Int) (h2 : IR z2) (a2 : Option Addr) : vcF envQ (inl envQ noF 0) Tryd.f4 [.agg [.val (.bool b0), .sli false 0 0 l0.length c0 g0, .int z0 h0], .agg [.val (.bool b1), .val (.slice a1 0 0), .int z1 h1], .agg [.val (.bool b2), .val (.slice a2 0 0), .int z2 h2]] [⟨5, true, bsC l0, 0⟩] fun u _ => ∀ ρ, u.den ρ = (SV.c (.val (.bool true))).den ρ := by
  conv => whnf
  refine ⟨⟨l0, bs_all l0 rfl, rfl, m0⟩, ?_⟩
  conv => whnf
  refine ⟨⟨Nat.le_trans (mk320 _ _) (by decide), Nat.le_trans (mk320 _ _) (by decide)⟩, ?_⟩
  conv => whnf
  refine ⟨⟨Nat.le_trans (le_sum (mk320 _ _) (mk320 _ _)) (by decide), Nat.le_trans (mk320 _ _) (by decide)⟩, ?_⟩
  conv => whnf
  refine ⟨⟨Nat.le_trans (mk320 _ _) (by decide), Nat.le_trans (mk320 _ _) (by decide)⟩, ?_⟩
  conv => whnf
  refine ⟨⟨Nat.le_trans (Nat.succ_le_succ (le_sum (le_sum (mk320 _ _) (mk320 _ _)) (mk320 _ _))) (by decide), Nat.le_trans (mk320 _ _) (by decide)⟩, ?_⟩
  conv => whnf
  refine ⟨⟨Nat.le_trans (Nat.succ_le_succ (le_sum (le_sum (mk320 _ _) (mk320 _ _)) (mk320 _ _))) (by decide), Nat.le_trans (mk320 _ _) (by decide)⟩, ?_⟩
  conv => whnf
  exact fun _ => rfl
set_option maxHeartbeats 8000000 in
theorem vcWideQuotientsBAA (b0 : Bool) (z0 : Int) (h0 : IR z0) (a0 : Option Addr) (b1 : Bool) (z1 : Int) (h1 : IR z1) (l1 : List UInt8) (c1 : Nat) (g1 : SliOk false l1.length c1) (m1 : l1.length ≤ 140737488351232) (b2 : Bool) (z2 : Int) (h2 : IR z2) (l2 : List UInt8) (c2 : Nat) (g2 : SliOk false l2.length c2) (m2 : l2.length ≤ 140737488351232) : vcF envQ (inl envQ noF 0) Tryd.f4 [.agg [.val (.bool b0), .val (.slice a0 0 0), .int z0 h0], .agg [.val (.bool b1), .sli false 0 0 l1.length c1 g1, .int z1 h1], .agg [.val (.bool b2), .sli false 1 0 l2.length c2 g2, .int z2 h2]] [⟨5, true, bsC l1, 0⟩, ⟨5, true, bsC l2, 0⟩] fun u _ => ∀ ρ, u.den ρ = (SV.c (.val (.bool true))).den ρ := by
  conv => whnf
  refine ⟨⟨l1, bs_all l1 rfl, rfl, m1⟩, ?_⟩
  conv => whnf
  refine ⟨⟨Nat.le_trans (mk320 _ _) (by decide), Nat.le_trans (mk320 _ _) (by decide)⟩, ?_⟩
  conv => whnf
  refine ⟨⟨l2, bs_all l2 rfl, rfl, m2⟩, ?_⟩
  conv => whnf
  refine ⟨⟨Nat.le_trans (le_sum (mk320 _ _) (mk320 _ _)) (by decide), Nat.le_trans (mk320 _ _) (by decide)⟩, ?_⟩
  conv => whnf
  refine ⟨⟨Nat.le_trans (mk320 _ _) (by decide), Nat.le_trans (mk320 _ _) (by decide)⟩, ?_⟩
  conv => whnf
  refine ⟨⟨Nat.le_trans (Nat.succ_le_succ (le_sum (le_sum (mk320 _ _) (mk320 _ _)) (mk320 _ _))) (by decide), Nat.le_trans (mk320 _ _) (by decide)⟩, ?_⟩
  conv => whnf
  refine ⟨⟨Nat.le_trans (Nat.succ_le_succ (le_sum (le_sum (mk320 _ _) (mk320 _ _)) (mk320 _ _))) (by decide), Nat.le_trans (mk320 _ _) (by decide)⟩, ?_⟩
  conv => whnf
  exact fun _ => rfl
set_option maxHeartbeats 8000000 in
theorem vcWideQuotientsBAB (b0 : Bool) (z0 : Int) (h0 : IR z0) (a0 : Option Addr) (b1 : Bool) (z1 : Int) (h1 : IR z1) (l1 : List UInt8) (c1 : Nat) (g1 : SliOk false l1.length c1) (m1 : l1.length ≤ 140737488351232) (b2 : Bool) (z2 : Int) (h2 : IR z2) (a2 : Option Addr) : vcF envQ (inl envQ noF 0) Tryd.f4 [.agg [.val (.bool b0), .val (.slice a0 0 0), .int z0 h0], .agg [.val (.bool b1), .sli false 0 0 l1.length c1 g1, .int z1 h1], .agg [.val (.bool b2), .val (.slice a2 0 0), .int z2 h2]] [⟨5, true, bsC l1, 0⟩] fun u _ => ∀ ρ, u.den ρ = (SV.c (.val (.bool true))).den ρ := by
  conv => whnf
  refine ⟨⟨l1, bs_all l1 rfl, rfl, m1⟩, ?_⟩
  conv => whnf
  refine ⟨⟨Nat.le_trans (mk320 _ _) (by decide), Nat.le_trans (mk320 _ _) (by decide)⟩, ?_⟩
  conv => whnf
  refine ⟨⟨Nat.le_trans (le_sum (mk320 _ _) (mk320 _ _)) (by decide), Nat.le_trans (mk320 _ _) (by decide)⟩, ?_⟩
  conv => whnf
  refine ⟨⟨Nat.le_trans (mk320 _ _) (by decide), Nat.le_trans (mk320 _ _) (by decide)⟩, ?_⟩
  conv => whnf
  refine ⟨⟨Nat.le_trans (Nat.succ_le_succ (le_sum (le_sum (mk320 _ _) (mk320 _ _)) (mk320 _ _))) (by decide), Nat.le_trans (mk320 _ _) (by decide)⟩, ?_⟩
  conv => whnf
  refine ⟨⟨Nat.le_trans (Nat.succ_le_succ (le_sum (le_sum (mk320 _ _) (mk320 _ _)) (mk320 _ _))) (by decide), Nat.le_trans (mk320 _ _) (by decide)⟩, ?_⟩
  conv => whnf
  exact fun _ => rfl
set_option maxHeartbeats 8000000 in
theorem vcWideQuotientsBBA (b0 : Bool) (z0 : Int) (h0 : IR z0) (a0 : Option Addr) (b1 : Bool) (z1 : Int) (h1 : IR z1) (a1 : Option Addr) (b2 : Bool) (z2 : Int) (h2 : IR z2) (l2 : List UInt8) (c2 : Nat) (g2 : SliOk false l2.length c2) (m2 : l2.length ≤ 140737488351232) : vcF envQ (inl envQ noF 0) Tryd.f4 [.agg [.val (.bool b0), .val (.slice a0 0 0), .int z0 h0], .agg [.val (.bool b1), .val (.slice a1 0 0), .int z1 h1], .agg [.val (.bool b2), .sli false 0 0 l2.length c2 g2, .int z2 h2]] [⟨5, true, bsC l2, 0⟩] fun u _ => ∀ ρ, u.den ρ = (SV.c (.val (.bool true))).den ρ := by
  conv => whnf
  refine ⟨⟨Nat.le_trans (mk320 _ _) (by decide), Nat.le_trans (mk320 _ _) (by decide)⟩, ?_⟩
  conv => whnf
  refine ⟨⟨l2, bs_all l2 rfl, rfl, m2⟩, ?_⟩
  conv => whnf
  refine ⟨⟨Nat.le_trans (le_sum (mk320 _ _) (mk320 _ _)) (by decide), Nat.le_trans (mk320 _ _) (by decide)⟩, ?_⟩
  conv => whnf
  refine ⟨⟨Nat.le_trans (mk320 _ _) (by decide), Nat.le_trans (mk320 _ _) (by decide)⟩, ?_⟩
  conv => whnf
  refine ⟨⟨Nat.le_trans (Nat.succ_le_succ (le_sum (le_sum (mk320 _ _) (mk320 _ _)) (mk320 _ _))) (by decide), Nat.le_trans (mk320 _ _) (by decide)⟩, ?_⟩
  conv => whnf
  refine ⟨⟨Nat.le_trans (Nat.succ_le_succ (le_sum (le_sum (mk320 _ _) (mk320 _ _)) (mk320 _ _))) (by decide), Nat.le_trans (mk320 _ _) (by decide)⟩, ?_⟩
  conv => whnf
  exact fun _ => rfl
set_option maxHeartbeats 8000000 in
theorem vcWideQuotientsBBB (b0 : Bool) (z0 : Int) (h0 : IR z0) (a0 : Option Addr) (b1 : Bool) (z1 : Int) (h1 : IR z1) (a1 : Option Addr) (b2 : Bool) (z2 : Int) (h2 : IR z2) (a2 : Option Addr) : vcF envQ (inl envQ noF 0) Tryd.f4 [.agg [.val (.bool b0), .val (.slice a0 0 0), .int z0 h0], .agg [.val (.bool b1), .val (.slice a1 0 0), .int z1 h1], .agg [.val (.bool b2), .val (.slice a2 0 0), .int z2 h2]] [] fun u _ => ∀ ρ, u.den ρ = (SV.c (.val (.bool true))).den ρ := by
  conv => whnf
  refine ⟨⟨Nat.le_trans (mk320 _ _) (by decide), Nat.le_trans (mk320 _ _) (by decide)⟩, ?_⟩
  conv => whnf
  refine ⟨⟨Nat.le_trans (le_sum (mk320 _ _) (mk320 _ _)) (by decide), Nat.le_trans (mk320 _ _) (by decide)⟩, ?_⟩
  conv => whnf
  refine ⟨⟨Nat.le_trans (mk320 _ _) (by decide), Nat.le_trans (mk320 _ _) (by decide)⟩, ?_⟩
  conv => whnf
  refine ⟨⟨Nat.le_trans (Nat.succ_le_succ (le_sum (le_sum (mk320 _ _) (mk320 _ _)) (mk320 _ _))) (by decide), Nat.le_trans (mk320 _ _) (by decide)⟩, ?_⟩
  conv => whnf
  refine ⟨⟨Nat.le_trans (Nat.succ_le_succ (le_sum (le_sum (mk320 _ _) (mk320 _ _)) (mk320 _ _))) (by decide), Nat.le_trans (mk320 _ _) (by decide)⟩, ?_⟩
  conv => whnf
  exact fun _ => rfl
set_option maxHeartbeats 8000000 in
theorem vcWideDivisorsAAA (b0 : Bool) (z0 : Int) (h0 : IR z0) (l0 : List UInt8) (c0 : Nat) (g0 : SliOk false l0.length c0) (m0 : l0.length ≤ 140737488351232) (b1 : Bool) (z1 : Int) (h1 : IR z1) (l1 : List UInt8) (c1 : Nat) (g1 : SliOk false l1.length c1) (m1 : l1.length ≤ 140737488351232) (b2 : Bool) (z2 : Int) (h2 : IR z2) (l2 : List UInt8) (c2 : Nat) (g2 : SliOk false l2.length c2) (m2 : l2.length ≤ 140737488351232) : vcF envQ (inl envQ noF 0) Tryd.f5 [.agg [.val (.bool b0), .sli false 0 0 l0.length c0 g0, .int z0 h0], .agg [.val (.bool b1), .sli false 1 0 l1.length c1 g1, .int z1 h1], .agg [.val (.bool b2), .sli false 2 0 l2.length c2 g2, .int z2 h2]] [⟨5, true, bsC l0, 0⟩, ⟨5, true, bsC l1, 0⟩, ⟨5, true, bsC l2, 0⟩] fun u _ => ∀ ρ, u.den ρ = (SV.c (.val (.bool true))).den ρ := by
  conv => whnf
  refine ⟨⟨l0, bs_all l0 rfl, rfl, m0⟩, ?_⟩
  conv => whnf
  refine ⟨⟨l1, bs_all l1 rfl, rfl, m1⟩, ?_⟩
  conv => whnf
  conv =>
    arg 2
    tactic' =>
      apply eff_slice_hi (k := min l2.length 8) (hi := ir_min g2 8) (h2 := sli_min g2 8) (ho := ?how1) (hT := ?hTw1) (hx := ?hxw1) (hk := ?hkw1) (hlt := ?hltw1)
      case how1 => rfl
      case hTw1 => rfl
      case hxw1 => rfl
      case hkw1 => exact cint (min_nat _ 8) (ir_min g2 8)
      case hltw1 => exact (sli_min g2 8).1
  conv => whnf
  refine ⟨⟨l2.take (min l2.length 8), bs_take l2 (Nat.min_le_left _ _), min_len l2 8, Nat.le_trans (Nat.min_le_left _ _) m2⟩, ?_⟩
  conv => whnf
  refine ⟨⟨Nat.le_trans (mk320 _ _) (by decide), Nat.le_trans (mk320 _ _) (by decide)⟩, ?_⟩
  conv => whnf
  refine ⟨⟨Nat.le_trans (mk320 _ _) (by decide), Nat.le_trans (le_sum (mk320 _ _) (mk320 _ _)) (by decide)⟩, ?_⟩
  conv => whnf
  refine ⟨⟨Nat.le_trans (mk320 _ _) (by decide), Nat.le_trans (le_sum (mk320 _ _) (mk320 _ _)) (by decide)⟩, ?_⟩
  conv => whnf
  refine ⟨⟨Nat.le_trans (mk320 _ _) (by decide), Nat.le_trans (mk320 _ _) (by decide)⟩, ?_⟩
  conv => whnf
  refine bcase_true (decide_eq_true (rfl)) ?_
  conv => whnf
  refine ⟨Nat.le_trans (le_sum (mk320 _ _) (mk320 _ _)) (by decide), ?_⟩
  conv => whnf
  refine bcase_true (decide_eq_true (sgn_nat _)) ?_
  conv => whnf
  refine bcase_true (decide_eq_true (gcd_lft _ _)) ?_
  conv => whnf
  refine bcase_true (decide_eq_true (gcd_rgt _ _)) ?_
  conv => whnf
  refine ⟨⟨Nat.le_trans (mk320 _ _) (by decide), Nat.le_trans (mk320 _ _) (by decide)⟩, ?_⟩
  conv => whnf
  refine ⟨⟨Nat.le_trans (mk320 _ _) (by decide), Nat.le_trans (mk320 _ _) (by decide)⟩, ?_⟩
  conv => whnf
  refine ⟨⟨Nat.le_trans (le_sum (mk320 _ _) (mk320 _ _)) (by decide), Nat.le_trans (le_sum (mk320 _ _) (mk320 _ _)) (by decide)⟩, ?_⟩
  conv => whnf
  refine ⟨⟨Nat.le_trans (le_sum (mk320 _ _) (mk320 _ _)) (by decide), Nat.le_trans (mk320 _ _) (by decide)⟩, ?_⟩
  conv => whnf
  exact fun ρ => bool_sv (decide_eq_true (gcd_mul rfl)) ρ
set_option maxHeartbeats 8000000 in
theorem vcWideDivisorsAAB (b0 : Bool) (z0 : Int) (h0 : IR z0) (l0 : List UInt8) (c0 : Nat) (g0 : SliOk false l0.length c0) (m0 : l0.length ≤ 140737488351232) (b1 : Bool) (z1 : Int) (h1 : IR z1) (l1 : List UInt8) (c1 : Nat) (g1 : SliOk false l1.length c1) (m1 : l1.length ≤ 140737488351232) (b2 : Bool) (z2 : Int) (h2 : IR z2) (a2 : Option Addr) : vcF envQ (inl envQ noF 0) Tryd.f5 [.agg [.val (.bool b0), .sli false 0 0 l0.length c0 g0, .int z0 h0], .agg [.val (.bool b1), .sli false 1 0 l1.length c1 g1, .int z1 h1], .agg [.val (.bool b2), .val (.slice a2 0 0), .int z2 h2]] [⟨5, true, bsC l0, 0⟩, ⟨5, true, bsC l1, 0⟩] fun u _ => ∀ ρ, u.den ρ = (SV.c (.val (.bool true))).den ρ := by
  conv => whnf
  refine ⟨⟨l0, bs_all l0 rfl, rfl, m0⟩, ?_⟩
  conv => whnf
  refine ⟨⟨l1, bs_all l1 rfl, rfl, m1⟩, ?_⟩
  conv => whnf
  refine ⟨⟨Nat.le_trans (mk320 _ _) (by decide), Nat.le_trans (mk320 _ _) (by decide)⟩, ?_⟩
  conv => whnf
  refine ⟨⟨Nat.le_trans (mk320 _ _) (by decide), Nat.le_trans (le_sum (mk320 _ _) (mk320 _ _)) (by decide)⟩, ?_⟩
  conv => whnf
  refine ⟨⟨Nat.le_trans (mk320 _ _) (by decide), Nat.le_trans (le_sum (mk320 _ _) (mk320 _ _)) (by decide)⟩, ?_⟩
  conv => whnf
  refine ⟨⟨Nat.le_trans (mk320 _ _) (by decide), Nat.le_trans (mk320 _ _) (by decide)⟩, ?_⟩
  conv => whnf
  refine bcase_true (decide_eq_true (rfl)) ?_
  conv => whnf
  refine ⟨Nat.le_trans (le_sum (mk320 _ _) (mk320 _ _)) (by decide), ?_⟩
  conv => whnf
  refine bcase_true (decide_eq_true (sgn_nat _)) ?_
  conv => whnf
  refine bcase_true (decide_eq_true (gcd_lft _ _)) ?_
  conv => whnf
  refine bcase_true (decide_eq_true (gcd_rgt _ _)) ?_
  conv => whnf
  refine ⟨⟨Nat.le_trans (mk320 _ _) (by decide), Nat.le_trans (mk320 _ _) (by decide)⟩, ?_⟩
  conv => whnf
  refine ⟨⟨Nat.le_trans (mk320 _ _) (by decide), Nat.le_trans (mk320 _ _) (by decide)⟩, ?_⟩
  conv => whnf
  refine ⟨⟨Nat.le_trans (le_sum (mk320 _ _) (mk320 _ _)) (by decide), Nat.le_trans (le_sum (mk320 _ _) (mk320 _ _)) (by decide)⟩, ?_⟩
  conv => whnf
  refine ⟨⟨Nat.le_trans (le_sum (mk320 _ _) (mk320 _ _)) (by decide), Nat.le_trans (mk320 _ _) (by decide)⟩, ?_⟩
  conv => whnf
  exact fun ρ => bool_sv (decide_eq_true (gcd_mul rfl)) ρ
set_option maxHeartbeats 8000000 in
theorem vcWideDivisorsABA (b0 : Bool) (z0 : Int) (h0 : IR z0) (l0 : List UInt8) (c0 : Nat) (g0 : SliOk false l0.length c0) (m0 : l0.length ≤ 140737488351232) (b1 : Bool) (z1 : Int) (h1 : IR z1) (a1 : Option Addr) (b2 : Bool) (z2 : Int) (h2 : IR z2) (l2 : List UInt8) (c2 : Nat) (g2 : SliOk false l2.length c2) (m2 : l2.length ≤ 140737488351232) : vcF envQ (inl envQ noF 0) Tryd.f5 [.agg [.val (.bool b0), .sli false 0 0 l0.length c0 g0, .int z0 h0], .agg [.val (.bool b1), .val (.slice a1 0 0), .int z1 h1], .agg [.val (.bool b2), .sli false 1 0 l2.length c2 g2, .int z2 h2]] [⟨5, true, bsC l0, 0⟩, ⟨5, true, bsC l2, 0⟩] fun u _ => ∀ ρ, u.den ρ = (SV.c (.val (.bool true))).den ρ := by
  conv => whnf
  refine ⟨⟨l0, bs_all l0 rfl, rfl, m0⟩, ?_⟩
  conv => whnf
  conv =>
    arg 2
    tactic' =>
      apply eff_slice_hi (k := min l2.length 8) (hi := ir_min g2 8) (h2 := sli_min g2 8) (ho := ?how2) (hT := ?hTw2) (hx := ?hxw2) (hk := ?hkw2) (hlt := ?hltw2)
      case how2 => rfl
      case hTw2 => rfl
      case hxw2 => rfl
      case hkw2 => exact cint (min_nat _ 8) (ir_min g2 8)
      case hltw2 => exact (sli_min g2 8).1
  conv => whnf
  refine ⟨⟨l2.take (min l2.length 8), bs_take l2 (Nat.min_le_left _ _), min_len l2 8, Nat.le_trans (Nat.min_le_left _ _) m2⟩, ?_⟩
  conv => whnf
  refine ⟨⟨Nat.le_trans (mk320 _ _) (by decide), Nat.le_trans (mk320 _ _) (by decide)⟩, ?_⟩
  conv => whnf
  refine ⟨⟨Nat.le_trans (mk320 _ _) (by decide), Nat.le_trans (le_sum (mk320 _ _) (mk320 _ _)) (by decide)⟩, ?_⟩
  conv => whnf
  refine ⟨⟨Nat.le_trans (mk320 _ _) (by decide), Nat.le_trans (le_sum (mk320 _ _) (mk320 _ _)) (by decide)⟩, ?_⟩
  conv => whnf
  refine ⟨⟨Nat.le_trans (mk320 _ _) (by decide), Nat.le_trans (mk320 _ _) (by decide)⟩, ?_⟩
  conv => whnf
  refine bcase_true (decide_eq_true (rfl)) ?_
  conv => whnf
  refine ⟨Nat.le_trans (le_sum (mk320 _ _) (mk320 _ _)) (by decide), ?_⟩
  conv => whnf
  refine bcase_true (decide_eq_true (sgn_nat _)) ?_
  conv => whnf
  refine bcase_true (decide_eq_true (gcd_lft _ _)) ?_
  conv => whnf
  refine bcase_true (decide_eq_true (gcd_rgt _ _)) ?_
  conv => whnf
  refine ⟨⟨Nat.le_trans (mk320 _ _) (by decide), Nat.le_trans (mk320 _ _) (by decide)⟩, ?_⟩
  conv => whnf
  refine ⟨⟨Nat.le_trans (mk320 _ _) (by decide), Nat.le_trans (mk320 _ _) (by decide)⟩, ?_⟩
  conv => whnf
  refine ⟨⟨Nat.le_trans (le_sum (mk320 _ _) (mk320 _ _)) (by decide), Nat.le_trans (le_sum (mk320 _ _) (mk320 _ _)) (by decide)⟩, ?_⟩
  conv => whnf
  refine ⟨⟨Nat.le_trans (le_sum (mk320 _ _) (mk320 _ _)) (by decide), Nat.le_trans (mk320 _ _) (by decide)⟩, ?_⟩
  conv => whnf
  exact fun ρ => bool_sv (decide_eq_true (gcd_mul rfl)) ρ
set_option maxHeartbeats 8000000 in
theorem vcWideDivisorsABB (b0 : Bool) (z0 : Int) (h0 : IR z0) (l0 : List UInt8) (c0 : Nat) (g0 : SliOk false l0.length c0) (m0 : l0.length ≤ 140737488351232) (b1 : Bool) (z1 : Int) (h1 : IR z1) (a1 : Option Addr) (b2 : Bool) (z2 : Int) (h2 : IR z2) (a2 : Option Addr) : vcF envQ (inl envQ noF 0) Tryd.f5 [.agg [.val (.bool b0), .sli false 0 0 l0.length c0 g0, .int z0 h0], .agg [.val (.bool b1), .val (.slice a1 0 0), .int z1 h1], .agg [.val (.bool b2), .val (.slice a2 0 0), .int z2 h2]] [⟨5, true, bsC l0, 0⟩] fun u _ => ∀ ρ, u.den ρ = (SV.c (.val (.bool true))).den ρ := by
  conv => whnf
  refine ⟨⟨l0, bs_all l0 rfl, rfl, m0⟩, ?_⟩
  conv => whnf
  refine ⟨⟨Nat.le_trans (mk320 _ _) (by decide), Nat.le_trans (mk320 _ _) (by decide)⟩, ?_⟩
  conv => whnf
  refine ⟨⟨Nat.le_trans (mk320 _ _) (by decide), Nat.le_trans (le_sum (mk320 _ _) (mk320 _ _)) (by decide)⟩, ?_⟩
  conv => whnf
  refine ⟨⟨Nat.le_trans (mk320 _ _) (by decide), Nat.le_trans (le_sum (mk320 _ _) (mk320 _ _)) (by decide)⟩, ?_⟩
  conv => whnf
  refine ⟨⟨Nat.le_trans (mk320 _ _) (by decide), Nat.le_trans (mk320 _ _) (by decide)⟩, ?_⟩
  conv => whnf
  refine bcase_true (decide_eq_true (rfl)) ?_
  conv => whnf
  refine ⟨Nat.le_trans (le_sum (mk320 _ _) (mk320 _ _)) (by decide), ?_⟩
  conv => whnf
  refine bcase_true (decide_eq_true (sgn_nat _)) ?_
  conv => whnf
  refine bcase_true (decide_eq_true (gcd_lft _ _)) ?_
  conv => whnf
  refine bcase_true (decide_eq_true (gcd_rgt _ _)) ?_
  conv => whnf
  refine ⟨⟨Nat.le_trans (mk320 _ _) (by decide), Nat.le_trans (mk320 _ _) (by decide)⟩, ?_⟩
  conv => whnf
  refine ⟨⟨Nat.le_trans (mk320 _ _) (by decide), Nat.le_trans (mk320 _ _) (by decide)⟩, ?_⟩
  conv => whnf
  refine ⟨⟨Nat.le_trans (le_sum (mk320 _ _) (mk320 _ _)) (by decide), Nat.le_trans (le_sum (mk320 _ _) (mk320 _ _)) (by decide)⟩, ?_⟩
  conv => whnf
  refine ⟨⟨Nat.le_trans (le_sum (mk320 _ _) (mk320 _ _)) (by decide), Nat.le_trans (mk320 _ _) (by decide)⟩, ?_⟩
  conv => whnf
  exact fun ρ => bool_sv (decide_eq_true (gcd_mul rfl)) ρ
set_option maxHeartbeats 8000000 in
theorem vcWideDivisorsBAA (b0 : Bool) (z0 : Int) (h0 : IR z0) (a0 : Option Addr) (b1 : Bool) (z1 : Int) (h1 : IR z1) (l1 : List UInt8) (c1 : Nat) (g1 : SliOk false l1.length c1) (m1 : l1.length ≤ 140737488351232) (b2 : Bool) (z2 : Int) (h2 : IR z2) (l2 : List UInt8) (c2 : Nat) (g2 : SliOk false l2.length c2) (m2 : l2.length ≤ 140737488351232) : vcF envQ (inl envQ noF 0) Tryd.f5 [.agg [.val (.bool b0), .val (.slice a0 0 0), .int z0 h0], .agg [.val (.bool b1), .sli false 0 0 l1.length c1 g1, .int z1 h1], .agg [.val (.bool b2), .sli false 1 0 l2.length c2 g2, .int z2 h2]] [⟨5, true, bsC l1, 0⟩, ⟨5, true, bsC l2, 0⟩] fun u _ => ∀ ρ, u.den ρ = (SV.c (.val (.bool true))).den ρ := by
  conv => whnf
  refine ⟨⟨l1, bs_all l1 rfl, rfl, m1⟩, ?_⟩
  conv => whnf
  conv =>
    arg 2
    tactic' =>
      apply eff_slice_hi (k := min l2.length 8) (hi := ir_min g2 8) (h2 := sli_min g2 8) (ho := ?how3) (hT := ?hTw3) (hx := ?hxw3) (hk := ?hkw3) (hlt := ?hltw3)
      case how3 => rfl
      case hTw3 => rfl
      case hxw3 => rfl
      case hkw3 => exact cint (min_nat _ 8) (ir_min g2 8)
      case hltw3 => exact (sli_min g2 8).1
  conv => whnf
  refine ⟨⟨l2.take (min l2.length 8), bs_take l2 (Nat.min_le_left _ _), min_len l2 8, Nat.le_trans (Nat.min_le_left _ _) m2⟩, ?_⟩
  conv => whnf
  refine ⟨⟨Nat.le_trans (mk320 _ _) (by decide), Nat.le_trans (mk320 _ _) (by decide)⟩, ?_⟩
  conv => whnf
  refine ⟨⟨Nat.le_trans (mk320 _ _) (by decide), Nat.le_trans (le_sum (mk320 _ _) (mk320 _ _)) (by decide)⟩, ?_⟩
  conv => whnf
  refine ⟨⟨Nat.le_trans (mk320 _ _) (by decide), Nat.le_trans (le_sum (mk320 _ _) (mk320 _ _)) (by decide)⟩, ?_⟩
  conv => whnf
  refine ⟨⟨Nat.le_trans (mk320 _ _) (by decide), Nat.le_trans (mk320 _ _) (by decide)⟩, ?_⟩
  conv => whnf
  refine bcase_true (decide_eq_true (rfl)) ?_
  conv => whnf
  refine ⟨Nat.le_trans (le_sum (mk320 _ _) (mk320 _ _)) (by decide), ?_⟩
  conv => whnf
  refine bcase_true (decide_eq_true (sgn_nat _)) ?_
  conv => whnf
  refine bcase_true (decide_eq_true (gcd_lft _ _)) ?_
  conv => whnf
  refine bcase_true (decide_eq_true (gcd_rgt _ _)) ?_
  conv => whnf
  refine ⟨⟨Nat.le_trans (mk320 _ _) (by decide), Nat.le_trans (mk320 _ _) (by decide)⟩, ?_⟩
  conv => whnf
  refine ⟨⟨Nat.le_trans (mk320 _ _) (by decide), Nat.le_trans (mk320 _ _) (by decide)⟩, ?_⟩
  conv => whnf
  refine ⟨⟨Nat.le_trans (le_sum (mk320 _ _) (mk320 _ _)) (by decide), Nat.le_trans (le_sum (mk320 _ _) (mk320 _ _)) (by decide)⟩, ?_⟩
  conv => whnf
  refine ⟨⟨Nat.le_trans (le_sum (mk320 _ _) (mk320 _ _)) (by decide), Nat.le_trans (mk320 _ _) (by decide)⟩, ?_⟩
  conv => whnf
  exact fun ρ => bool_sv (decide_eq_true (gcd_mul rfl)) ρ
set_option maxHeartbeats 8000000 in
theorem vcWideDivisorsBAB (b0 : Bool) (z0 : Int) (h0 : IR z0) (a0 : Option Addr) (b1 : Bool) (z1 : Int) (h1 : IR z1) (l1 : List UInt8) (c1 : Nat) (g1 : SliOk false l1.length c1) (m1 : l1.length ≤ 140737488351232) (b2 : Bool) (z2 : Int) (h2 : IR z2) (a2 : Option Addr) : vcF envQ (inl envQ noF 0) Tryd.f5 [.agg [.val (.bool b0), .val (.slice a0 0 0), .int z0 h0], .agg [.val (.bool b1), .sli false 0 0 l1.length c1 g1, .int z1 h1], .agg [.val (.bool b2), .val (.slice a2 0 0), .int z2 h2]] [⟨5, true, bsC l1, 0⟩] fun u _ => ∀ ρ, u.den ρ = (SV.c (.val (.bool true))).den ρ := by
  conv => whnf
  refine ⟨⟨l1, bs_all l1 rfl, rfl, m1⟩, ?_⟩
  conv => whnf
  refine ⟨⟨Nat.le_trans (mk320 _ _) (by decide), Nat.le_trans (mk320 _ _) (by decide)⟩, ?_⟩
  conv => whnf
  refine ⟨⟨Nat.le_trans (mk320 _ _) (by decide), Nat.le_trans (le_sum (mk320 _ _) (mk320 _ _)) (by decide)⟩, ?_⟩
  conv => whnf
  refine ⟨⟨Nat.le_trans (mk320 _ _) (by decide), Nat.le_trans (le_sum (mk320 _ _) (mk320 _ _)) (by decide)⟩, ?_⟩
  conv => whnf
  refine ⟨⟨Nat.le_trans (mk320 _ _) (by decide), Nat.le_trans (mk320 _ _) (by decide)⟩, ?_⟩
  conv => whnf
  refine bcase_true (decide_eq_true (rfl)) ?_
  conv => whnf
  refine ⟨Nat.le_trans (le_sum (mk320 _ _) (mk320 _ _)) (by decide), ?_⟩
  conv => whnf
  refine bcase_true (decide_eq_true (sgn_nat _)) ?_
  conv => whnf
  refine bcase_true (decide_eq_true (gcd_lft _ _)) ?_
  conv => whnf
  refine bcase_true (decide_eq_true (gcd_rgt _ _)) ?_
  conv => whnf
  refine ⟨⟨Nat.le_trans (mk320 _ _) (by decide), Nat.le_trans (mk320 _ _) (by decide)⟩, ?_⟩
  conv => whnf
  refine ⟨⟨Nat.le_trans (mk320 _ _) (by decide), Nat.le_trans (mk320 _ _) (by decide)⟩, ?_⟩
  conv => whnf
  refine ⟨⟨Nat.le_trans (le_sum (mk320 _ _) (mk320 _ _)) (by decide), Nat.le_trans (le_sum (mk320 _ _) (mk320 _ _)) (by decide)⟩, ?_⟩
  conv => whnf
  refine ⟨⟨Nat.le_trans (le_sum (mk320 _ _) (mk320 _ _)) (by decide), Nat.le_trans (mk320 _ _) (by decide)⟩, ?_⟩
  conv => whnf
  exact fun ρ => bool_sv (decide_eq_true (gcd_mul rfl)) ρ
set_option maxHeartbeats 8000000 in
theorem vcWideDivisorsBBA (b0 : Bool) (z0 : Int) (h0 : IR z0) (a0 : Option Addr) (b1 : Bool) (z1 : Int) (h1 : IR z1) (a1 : Option Addr) (b2 : Bool) (z2 : Int) (h2 : IR z2) (l2 : List UInt8) (c2 : Nat) (g2 : SliOk false l2.length c2) (m2 : l2.length ≤ 140737488351232) : vcF envQ (inl envQ noF 0) Tryd.f5 [.agg [.val (.bool b0), .val (.slice a0 0 0), .int z0 h0], .agg [.val (.bool b1), .val (.slice a1 0 0), .int z1 h1], .agg [.val (.bool b2), .sli false 0 0 l2.length c2 g2, .int z2 h2]] [⟨5, true, bsC l2, 0⟩] fun u _ => ∀ ρ, u.den ρ = (SV.c (.val (.bool true))).den ρ := by
  conv => whnf
  conv =>
    arg 2
    tactic' =>
      apply eff_slice_hi (k := min l2.length 8) (hi := ir_min g2 8) (h2 := sli_min g2 8) (ho := ?how4) (hT := ?hTw4) (hx := ?hxw4) (hk := ?hkw4) (hlt := ?hltw4)
      case how4 => rfl
      case hTw4 => rfl
      case hxw4 => rfl
      case hkw4 => exact cint (min_nat _ 8) (ir_min g2 8)
      case hltw4 => exact (sli_min g2 8).1
  conv => whnf
  refine ⟨⟨l2.take (min l2.length 8), bs_take l2 (Nat.min_le_left _ _), min_len l2 8, Nat.le_trans (Nat.min_le_left _ _) m2⟩, ?_⟩
  conv => whnf
  refine ⟨⟨Nat.le_trans (mk320 _ _) (by decide), Nat.le_trans (mk320 _ _) (by decide)⟩, ?_⟩
  conv => whnf
  refine ⟨⟨Nat.le_trans (mk320 _ _) (by decide), Nat.le_trans (le_sum (mk320 _ _) (mk320 _ _)) (by decide)⟩, ?_⟩
  conv => whnf
  refine ⟨⟨Nat.le_trans (mk320 _ _) (by decide), Nat.le_trans (le_sum (mk320 _ _) (mk320 _ _)) (by decide)⟩, ?_⟩
  conv => whnf
  refine ⟨⟨Nat.le_trans (mk320 _ _) (by decide), Nat.le_trans (mk320 _ _) (by decide)⟩, ?_⟩
  conv => whnf
  refine bcase_true (decide_eq_true (rfl)) ?_
  conv => whnf
  refine ⟨Nat.le_trans (le_sum (mk320 _ _) (mk320 _ _)) (by decide), ?_⟩
  conv => whnf
  refine bcase_true (decide_eq_true (sgn_nat _)) ?_
  conv => whnf
  refine bcase_true (decide_eq_true (gcd_lft _ _)) ?_
  conv => whnf
  refine bcase_true (decide_eq_true (gcd_rgt _ _)) ?_
  conv => whnf
  refine ⟨⟨Nat.le_trans (mk320 _ _) (by decide), Nat.le_trans (mk320 _ _) (by decide)⟩, ?_⟩
  conv => whnf
  refine ⟨⟨Nat.le_trans (mk320 _ _) (by decide), Nat.le_trans (mk320 _ _) (by decide)⟩, ?_⟩
  conv => whnf
  refine ⟨⟨Nat.le_trans (le_sum (mk320 _ _) (mk320 _ _)) (by decide), Nat.le_trans (le_sum (mk320 _ _) (mk320 _ _)) (by decide)⟩, ?_⟩
  conv => whnf
  refine ⟨⟨Nat.le_trans (le_sum (mk320 _ _) (mk320 _ _)) (by decide), Nat.le_trans (mk320 _ _) (by decide)⟩, ?_⟩
  conv => whnf
  exact fun ρ => bool_sv (decide_eq_true (gcd_mul rfl)) ρ
set_option maxHeartbeats 8000000 in
theorem vcWideDivisorsBBB (b0 : Bool) (z0 : Int) (h0 : IR z0) (a0 : Option Addr) (b1 : Bool) (z1 : Int) (h1 : IR z1) (a1 : Option Addr) (b2 : Bool) (z2 : Int) (h2 : IR z2) (a2 : Option Addr) : vcF envQ (inl envQ noF 0) Tryd.f5 [.agg [.val (.bool b0), .val (.slice a0 0 0), .int z0 h0], .agg [.val (.bool b1), .val (.slice a1 0 0), .int z1 h1], .agg [.val (.bool b2), .val (.slice a2 0 0), .int z2 h2]] [] fun u _ => ∀ ρ, u.den ρ = (SV.c (.val (.bool true))).den ρ := by
  conv => whnf
  refine ⟨⟨Nat.le_trans (mk320 _ _) (by decide), Nat.le_trans (mk320 _ _) (by decide)⟩, ?_⟩
  conv => whnf
  refine ⟨⟨Nat.le_trans (mk320 _ _) (by decide), Nat.le_trans (le_sum (mk320 _ _) (mk320 _ _)) (by decide)⟩, ?_⟩
  conv => whnf
  refine ⟨⟨Nat.le_trans (mk320 _ _) (by decide), Nat.le_trans (le_sum (mk320 _ _) (mk320 _ _)) (by decide)⟩, ?_⟩
  conv => whnf
  refine ⟨⟨Nat.le_trans (mk320 _ _) (by decide), Nat.le_trans (mk320 _ _) (by decide)⟩, ?_⟩
  conv => whnf
  refine bcase_true (decide_eq_true (rfl)) ?_
  conv => whnf
  refine ⟨Nat.le_trans (le_sum (mk320 _ _) (mk320 _ _)) (by decide), ?_⟩
  conv => whnf
  refine bcase_true (decide_eq_true (sgn_nat _)) ?_
  conv => whnf
  refine bcase_true (decide_eq_true (gcd_lft _ _)) ?_
  conv => whnf
  refine bcase_true (decide_eq_true (gcd_rgt _ _)) ?_
  conv => whnf
  refine ⟨⟨Nat.le_trans (mk320 _ _) (by decide), Nat.le_trans (mk320 _ _) (by decide)⟩, ?_⟩
  conv => whnf
  refine ⟨⟨Nat.le_trans (mk320 _ _) (by decide), Nat.le_trans (mk320 _ _) (by decide)⟩, ?_⟩
  conv => whnf
  refine ⟨⟨Nat.le_trans (le_sum (mk320 _ _) (mk320 _ _)) (by decide), Nat.le_trans (le_sum (mk320 _ _) (mk320 _ _)) (by decide)⟩, ?_⟩
  conv => whnf
  refine ⟨⟨Nat.le_trans (le_sum (mk320 _ _) (mk320 _ _)) (by decide), Nat.le_trans (mk320 _ _) (by decide)⟩, ?_⟩
  conv => whnf
  exact fun ρ => bool_sv (decide_eq_true (gcd_mul rfl)) ρ
end Go.Proofs.YtbhcmajeoamloaaDoor
