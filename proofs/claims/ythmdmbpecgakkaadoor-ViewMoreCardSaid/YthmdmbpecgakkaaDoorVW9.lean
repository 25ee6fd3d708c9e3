/- law 24: what fits still does. -/
import Derived.Test.YthmdmbpecgakkaaDoorVW8
namespace Go.Proofs.YthmdmbpecgakkaaDoor
open Go.RowKit
set_option maxRecDepth 100000

theorem mask16 (a : Int) : 0 ≤ IntKind.i64.wrap ((BitVec.ofInt 64 a &&& BitVec.ofInt 64 65535).toNat : Int) ∧ IntKind.i64.wrap ((BitVec.ofInt 64 a &&& BitVec.ofInt 64 65535).toNat : Int) < 65536 := by
 have h : (BitVec.ofInt 64 a &&& BitVec.ofInt 64 65535).toNat < 2 ^ 16 := by
  rw [BitVec.toNat_and]
  exact Nat.and_lt_two_pow _ (by decide)
 constructor <;> rw [wrap_id (by unfold IR; omega)] <;> omega
theorem sq_nn (a : Int) : 0 ≤ a * a := by
 rcases Int.le_total 0 a with h | h
 ·exact Int.mul_nonneg h h
 ·have := Int.mul_nonneg (a := -a) (b := -a) (by omega) (by omega)
  rw [Int.neg_mul_neg] at this
  exact this
theorem d2V_nn (lx ly lz hx hy hz g ex ey ez : Int) : 0 ≤ d2V lx ly lz hx hy hz g ex ey ez := by
 unfold d2V
 have h1 := sq_nn (axV lx hx g ex)
 have h2 := sq_nn (axV ly hy g ey)
 have h3 := sq_nn (axV lz hz g ez)
 omega
theorem wth_mono {f p d e f' p' d' e' : Int} (h : wthB f p d e = true) (hf : f' ≤ f) (hp : p ≤ p') (hd0 : 0 ≤ d) (hd : d ≤ d') (he : e' ≤ e) : wthB f' p' d' e' = true := by
 unfold wthB at *
 simp only [Bool.or_eq_true, Bool.and_eq_true, decide_eq_true_eq, Bool.not_eq_true', decide_eq_false_iff_not] at *
 rcases h with (h | h) | ⟨h, h2⟩
 ·exact .inl (.inl (by omega))
 ·exact .inl (.inr (by omega))
 ·by_cases h3 : e' ≤ 0
  ·exact .inl (.inl h3)
  ·by_cases h4 : f' ≤ 0
   ·exact .inl (.inr h4)
   ·refine .inr ⟨by omega, ?_⟩
    have a1 : e' * f' ≤ e * f := Int.mul_le_mul he hf (by omega) (by omega)
    have a0 : 0 ≤ e' * f' := Int.mul_nonneg (by omega) (by omega)
    have a2 : e' * f' * (e' * f') ≤ e * f * (e * f) := Int.mul_le_mul a1 a1 a0 (by omega)
    have b1 : p * p ≤ p' * p' := Int.mul_le_mul hp hp (by omega) (by omega)
    have b2 : p * p * d ≤ p' * p' * d' := Int.mul_le_mul b1 hd hd0 (sq_nn p')
    omega
theorem ax_far {x : Int} (h : 60 < x) : axV 50 60 0 x = x - 60 := by
 show gapZ x 50 60 = _
 unfold gapZ
 rw [if_neg (by omega), if_pos h]
theorem d2_mono {x x' y z : Int} (h : 60 < x) (h' : x ≤ x') : d2V 50 0 0 60 10 10 0 x y z ≤ d2V 50 0 0 60 10 10 0 x' y z := by
 unfold d2V
 rw [ax_far h, ax_far (show 60 < x' by omega)]
 have : (x - 60) * (x - 60) ≤ (x' - 60) * (x' - 60) := Int.mul_le_mul (by omega) (by omega) (by omega) (by omega)
 omega
theorem tmod_rng (a : Int) {n : Int} (hn : 0 < n) : -n < a.tmod n ∧ a.tmod n < n := by
 constructor
 ·rcases Int.le_total 0 a with h | h
  ·have := Int.tmod_nonneg n h; omega
  ·have h1 := Int.tmod_lt_of_pos (-a) hn
   rw [Int.neg_tmod] at h1
   omega
 ·exact Int.tmod_lt_of_pos a hn
def dLMore : Dn
 | [.agg [.int _ _, .int _ _, .int _ _, .int _ _, .int _ _], .c (.int _ _), .agg [.val (.int .u8 a), .val (.int .u8 b), .val (.int .u8 c), .val (.int .u8 d)]] => if (0 ≤ a ∧ a < 256) ∧ (0 ≤ b ∧ b < 256) ∧ (0 ≤ c ∧ c < 256) ∧ 0 ≤ d ∧ d < 256 then some (none, .c (.val (.bool true))) else none
 | _ => none
set_option maxHeartbeats 4000000 in
theorem spLMore : SpOk Tryd.prog 5 dLMore := sp_ofH (envE_ok 20) (inl_ok (envE_ok 20) mixed noF_ok 0) ⟨Tryd.func5, by kernel_rfl, by kernel_rfl⟩ fun args p v hd => by
 unfold dLMore at hd
 split at hd
 ·rename_i q0 h0 q1 h1 q2 h2 q3 h3 q4 h4 err he a b c d
  split at hd
  ·rename_i hcon
   cases hd
   refine ⟨fun _ _=>rfl,fun _ _=>rfl,fun _ => ?_⟩
   conv => whnf
   refine bcase_intro (fun hw => ?_) (fun hw => ?_)
   ·conv => whnf
    exact fun ρ => sbool_e rfl ρ
   ·conv => whnf
    refine fun ρ => sbool_e ?_ ρ
    have hw : (!wthB (q3.tmod 5000) (q4.tmod 50) (d2V 50 0 0 60 10 10 0 (IntKind.i64.wrap (100 + IntKind.i64.wrap ((BitVec.ofInt 64 (q0.tmod 524288) &&& BitVec.ofInt 64 65535).toNat : Int))) (q1.tmod 524288) (q2.tmod 524288)) (err.tmod 1000)) = false := hw
    have hw : wthB (q3.tmod 5000) (q4.tmod 50) (d2V 50 0 0 60 10 10 0 (IntKind.i64.wrap (100 + IntKind.i64.wrap ((BitVec.ofInt 64 (q0.tmod 524288) &&& BitVec.ofInt 64 65535).toNat : Int))) (q1.tmod 524288) (q2.tmod 524288)) (err.tmod 1000) = true := by simpa using hw
    obtain ⟨hc1, hc2, hc3, hc4⟩ := hcon
    have m := mask16 (q0.tmod 524288)
    obtain ⟨M, hM⟩ : ∃ M, IntKind.i64.wrap ((BitVec.ofInt 64 (q0.tmod 524288) &&& BitVec.ofInt 64 65535).toNat : Int) = M := ⟨_, rfl⟩
    rw [hM] at m hw
    have t3 := tmod_rng q3 (n := 5000) (by decide)
    have t4 := tmod_rng q4 (n := 50) (by decide)
    have te := tmod_rng err (n := 1000) (by decide)
    have wa : IntKind.i64.wrap a = a := wrap_id (by unfold IR; omega)
    have wb : IntKind.i64.wrap b = b := wrap_id (by unfold IR; omega)
    have wc : IntKind.i64.wrap c = c := wrap_id (by unfold IR; omega)
    have wd : IntKind.i64.wrap d = d := wrap_id (by unfold IR; omega)
    have wx : IntKind.i64.wrap (100 + M) = 100 + M := wrap_id (by unfold IR; omega)
    refine wth_mono hw ?_ ?_ (d2V_nn _ _ _ _ _ _ _ _ _ _) (d2_mono ?_ ?_) ?_
    ·rw [wb, wrap_id (by unfold IR; omega)]; omega
    ·rw [wc, wrap_id (by unfold IR; omega)]; omega
    ·rw [wx]; omega
    ·rw [hM, wx, wa, wrap_id (by unfold IR; omega)]; omega
    ·rw [wd, wrap_id (by unfold IR; omega)]; omega
  ·cases hd
 ·cases hd
end Go.Proofs.YthmdmbpecgakkaaDoor
