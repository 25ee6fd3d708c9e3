/- law 24: Fits along an axis. -/
import Derived.Test.YthmdmbpecgakkaaDoorVW7
import Derived.Test.YthmdmbpecgakkaaDoorSxIx
namespace Go.Proofs.YthmdmbpecgakkaaDoor
open Go.RowKit
set_option maxRecDepth 100000

theorem mask15 (a : Int) : ∃ d : Int, IntKind.i64.wrap ((BitVec.ofInt 64 a &&& BitVec.ofInt 64 32767).toNat : Int) = d ∧ 0 ≤ d ∧ d < 32768 := by
 have h : (BitVec.ofInt 64 a &&& BitVec.ofInt 64 32767).toNat < 2 ^ 15 := by
  rw [BitVec.toNat_and]
  exact Nat.and_lt_two_pow _ (by decide)
 refine ⟨_, rfl, ?_, ?_⟩ <;> rw [wrap_id (by unfold IR; omega)] <;> omega
theorem sq_le {a b : Int} (ha : 0 ≤ a) (hb : 0 ≤ b) : a * a ≤ b * b ↔ a ≤ b := by
 constructor
 ·intro h
  rcases Int.lt_or_le b a with h1 | h1
  ·have h2 : b * b ≤ b * a := Int.mul_le_mul_of_nonneg_left (Int.le_of_lt h1) hb
   have h3 : b * a < a * a := Int.mul_lt_mul_of_pos_right h1 (by omega)
   omega
  ·exact h1
 ·intro h
  exact Int.mul_le_mul h h ha hb
theorem wth_line {d err f p : Int} (hd : 0 ≤ d) (he : 0 ≤ err) (hf : 0 ≤ f) (hp : 0 ≤ p) : wthB f p (d * d) err = decide (err * f ≤ p * d) := by
 unfold wthB
 have h1 : 0 ≤ err * f := Int.mul_nonneg he hf
 have h2 : 0 ≤ p * d := Int.mul_nonneg hp hd
 have e : p * p * (d * d) = p * d * (p * d) := by rw [Int.mul_assoc, Int.mul_left_comm p d d, ← Int.mul_assoc, ← Int.mul_assoc]
 rw [e]
 have e2 := sq_le h1 h2
 by_cases h3 : err ≤ 0
 ·have : err = 0 := by omega
  subst this
  simp only [Int.zero_mul] at *
  simp [h2]
 ·by_cases h4 : f ≤ 0
  ·have : f = 0 := by omega
   subst this
   simp only [Int.mul_zero] at *
   simp [h2]
  ·have h5 : ¬ p < 0 := by omega
   simp [h3, h4, h5, e2]
theorem ax_in : axV 0 10 0 5 = 0 := rfl
theorem ax_lo {d : Int} (h : 0 ≤ d) : axV 0 10 0 (-d) = d := by
 show gapZ (-d) 0 10 = d
 unfold gapZ
 split
 ·omega
 ·split <;> omega
theorem ax_hi {d : Int} (h : 0 ≤ d) : axV 0 10 0 (10 + d) = d := by
 show gapZ (10 + d) 0 10 = d
 unfold gapZ
 split
 ·omega
 ·split <;> omega
def envE (un : Nat) : Env := { env un baseW6 with O := oIx tyT (oAppend tyT) }
theorem envE_ok (un : Nat) : EOk Tryd.prog (envE un) := ⟨(env_ok baseW6_ok un).T, (env_ok baseW6_ok un).D, oIx_ok tyT_ok (oAppend_ok tyT_ok), (env_ok baseW6_ok un).R⟩
theorem wr_neg {d : Int} (h : 0 ≤ d ∧ d < 32768) : IntKind.i64.wrap (0 - d) = -d := by rw [wrap_id (by unfold IR; omega)]; omega
theorem wr_add {d : Int} (h : 0 ≤ d ∧ d < 32768) : IntKind.i64.wrap (10 + d) = 10 + d := wrap_id (by unfold IR; omega)
theorem wr_mul {a b : Int} (ha : 0 ≤ a ∧ a < 32768) (hb : 0 ≤ b ∧ b < 32768) : IntKind.i64.wrap (a * b) = a * b := wrap_id (by
 have h1 : 0 ≤ a * b := Int.mul_nonneg ha.1 hb.1
 have h2 : a * b ≤ 32768 * 32768 := Int.mul_le_mul (by omega) (by omega) hb.1 (by decide)
 unfold IR; omega)
theorem edge_lo {d e f p : Int} (hd : 0 ≤ d ∧ d < 32768) (he : 0 ≤ e ∧ e < 32768) (hf : 0 ≤ f ∧ f < 32768) (hp : 0 ≤ p ∧ p < 32768) {g : Int} (hg : g = d * d) : (wthB f p g e == decide (IntKind.i64.wrap (e * f) ≤ IntKind.i64.wrap (p * d))) = true := by
 rw [hg, wth_line hd.1 he.1 hf.1 hp.1, wr_mul he hf, wr_mul hp hd]; exact beq_self_eq_true _
def dLEdges : Dn
 | [.agg [.int _ _, .int _ _, .int _ _, .int _ _], .c (.val (.int .u8 a))] => if 0 ≤ a ∧ a < 256 then some (none, .c (.val (.bool true))) else none
 | _ => none
theorem u8_cases {p : Int → Prop} {a : Int} (ha : 0 ≤ a ∧ a < 256) (h : ∀ n : Nat, n < 256 → p n) : p a := by
 obtain ⟨n, rfl⟩ : ∃ n : Nat, a = n := ⟨a.toNat, by omega⟩
 exact h n (by omega)
theorem ax_and {a : Int} (ha : 0 ≤ a ∧ a < 256) : ∃ j : Nat, j < 3 ∧ ((IntKind.u8.wrap ((BitVec.ofInt 8 a &&& BitVec.ofInt 8 3).toNat : Int)).tmod 3) = (j : Int) := by
 refine u8_cases (p := fun a => ∃ j : Nat, j < 3 ∧ ((IntKind.u8.wrap ((BitVec.ofInt 8 a &&& BitVec.ofInt 8 3).toNat : Int)).tmod 3) = (j : Int)) ha ?_
 decide +kernel
set_option maxHeartbeats 4000000 in
theorem spLEdges : SpOk Tryd.prog 4 dLEdges := sp_ofH (envE_ok 20) (inl_ok (envE_ok 20) mixed noF_ok 0) ⟨Tryd.func4, by kernel_rfl, by kernel_rfl⟩ fun args p v hd => by
 unfold dLEdges at hd
 split at hd
 ·rename_i q0 h0 q1 h1 q2 h2 q3 h3 a
  split at hd
  ·rename_i ha
   cases hd
   refine ⟨fun _ _=>rfl,fun _ _=>rfl,fun _ => ?_⟩
   conv => whnf
   refine bcase_intro (fun hs => ?_) (fun hs => ?_)
   ·conv => whnf
    obtain ⟨j, hj, hjx⟩ := ax_and ha
    obtain ⟨d, hd, hd0⟩ := mask15 q0
    obtain ⟨er, her, her0⟩ := mask15 q1
    obtain ⟨fo, hfo, hfo0⟩ := mask15 q2
    obtain ⟨pi, hpi, hpi0⟩ := mask15 q3
    match j, hj with
    | 0, _ =>
     refine .inr ⟨.u8, 0, congrArg (fun z => SV.c (C.val (.int .u8 z))) hjx, by decide, ?_⟩
     conv => whnf
     refine fun ρ => sbool_e ?_ ρ
     simp only [hd, her, hfo, hpi]
     exact edge_lo hd0 her0 hfo0 hpi0 (by unfold d2V; rw [wr_neg hd0]; simp only [ax_in, ax_lo hd0.1]; omega)
    | 1, _ =>
     refine .inr ⟨.u8, 1, congrArg (fun z => SV.c (C.val (.int .u8 z))) hjx, by decide, ?_⟩
     conv => whnf
     refine fun ρ => sbool_e ?_ ρ
     simp only [hd, her, hfo, hpi]
     exact edge_lo hd0 her0 hfo0 hpi0 (by unfold d2V; rw [wr_neg hd0]; simp only [ax_in, ax_lo hd0.1]; omega)
    | 2, _ =>
     refine .inr ⟨.u8, 2, congrArg (fun z => SV.c (C.val (.int .u8 z))) hjx, by decide, ?_⟩
     conv => whnf
     refine fun ρ => sbool_e ?_ ρ
     simp only [hd, her, hfo, hpi]
     exact edge_lo hd0 her0 hfo0 hpi0 (by unfold d2V; rw [wr_neg hd0]; simp only [ax_in, ax_lo hd0.1]; omega)
   ·conv => whnf
    obtain ⟨j, hj, hjx⟩ := ax_and ha
    obtain ⟨d, hd, hd0⟩ := mask15 q0
    obtain ⟨er, her, her0⟩ := mask15 q1
    obtain ⟨fo, hfo, hfo0⟩ := mask15 q2
    obtain ⟨pi, hpi, hpi0⟩ := mask15 q3
    match j, hj with
    | 0, _ =>
     refine .inr ⟨.u8, 0, congrArg (fun z => SV.c (C.val (.int .u8 z))) hjx, by decide, ?_⟩
     conv => whnf
     refine fun ρ => sbool_e ?_ ρ
     simp only [hd, her, hfo, hpi]
     exact edge_lo hd0 her0 hfo0 hpi0 (by unfold d2V; rw [wr_add hd0]; simp only [ax_in, ax_hi hd0.1]; omega)
    | 1, _ =>
     refine .inr ⟨.u8, 1, congrArg (fun z => SV.c (C.val (.int .u8 z))) hjx, by decide, ?_⟩
     conv => whnf
     refine fun ρ => sbool_e ?_ ρ
     simp only [hd, her, hfo, hpi]
     exact edge_lo hd0 her0 hfo0 hpi0 (by unfold d2V; rw [wr_add hd0]; simp only [ax_in, ax_hi hd0.1]; omega)
    | 2, _ =>
     refine .inr ⟨.u8, 2, congrArg (fun z => SV.c (C.val (.int .u8 z))) hjx, by decide, ?_⟩
     conv => whnf
     refine fun ρ => sbool_e ?_ ρ
     simp only [hd, her, hfo, hpi]
     exact edge_lo hd0 her0 hfo0 hpi0 (by unfold d2V; rw [wr_add hd0]; simp only [ax_in, ax_hi hd0.1]; omega)
  ·cases hd
 ·cases hd
end Go.Proofs.YthmdmbpecgakkaaDoor
