/- quadric.Around and the reference, by the reckoner. -/
import Derived.Test.YtapppahniablmaaDoorQ4
import Derived.Test.YtapppahniablmaaDoorRead
namespace Go.Proofs.YtapppahniablmaaDoor
open Go.RowKit
set_option maxRecDepth 100000

def base8 : List (FuncId × Dn) := (12, dOfQ) :: (13, dOf10) :: (19, dSumQ) :: (21, dSum10) :: (18, dAt10) :: (15, dAtQ) :: base7
theorem base8_ok : AllOk base8 := .cons spOfQ <| .cons spOf10 <| .cons spSumQ <| .cons spSum10 <| .cons spAt10 <| .cons spAtQ <| base7_ok
/-- the coefficients of a triangle's quadric -/
def qc (t : TR) : Nat → Int :=
  let A := plA t.a.x t.a.y t.a.z t.b.x t.b.y t.b.z t.c.x t.c.y t.c.z
  let B := plB t.a.x t.a.y t.a.z t.b.x t.b.y t.b.z t.c.x t.c.y t.c.z
  let C := plC t.a.x t.a.y t.a.z t.b.x t.b.y t.b.z t.c.x t.c.y t.c.z
  let D := plD t.a.x t.a.y t.a.z t.b.x t.b.y t.b.z t.c.x t.c.y t.c.z
  fun
  | 0 => A * A | 1 => 2 * (A * B) | 2 => 2 * (A * C) | 3 => 2 * (A * D) | 4 => B * B | 5 => 2 * (B * C) | 6 => 2 * (B * D) | 7 => C * C | 8 => 2 * (C * D) | _ => D * D
def eqP (p q : PT) : Bool := decide (p.x = q.x) && (decide (p.y = q.y) && decide (p.z = q.z))
def touch (t : TR) (p : PT) : Bool := eqP t.a p || (eqP t.b p || eqP t.c p)
/-- the sum over the triangles at a point -/
def aro : List TR → PT → Nat → Int
  | [], _, _ => 0
  | t :: l, p, k => (if touch t p = true then qc t k else 0) + aro l p k
theorem aro_snoc (p : PT) (k : Nat) (t : TR) : ∀ l, aro (l ++ [t]) p k = aro l p k + (if touch t p = true then qc t k else 0)
  | [] => by simp [aro]
  | x :: l => by simp only [List.cons_append, aro, aro_snoc p k t l]; omega
theorem aro_take (l : List TR) (p : PT) (j k : Nat) (hk : k < l.length) : aro (l.take (k + 1)) p j = aro (l.take k) p j + (if touch l[k] p = true then qc l[k] j else 0) := by
  rw [List.take_succ_eq_append_getElem hk, aro_snoc]
theorem qc_sm (t : TR) (k : Nat) : Sm 3490 (qc t k) := by
  have a := plA_sm t.a.hx t.a.hy t.a.hz t.b.hx t.b.hy t.b.hz t.c.hx t.c.hy t.c.hz
  have b := plB_sm t.a.hx t.a.hy t.a.hz t.b.hx t.b.hy t.b.hz t.c.hx t.c.hy t.c.hz
  have c := plC_sm t.a.hx t.a.hy t.a.hz t.b.hx t.b.hy t.b.hz t.c.hx t.c.hy t.c.hz
  have d := plD_sm t.a.hx t.a.hy t.a.hz t.b.hx t.b.hy t.b.hz t.c.hx t.c.hy t.c.hz
  have two : Sm 2 (2 : Int) := by unfold Sm; decide
  have m : ∀ {j : Nat} {z : Int}, Sm j z → j ≤ 3490 → Sm 3490 z := fun h hj => h.mono hj
  unfold qc
  split
  · exact m (a.mul a) (by decide)
  · exact m (two.mul (a.mul b)) (by decide)
  · exact m (two.mul (a.mul c)) (by decide)
  · exact m (two.mul (a.mul d)) (by decide)
  · exact m (b.mul b) (by decide)
  · exact m (two.mul (b.mul c)) (by decide)
  · exact m (two.mul (b.mul d)) (by decide)
  · exact m (c.mul c) (by decide)
  · exact m (two.mul (c.mul d)) (by decide)
  · exact m (d.mul d) (by decide)
theorem aro_bd {M : Nat} (p : PT) (k : Nat) (hM : ∀ t, (qc t k).natAbs ≤ M) : ∀ l : List TR, (aro l p k).natAbs ≤ l.length * M
  | [] => by simp [aro]
  | t :: l => by
    have ih := aro_bd p k hM l
    have h := hM t
    rw [aro, List.length_cons, Nat.succ_mul]
    split <;> omega
theorem lt_pow {n m a : Nat} (h : a ≤ 1000000) (e : m = 20 + n) : a * 2 ^ n < 2 ^ m := by
  subst e
  have h20 : (2 : Nat) ^ 20 = 1048576 := by decide
  have hp : 0 < (2 : Nat) ^ n := Nat.pow_pos (by decide)
  rw [Nat.pow_add, h20]
  exact Nat.mul_lt_mul_of_pos_right (by omega) hp
theorem aro_sm (p : PT) (k : Nat) {l : List TR} (hl : l.length ≤ 1000000) : Sm 3510 (aro l p k) := by
  have h := lt_pow (n := 3490) (m := 3510) hl (by decide)
  have hM : ∀ t, (qc t k).natAbs ≤ 2 ^ 3490 := fun t => by
    have h := qc_sm t k
    unfold Sm at h
    exact Nat.le_of_lt h
  unfold Sm
  exact Nat.lt_of_le_of_lt (aro_bd p k hM l) h
def aroC (l : List TR) (p : PT) (hl : l.length ≤ 1000000) : List C := [.wid 3510 (aro l p 0) (aro_sm p 0 hl), .wid 3510 (aro l p 1) (aro_sm p 1 hl), .wid 3510 (aro l p 2) (aro_sm p 2 hl), .wid 3510 (aro l p 3) (aro_sm p 3 hl), .wid 3510 (aro l p 4) (aro_sm p 4 hl), .wid 3510 (aro l p 5) (aro_sm p 5 hl), .wid 3510 (aro l p 6) (aro_sm p 6 hl), .wid 3510 (aro l p 7) (aro_sm p 7 hl), .wid 3510 (aro l p 8) (aro_sm p 8 hl), .wid 3510 (aro l p 9) (aro_sm p 9 hl)]
def dAround : Dr
  | [.c (.sli b off len _ _), .agg [.int x hx, .int y hy, .int z hz]], hf => (match hf b, off with
    | some blk, 0 => (match toTrs blk.cs with
      | some l => if h : l.length = len ∧ 0 < len ∧ l.length ≤ 1000000 then some (none, .agg (aroC l ⟨x, y, z, hx, hy, hz⟩ h.2.2)) else none
      | none => none)
    | _, _ => none)
  | [.c (.val (.slice none 0 0)), .agg [.int _ _, .int _ _, .int _ _]], _ => some (none, .agg [zw, zw, zw, zw, zw, zw, zw, zw, zw, zw])
  | _, _ => none
theorem list_cons {l : List SV} {n : Nat} (h : l.length = n + 1) : ∃ g m, l = g :: m ∧ m.length = n := by
  cases l with
  | nil => cases h
  | cons g m => exact ⟨g, m, rfl, by simpa using h⟩
theorem take_le {l : List TR} (h1 : l.length ≤ 1000000) (k : Nat) : (l.take k).length ≤ 1000000 := by rw [List.length_take]; omega
set_option maxHeartbeats 8000000 in
theorem vcAroundQ (l : List TR) (p : PT) (ty : TypeId) (cap : Nat) (_ : 0 < l.length) (h1 : l.length ≤ 1000000) (hl : IR l.length) :
    vcF (env 0 base8) (inl (env 0 base8) noF 0) Tryd.f23 [.c (.sli 0 0 l.length cap hl), .agg (ptC p)] [⟨ty, true, trsC l⟩] fun u _ => ∀ ρ, u.den ρ = (SV.agg (aroC l p h1)).den ρ := by
  conv => whnf
  refine .inr ⟨fun n tm hp => ∃ (k : Nat) (i : Int) (hi : IR i), nth uv tm 10 = .c (.int i hi) ∧ i = k ∧ n = l.length - k ∧ k ≤ l.length ∧ tm.length = 36 ∧ nth uv tm 3 = .c (.ptr 1 0) ∧ nth uv tm 4 = .c (.ptr 2 0) ∧ nth uv tm 5 = .c (.ptr 3 0) ∧ nth uv tm 8 = .c (.sli 0 0 l.length cap hl) ∧ nth uv tm 9 = .c (.int l.length hl) ∧ hp = [⟨ty, true, trsC l⟩, ⟨23, false, ptC p⟩, ⟨28, false, [zw, zw, zw, zw, zw, zw, zw, zw, zw, zw]⟩, ⟨28, false, aroC (l.take (k)) p (take_le h1 (k))⟩], l.length, [3, 4, 5, 8, 9, 10], ?_, ?_⟩
  · refine ⟨_, [⟨ty, true, trsC l⟩, ⟨23, false, ptC p⟩, ⟨28, false, [zw, zw, zw, zw, zw, zw, zw, zw, zw, zw]⟩, ⟨28, false, aroC (l.take (0)) p (take_le h1 (0))⟩], SameTm.refl _, ?_, 0, _, _, rfl, rfl, rfl, Nat.zero_le _, rfl, rfl, rfl, rfl, rfl, rfl, rfl⟩
    exact ⟨⟨rfl, rfl, fun _ => rfl⟩, ⟨rfl, rfl, fun _ => rfl⟩, ⟨rfl, rfl, fun _ => rfl⟩, ⟨rfl, rfl, fun _ => rfl⟩, trivial⟩
  · rintro n tm hp ⟨k, i, hi, hslot, hik, rfl, hk, hlen, s3, s4, s5, s8, s9, rfl⟩
    obtain ⟨g0, t0, rfl, q0⟩ := list_cons hlen
    obtain ⟨g1, t1, rfl, q1⟩ := list_cons q0
    obtain ⟨g2, t2, rfl, q2⟩ := list_cons q1
    obtain ⟨g3, t3, rfl, q3⟩ := list_cons q2
    obtain ⟨g4, t4, rfl, q4⟩ := list_cons q3
    obtain ⟨g5, t5, rfl, q5⟩ := list_cons q4
    obtain ⟨g6, t6, rfl, q6⟩ := list_cons q5
    obtain ⟨g7, t7, rfl, q7⟩ := list_cons q6
    obtain ⟨g8, t8, rfl, q8⟩ := list_cons q7
    obtain ⟨g9, t9, rfl, q9⟩ := list_cons q8
    obtain ⟨g10, t10, rfl, q10⟩ := list_cons q9
    obtain ⟨g11, t11, rfl, q11⟩ := list_cons q10
    obtain ⟨g12, t12, rfl, q12⟩ := list_cons q11
    obtain ⟨g13, t13, rfl, q13⟩ := list_cons q12
    obtain ⟨g14, t14, rfl, q14⟩ := list_cons q13
    obtain ⟨g15, t15, rfl, q15⟩ := list_cons q14
    obtain ⟨g16, t16, rfl, q16⟩ := list_cons q15
    obtain ⟨g17, t17, rfl, q17⟩ := list_cons q16
    obtain ⟨g18, t18, rfl, q18⟩ := list_cons q17
    obtain ⟨g19, t19, rfl, q19⟩ := list_cons q18
    obtain ⟨g20, t20, rfl, q20⟩ := list_cons q19
    obtain ⟨g21, t21, rfl, q21⟩ := list_cons q20
    obtain ⟨g22, t22, rfl, q22⟩ := list_cons q21
    obtain ⟨g23, t23, rfl, q23⟩ := list_cons q22
    obtain ⟨g24, t24, rfl, q24⟩ := list_cons q23
    obtain ⟨g25, t25, rfl, q25⟩ := list_cons q24
    obtain ⟨g26, t26, rfl, q26⟩ := list_cons q25
    obtain ⟨g27, t27, rfl, q27⟩ := list_cons q26
    obtain ⟨g28, t28, rfl, q28⟩ := list_cons q27
    obtain ⟨g29, t29, rfl, q29⟩ := list_cons q28
    obtain ⟨g30, t30, rfl, q30⟩ := list_cons q29
    obtain ⟨g31, t31, rfl, q31⟩ := list_cons q30
    obtain ⟨g32, t32, rfl, q32⟩ := list_cons q31
    obtain ⟨g33, t33, rfl, q33⟩ := list_cons q32
    obtain ⟨g34, t34, rfl, q34⟩ := list_cons q33
    obtain ⟨g35, t35, rfl, q35⟩ := list_cons q34
    have := List.eq_nil_of_length_eq_zero q35
    subst this
    simp only [nth] at hslot s3 s4 s5 s8 s9
    subst hslot hik s3 s4 s5 s8 s9
    clear hlen q0 q1 q2 q3 q4 q5 q6 q7 q8 q9 q10 q11 q12 q13 q14 q15 q16 q17 q18 q19 q20 q21 q22 q23 q24 q25 q26 q27 q28 q29 q30 q31 q32 q33 q34 q35
    conv => whnf
    refine bcase_intro (fun hlt => ?_) (fun hge => ?_)
    · have hlt : k < l.length := by simpa using hlt
      conv => whnf
      rw [eff_index_sli (ho := ?ho1) (hT := ?hT1) (hx := ?hx1) (hk := ?hk1) (hlt := ?hlt1)]
      case ho1 => rfl
      case hT1 => rfl
      case hx1 => rfl
      case hk1 => rfl
      case hlt1 => exact hlt
      conv => whnf
      rw [eff_load_sub (ho := ?ho2) (hT := ?hT2) (hx := ?hx2) (hb := ?hb2) (hm := ?hm2) (hv := ?hv2)]
      case ho2 => rfl
      case hT2 => rfl
      case hx2 => rfl
      case hb2 => rfl
      case hm2 => exact (by rw [Nat.zero_add]; exact subC_trs l hlt : subC (trsC l) (0 + k * 9) 9 = some (trC l[k]))
      case hv2 => rfl
      conv => whnf
      refine bcase_intro (fun ha => ?_) (fun ha => ?_)
      · have ht : touch l[k] p = true := by unfold touch; rw [show eqP l[k].a p = true from ha]; rfl
        conv => whnf
        refine ⟨l.length - (k + 1), by omega, fun vs => ?_⟩
        conv => whnf
        rw [lowB_trs]
        conv => whnf
        refine ⟨_, [⟨ty, true, trsC l⟩, ⟨23, false, ptC p⟩, ⟨28, false, [zw, zw, zw, zw, zw, zw, zw, zw, zw, zw]⟩, ⟨28, false, aroC (l.take (k + 1)) p (take_le h1 (k + 1))⟩], SameTm.refl _, ⟨⟨rfl, rfl, fun _ => rfl⟩, ⟨rfl, rfl, fun _ => rfl⟩, ⟨rfl, rfl, fun _ => rfl⟩, ⟨rfl, rfl, fun ρ => ?_⟩, trivial⟩, k + 1, _, _, rfl, wrap_add1 hlt hl, rfl, hlt, rfl, rfl, rfl, rfl, rfl, rfl, rfl⟩
        refine (cells_congr (wid_eq ?_ ρ) (cells_congr (wid_eq ?_ ρ) (cells_congr (wid_eq ?_ ρ) (cells_congr (wid_eq ?_ ρ) (cells_congr (wid_eq ?_ ρ) (cells_congr (wid_eq ?_ ρ) (cells_congr (wid_eq ?_ ρ) (cells_congr (wid_eq ?_ ρ) (cells_congr (wid_eq ?_ ρ) (cells_congr (wid_eq ?_ ρ) rfl))))))))))
        all_goals (rw [aro_take l p _ k hlt, ht]; rfl)
      · conv => whnf
        refine bcase_intro (fun hb => ?_) (fun hb => ?_)
        · have ht : touch l[k] p = true := by unfold touch; rw [show eqP l[k].a p = false from ha, show eqP l[k].b p = true from hb]; rfl
          conv => whnf
          refine ⟨l.length - (k + 1), by omega, fun vs => ?_⟩
          conv => whnf
          rw [lowB_trs]
          conv => whnf
          refine ⟨_, [⟨ty, true, trsC l⟩, ⟨23, false, ptC p⟩, ⟨28, false, [zw, zw, zw, zw, zw, zw, zw, zw, zw, zw]⟩, ⟨28, false, aroC (l.take (k + 1)) p (take_le h1 (k + 1))⟩], SameTm.refl _, ⟨⟨rfl, rfl, fun _ => rfl⟩, ⟨rfl, rfl, fun _ => rfl⟩, ⟨rfl, rfl, fun _ => rfl⟩, ⟨rfl, rfl, fun ρ => ?_⟩, trivial⟩, k + 1, _, _, rfl, wrap_add1 hlt hl, rfl, hlt, rfl, rfl, rfl, rfl, rfl, rfl, rfl⟩
          refine (cells_congr (wid_eq ?_ ρ) (cells_congr (wid_eq ?_ ρ) (cells_congr (wid_eq ?_ ρ) (cells_congr (wid_eq ?_ ρ) (cells_congr (wid_eq ?_ ρ) (cells_congr (wid_eq ?_ ρ) (cells_congr (wid_eq ?_ ρ) (cells_congr (wid_eq ?_ ρ) (cells_congr (wid_eq ?_ ρ) (cells_congr (wid_eq ?_ ρ) rfl))))))))))
          all_goals (rw [aro_take l p _ k hlt, ht]; rfl)
        · conv => whnf
          refine bcase_intro (fun hc => ?_) (fun hc => ?_)
          · have ht : touch l[k] p = true := by unfold touch; rw [show eqP l[k].a p = false from ha, show eqP l[k].b p = false from hb, show eqP l[k].c p = true from hc]; rfl
            conv => whnf
            refine ⟨l.length - (k + 1), by omega, fun vs => ?_⟩
            conv => whnf
            rw [lowB_trs]
            conv => whnf
            refine ⟨_, [⟨ty, true, trsC l⟩, ⟨23, false, ptC p⟩, ⟨28, false, [zw, zw, zw, zw, zw, zw, zw, zw, zw, zw]⟩, ⟨28, false, aroC (l.take (k + 1)) p (take_le h1 (k + 1))⟩], SameTm.refl _, ⟨⟨rfl, rfl, fun _ => rfl⟩, ⟨rfl, rfl, fun _ => rfl⟩, ⟨rfl, rfl, fun _ => rfl⟩, ⟨rfl, rfl, fun ρ => ?_⟩, trivial⟩, k + 1, _, _, rfl, wrap_add1 hlt hl, rfl, hlt, rfl, rfl, rfl, rfl, rfl, rfl, rfl⟩
            refine (cells_congr (wid_eq ?_ ρ) (cells_congr (wid_eq ?_ ρ) (cells_congr (wid_eq ?_ ρ) (cells_congr (wid_eq ?_ ρ) (cells_congr (wid_eq ?_ ρ) (cells_congr (wid_eq ?_ ρ) (cells_congr (wid_eq ?_ ρ) (cells_congr (wid_eq ?_ ρ) (cells_congr (wid_eq ?_ ρ) (cells_congr (wid_eq ?_ ρ) rfl))))))))))
            all_goals (rw [aro_take l p _ k hlt, ht]; rfl)
          · have ht : touch l[k] p = false := by unfold touch; rw [show eqP l[k].a p = false from ha, show eqP l[k].b p = false from hb, show eqP l[k].c p = false from hc]; rfl
            conv => whnf
            refine ⟨l.length - (k + 1), by omega, fun vs => ?_⟩
            conv => whnf
            rw [lowB_trs]
            conv => whnf
            refine ⟨_, [⟨ty, true, trsC l⟩, ⟨23, false, ptC p⟩, ⟨28, false, [zw, zw, zw, zw, zw, zw, zw, zw, zw, zw]⟩, ⟨28, false, aroC (l.take (k + 1)) p (take_le h1 (k + 1))⟩], SameTm.refl _, ⟨⟨rfl, rfl, fun _ => rfl⟩, ⟨rfl, rfl, fun _ => rfl⟩, ⟨rfl, rfl, fun _ => rfl⟩, ⟨rfl, rfl, fun ρ => ?_⟩, trivial⟩, k + 1, _, _, rfl, wrap_add1 hlt hl, rfl, hlt, rfl, rfl, rfl, rfl, rfl, rfl, rfl⟩
            refine (cells_congr (wid_eq ?_ ρ) (cells_congr (wid_eq ?_ ρ) (cells_congr (wid_eq ?_ ρ) (cells_congr (wid_eq ?_ ρ) (cells_congr (wid_eq ?_ ρ) (cells_congr (wid_eq ?_ ρ) (cells_congr (wid_eq ?_ ρ) (cells_congr (wid_eq ?_ ρ) (cells_congr (wid_eq ?_ ρ) (cells_congr (wid_eq ?_ ρ) rfl))))))))))
            all_goals (rw [aro_take l p _ k hlt, ht]; exact (Int.add_zero _).symm)
    · have hge : k = l.length := by have : ¬ k < l.length := by simpa using hge
                                    omega
      conv => whnf
      subst hge
      intro ρ
      have e : l.take l.length = l := List.take_length
      refine agg_congr (cells_congr (wid_eq ?_ ρ) (cells_congr (wid_eq ?_ ρ) (cells_congr (wid_eq ?_ ρ) (cells_congr (wid_eq ?_ ρ) (cells_congr (wid_eq ?_ ρ) (cells_congr (wid_eq ?_ ρ) (cells_congr (wid_eq ?_ ρ) (cells_congr (wid_eq ?_ ρ) (cells_congr (wid_eq ?_ ρ) (cells_congr (wid_eq ?_ ρ) rfl))))))))))
      all_goals rw [e]
theorem spAroundQ : SpR Tryd.prog 23 dAround := by
  refine ⟨(⟨Tryd.func23, by kernel_rfl, by kernel_rfl⟩ : FnOk Tryd.prog 23 Tryd.f23).callable, fun args hf p v hd => ?_⟩
  unfold dAround at hd
  split at hd
  · rename_i b off len cap hl x hx y hy z hz
    split at hd
    · rename_i blk hb
      split at hd
      · rename_i l hpl
        split at hd
        · rename_i hlen
          cases hd
          obtain ⟨rfl, h0, h1⟩ := hlen
          have hcs := toTrs_ok hpl
          refine ⟨fun _ _ => rfl, fun _ ρ w hh => ?_⟩
          have hH := (hh b blk hb).1
          rw [hcs] at hH
          have hv := vcAroundQ l ⟨x, y, z, hx, hy, hz⟩ blk.ty cap h0 h1 hl
          refine read_ok (P := Tryd.prog) (env_ok base8_ok 0) mixed noF_ok ⟨Tryd.func23, by kernel_rfl, by kernel_rfl⟩ (fun _ _ => rfl) (fun i c hi => ?_) (fun _ => ρ b) (fun ρ' hρ => ?_) hv w (fun i c hi => ?_)
          · cases i with
            | zero => simp [nthO] at hi; subst hi; exact ⟨rfl, by rw [trsC_size]; omega, trsC_pure l⟩
            | succ i => simp [nthO] at hi
          · have := hρ 0 rfl
            simp only [List.map_cons, List.map_nil, SV.den, C.den, C.cells, this]
            rfl
          · cases i with
            | zero => simp [nthO] at hi; subst hi; rw [trsC_pure l (fun _ => ρ b) ρ]; exact hH
            | succ i => simp [nthO] at hi
        · cases hd
      · cases hd
    · cases hd
  · rename_i x hx y hy z hz hf'
    cases hd
    refine ⟨fun _ _ => rfl, fun _ ρ w _ => ?_⟩
    refine pure_ok (P := Tryd.prog) (env_ok base8_ok 20) mixed noF_ok ⟨Tryd.func23, by kernel_rfl, by kernel_rfl⟩ (n := 0) (fun _ _ => rfl) (fun _ _ => rfl) ?_ ρ w
    conv => whnf
    exact fun _ => rfl
  · cases hd
end Go.Proofs.YtapppahniablmaaDoor
