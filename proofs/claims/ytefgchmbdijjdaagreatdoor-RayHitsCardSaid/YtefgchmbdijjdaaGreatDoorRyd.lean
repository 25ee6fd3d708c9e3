/- Plain laws: the part of a ray in a box. ray.Box, by the reckoner. -/
import Derived.Test.YtefgchmbdijjdaaGreatDoorRyb
namespace Go.Proofs.YtefgchmbdijjdaaGreatDoor
open Go.RowKit
set_option maxRecDepth 100000

def bst (w d a b : Int) (s : Rat × Option Rat) : Option (Rat × Option Rat) :=
 if b < a then none else
 if d = 0 then (if 0 < a ∨ b < 0 then none else some s) else
 some (if s.1 < (if d < 0 then (b : Rat) / ((w * d : Int) : Rat) else (a : Rat) / ((w * d : Int) : Rat)) then (if d < 0 then (b : Rat) / ((w * d : Int) : Rat) else (a : Rat) / ((w * d : Int) : Rat)) else s.1,
  match s.2 with
  | none => some (if d < 0 then (a : Rat) / ((w * d : Int) : Rat) else (b : Rat) / ((w * d : Int) : Rat))
  | some u => if (if d < 0 then (a : Rat) / ((w * d : Int) : Rat) else (b : Rat) / ((w * d : Int) : Rat)) < u then some (if d < 0 then (a : Rat) / ((w * d : Int) : Rat) else (b : Rat) / ((w * d : Int) : Rat)) else some u)
def cnd (w d a b : Int) : List Rat := if d = 0 then [] else [(a : Rat) / ((w * d : Int) : Rat), (b : Rat) / ((w * d : Int) : Rat)]
structure Good (P : Rat → Prop) (s : Rat × Option Rat) (C : List Rat) : Prop where
 pos : 0 ≤ s.1
 mem : s.1 ∈ C
 mem2 : ∀ u, s.2 = some u → u ∈ C
 char : ∀ t, 0 ≤ t → (P t ↔ s.1 ≤ t ∧ ∀ u, s.2 = some u → t ≤ u)
theorem good_step {P : Rat → Prop} {s s' : Rat × Option Rat} {C : List Rat} (h : Good P s C) {w d a b : Int} (hw : 0 < w) (hs : bst w d a b s = some s') :
  Good (fun t => P t ∧ (a : Rat) ≤ t * ((w * d : Int) : Rat) ∧ t * ((w * d : Int) : Rat) ≤ (b : Rat)) s' (C ++ cnd w d a b) := by
 obtain ⟨i, o⟩ := s
 obtain ⟨h1, h2, h3, h4⟩ := h
 simp only at h1 h2 h3 h4
 unfold bst at hs
 split at hs
 ·cases hs
 rename_i hab
 split at hs
 ·rename_i hd
  split at hs
  ·cases hs
  ·rename_i hn
   cases hs
   subst hd
   refine ⟨h1, by simp [h2], fun u hu => by simp [h3 u hu], fun t ht => ?_⟩
   rw [h4 t ht]
   have ha : (a : Rat) ≤ 0 := Rat.intCast_nonpos.2 (by omega)
   have hb : (0 : Rat) ≤ (b : Rat) := Rat.intCast_nonneg.2 (by omega)
   have e : t * ((w * 0 : Int) : Rat) = 0 := by rw [Int.mul_zero]; exact Rat.mul_zero t
   rw [e]
   exact ⟨fun h => h.1, fun h => ⟨h, ha, hb⟩⟩
 ·rename_i hd
  cases hs
  have hc : cnd w d a b = [(a : Rat) / ((w * d : Int) : Rat), (b : Rat) / ((w * d : Int) : Rat)] := by unfold cnd; rw [if_neg hd]
  rw [hc]
  have key : ∀ t : Rat, ((a : Rat) ≤ t * ((w * d : Int) : Rat) ∧ t * ((w * d : Int) : Rat) ≤ (b : Rat)) ↔ (if d < 0 then (b : Rat) / ((w * d : Int) : Rat) else (a : Rat) / ((w * d : Int) : Rat)) ≤ t ∧ t ≤ (if d < 0 then (a : Rat) / ((w * d : Int) : Rat) else (b : Rat) / ((w * d : Int) : Rat)) := by
   intro t
   by_cases hn : d < 0
   ·have hcn : ((w * d : Int) : Rat) < 0 := Rat.intCast_neg_iff.2 (Int.mul_neg_of_pos_of_neg hw hn)
    rw [if_pos hn, if_pos hn, le_muln hcn, muln_le hcn]
    exact And.comm
   ·have hcp : 0 < ((w * d : Int) : Rat) := Rat.intCast_pos.2 (Int.mul_pos hw (by omega))
    rw [if_neg hn, if_neg hn, le_mulp hcp, mulp_le hcp]
  have m1 : (if d < 0 then (b : Rat) / ((w * d : Int) : Rat) else (a : Rat) / ((w * d : Int) : Rat)) ∈ [(a : Rat) / ((w * d : Int) : Rat), (b : Rat) / ((w * d : Int) : Rat)] := by split <;> simp
  have m2 : (if d < 0 then (a : Rat) / ((w * d : Int) : Rat) else (b : Rat) / ((w * d : Int) : Rat)) ∈ [(a : Rat) / ((w * d : Int) : Rat), (b : Rat) / ((w * d : Int) : Rat)] := by split <;> simp
  generalize (if d < 0 then (b : Rat) / ((w * d : Int) : Rat) else (a : Rat) / ((w * d : Int) : Rat)) = f at key m1 ⊢
  generalize (if d < 0 then (a : Rat) / ((w * d : Int) : Rat) else (b : Rat) / ((w * d : Int) : Rat)) = g at key m2 ⊢
  refine ⟨?_, ?_, ?_, fun t ht => ?_⟩
  ·simp only; split <;> grind
  ·simp only; split
   ·exact List.mem_append_right _ m1
   ·exact List.mem_append_left _ h2
  ·intro u hu
   cases o with
   | none => simp only at hu; cases hu; exact List.mem_append_right _ m2
   | some v =>
    simp only at hu
    split at hu
    ·cases hu; exact List.mem_append_right _ m2
    ·cases hu; exact List.mem_append_left _ (h3 _ rfl)
  ·simp only
   rw [key t, h4 t ht]
   cases o with
   | none =>
    simp only [Option.some.injEq, reduceCtorEq, false_implies, implies_true, and_true, forall_eq']
    split <;> grind
   | some v =>
    simp only [Option.some.injEq, forall_eq']
    split <;> split <;> simp only [Option.some.injEq, forall_eq'] <;> grind
theorem bst_none {w d a b : Int} {s : Rat × Option Rat} (hs : bst w d a b s = none) (t : Rat) : ¬ ((a : Rat) ≤ t * ((w * d : Int) : Rat) ∧ t * ((w * d : Int) : Rat) ≤ (b : Rat)) := by
 rintro ⟨h1, h2⟩
 unfold bst at hs
 split at hs
 ·rename_i hab
  have := Rat.intCast_lt_intCast.2 hab
  grind
 split at hs
 ·rename_i hd
  split at hs
  ·rename_i hn
   subst hd
   have e : t * ((w * 0 : Int) : Rat) = 0 := by rw [Int.mul_zero]; exact Rat.mul_zero t
   rw [e] at h1 h2
   have k1 := Rat.intCast_nonpos.1 h1
   have k2 := Rat.intCast_nonneg.1 h2
   omega
  ·cases hs
 ·cases hs
theorem bst_out {w d a b : Int} {s s' : Rat × Option Rat} (hs : bst w d a b s = some s') : s'.2 = none ↔ s.2 = none ∧ d = 0 := by
 unfold bst at hs
 split at hs
 ·cases hs
 split at hs
 ·rename_i hd
  split at hs
  ·cases hs
  ·cases hs; simp [hd]
 ·rename_i hd
  cases hs
  simp only [hd, and_false, iff_false]
  cases s.2 with
  | none => simp
  | some u => simp only; split <;> split <;> simp
theorem in_lo {w : Int} (hw : 0 < w) (lo s d : Int) (t : Rat) : (lo : Rat) ≤ (s : Rat) / (w : Rat) + t * (d : Rat) ↔ ((lo * w - s : Int) : Rat) ≤ t * ((w * d : Int) : Rat) := by
 have hw' : 0 < (w : Rat) := Rat.intCast_pos.2 hw
 have e : (s : Rat) / (w : Rat) * (w : Rat) = (s : Rat) := Rat.div_mul_cancel (by grind)
 rw [le_mulw hw', Rat.intCast_sub, Rat.intCast_mul, Rat.intCast_mul]
 generalize (s : Rat) / (w : Rat) = q at e ⊢
 constructor <;> intro _ <;> grind
theorem in_hi {w : Int} (hw : 0 < w) (hi s d : Int) (t : Rat) : (s : Rat) / (w : Rat) + t * (d : Rat) ≤ (hi : Rat) ↔ t * ((w * d : Int) : Rat) ≤ ((hi * w - s : Int) : Rat) := by
 have hw' : 0 < (w : Rat) := Rat.intCast_pos.2 hw
 have e : (s : Rat) / (w : Rat) * (w : Rat) = (s : Rat) := Rat.div_mul_cancel (by grind)
 rw [le_mulw hw', Rat.intCast_sub, Rat.intCast_mul, Rat.intCast_mul]
 generalize (s : Rat) / (w : Rat) = q at e ⊢
 constructor <;> intro _ <;> grind
def boxS (r : RZ) (lo hi : V3) : Option (Rat × Option Rat) :=
 (bst r.w r.d.x (r.at lo).x (r.at hi).x (0, none)).bind fun s => (bst r.w r.d.y (r.at lo).y (r.at hi).y s).bind fun s => bst r.w r.d.z (r.at lo).z (r.at hi).z s
def boxE : Option (Rat × Option Rat) → Option (Rat × Rat)
 | some (i, some o) => if o < i then none else some (i, o)
 | _ => none
def boxR (r : RZ) (lo hi : V3) : Option (Rat × Rat) := if permZ r = true then boxE (boxS r lo hi) else none
noncomputable def wiB (w s d lo hi : Int) (t : Rat) : Bool := opq (decide ((lo : Rat) ≤ (s : Rat) / (w : Rat) + t * (d : Rat)) && decide ((s : Rat) / (w : Rat) + t * (d : Rat) ≤ (hi : Rat)))
noncomputable def inBx (r : RZ) (lo hi : V3) (t : Rat) : Bool := wiB r.w r.x r.d.x lo.x hi.x t && (wiB r.w r.y r.d.y lo.y hi.y t && wiB r.w r.z r.d.z lo.z hi.z t)
def cands (r : RZ) (lo hi : V3) : List Rat := [0] ++ cnd r.w r.d.x (r.at lo).x (r.at hi).x ++ cnd r.w r.d.y (r.at lo).y (r.at hi).y ++ cnd r.w r.d.z (r.at lo).z (r.at hi).z
theorem wiB_iff {w : Int} (hw : 0 < w) (s d lo hi : Int) (t : Rat) : wiB w s d lo hi t = true ↔ ((lo * w - s : Int) : Rat) ≤ t * ((w * d : Int) : Rat) ∧ t * ((w * d : Int) : Rat) ≤ ((hi * w - s : Int) : Rat) := by
 unfold wiB
 rw [opq_eq, Bool.and_eq_true, decide_eq_true_eq, decide_eq_true_eq, in_lo hw, in_hi hw]
theorem inBx_iff {r : RZ} (hw : 0 < r.w) (lo hi : V3) (t : Rat) : inBx r lo hi t = true ↔ (((r.at lo).x : Rat) ≤ t * ((r.w * r.d.x : Int) : Rat) ∧ t * ((r.w * r.d.x : Int) : Rat) ≤ ((r.at hi).x : Rat)) ∧
  (((r.at lo).y : Rat) ≤ t * ((r.w * r.d.y : Int) : Rat) ∧ t * ((r.w * r.d.y : Int) : Rat) ≤ ((r.at hi).y : Rat)) ∧ (((r.at lo).z : Rat) ≤ t * ((r.w * r.d.z : Int) : Rat) ∧ t * ((r.w * r.d.z : Int) : Rat) ≤ ((r.at hi).z : Rat)) := by
 unfold inBx
 rw [Bool.and_eq_true, Bool.and_eq_true, wiB_iff hw, wiB_iff hw, wiB_iff hw]
 exact Iff.rfl
theorem good0 : Good (fun _ => True) (0, none) [0] := ⟨Rat.le_refl, by simp, fun u h => by (cases h), fun t ht => by simp [ht]⟩
theorem bst_qb {w d a b : Int} {s s' : Rat × Option Rat} (h1 : QB s.1) (h2 : ∀ u, s.2 = some u → QB u) (ha : Sm 300 a) (hb : Sm 300 b) (hc : Sm 300 (w * d)) (hs : bst w d a b s = some s') : QB s'.1 ∧ ∀ u, s'.2 = some u → QB u := by
 unfold bst at hs
 split at hs
 ·cases hs
 split at hs
 ·split at hs
  ·cases hs
  ·cases hs; exact ⟨h1, h2⟩
 ·cases hs
  have qa := qb_div ha hc
  have qb := qb_div hb hc
  have q1 : QB (if d < 0 then (b : Rat) / ((w * d : Int) : Rat) else (a : Rat) / ((w * d : Int) : Rat)) := by split <;> assumption
  have q2 : QB (if d < 0 then (a : Rat) / ((w * d : Int) : Rat) else (b : Rat) / ((w * d : Int) : Rat)) := by split <;> assumption
  generalize (if d < 0 then (b : Rat) / ((w * d : Int) : Rat) else (a : Rat) / ((w * d : Int) : Rat)) = f at q1 ⊢
  generalize (if d < 0 then (a : Rat) / ((w * d : Int) : Rat) else (b : Rat) / ((w * d : Int) : Rat)) = g at q2 ⊢
  refine ⟨?_, fun u hu => ?_⟩
  ·show QB (if s.1 < f then f else s.1)
   split <;> assumption
  ·cases hs2 : s.2 with
   | none => rw [hs2] at hu; cases hu; exact q2
   | some v =>
    rw [hs2] at hu
    have hu : (if g < v then some g else some v) = some u := hu
    split at hu
    ·cases hu; exact q2
    ·cases hu; exact h2 _ hs2
def boxK (r : RZ) (lo hi : V3) : Nat → Option (Rat × Option Rat)
 | 0 => some (0, none)
 | 1 => bst r.w r.d.x (r.at lo).x (r.at hi).x (0, none)
 | 2 => (bst r.w r.d.x (r.at lo).x (r.at hi).x (0, none)).bind fun s => bst r.w r.d.y (r.at lo).y (r.at hi).y s
 | _ => boxS r lo hi
noncomputable def bI (r : RZ) (lo hi : V3) : Rat := opq (match boxR r lo hi with | some p => p.1 | none => 0)
noncomputable def bO (r : RZ) (lo hi : V3) : Rat := opq (match boxR r lo hi with | some p => p.2 | none => 0)
noncomputable def bB (r : RZ) (lo hi : V3) : Bool := opq (boxR r lo hi).isSome
def oN : Option Rat → Int
 | none => 0
 | some u => u.num
def oD : Option Rat → Int
 | none => 0
 | some u => (u.den : Int)
theorem sm_oN {o : Option Rat} (h : ∀ u, o = some u → QB u) : Sm 300 (oN o) := by
 cases o with
 | none => exact sm_zero 300
 | some u => exact (h u rfl).1
theorem sm_oD {o : Option Rat} (h : ∀ u, o = some u → QB u) : Sm 300 (oD o) := by
 cases o with
 | none => exact sm_zero 300
 | some u => exact (h u rfl).2
structure BoxB (r : RZ) (lo hi : V3) : Prop where
 ax : Sm 300 (r.at lo).x
 ay : Sm 300 (r.at lo).y
 az : Sm 300 (r.at lo).z
 bx : Sm 300 (r.at hi).x
 by_ : Sm 300 (r.at hi).y
 bz : Sm 300 (r.at hi).z
 cx : Sm 300 (r.w * r.d.x)
 cy : Sm 300 (r.w * r.d.y)
 cz : Sm 300 (r.w * r.d.z)
theorem boxK_qb {r : RZ} {lo hi : V3} (h : BoxB r lo hi) : ∀ k s, boxK r lo hi k = some s → QB s.1 ∧ ∀ u, s.2 = some u → QB u := by
 have k0 : QB ((0, none) : Rat × Option Rat).1 ∧ ∀ u, ((0, none) : Rat × Option Rat).2 = some u → QB u := ⟨qb0, fun u hu => nomatch hu⟩
 have k1 : ∀ s, bst r.w r.d.x (r.at lo).x (r.at hi).x (0, none) = some s → QB s.1 ∧ ∀ u, s.2 = some u → QB u := fun s hs => bst_qb k0.1 k0.2 h.ax h.bx h.cx hs
 have k2 : ∀ s, ((bst r.w r.d.x (r.at lo).x (r.at hi).x (0, none)).bind fun s => bst r.w r.d.y (r.at lo).y (r.at hi).y s) = some s → QB s.1 ∧ ∀ u, s.2 = some u → QB u := fun s hs => by
  obtain ⟨s1, h1, h2⟩ := Option.bind_eq_some_iff.1 hs
  exact bst_qb (k1 s1 h1).1 (k1 s1 h1).2 h.ay h.by_ h.cy h2
 have k3 : ∀ s, boxS r lo hi = some s → QB s.1 ∧ ∀ u, s.2 = some u → QB u := fun s hs => by
  unfold boxS at hs
  rw [← Option.bind_assoc] at hs
  obtain ⟨s1, h1, h2⟩ := Option.bind_eq_some_iff.1 hs
  exact bst_qb (k2 s1 h1).1 (k2 s1 h1).2 h.az h.bz h.cz h2
 intro k s hs
 match k with
 | 0 => cases hs; exact k0
 | 1 => exact k1 s hs
 | 2 => exact k2 s hs
 | n + 3 => exact k3 s hs
theorem boxR_qb {r : RZ} {lo hi : V3} (h : BoxB r lo hi) : QB (bI r lo hi) ∧ QB (bO r lo hi) := by
 unfold bI bO
 rw [opq_eq, opq_eq]
 cases hb : boxR r lo hi with
 | none => exact ⟨qb0, qb0⟩
 | some p =>
  unfold boxR at hb
  split at hb
  ·unfold boxE at hb
   split at hb
   ·rename_i i o hs
    split at hb
    ·cases hb
    ·cases hb
     have := boxK_qb h 3 _ hs
     exact ⟨this.1, this.2 _ rfl⟩
   ·cases hb
  ·cases hb
end Go.Proofs.YtefgchmbdijjdaaGreatDoor

namespace Go.Proofs.YtefgchmbdijjdaaGreatDoor
open Go.RowKit
set_option maxRecDepth 100000

theorem box_bits {rx ry rz rw d0 d1 d2 x1 y1 z1 x2 y2 z2 : Int} (hrx : IR rx) (hry : IR ry) (hrz : IR rz) (hrw : IR rw) (hd0 : IR d0) (hd1 : IR d1) (hd2 : IR d2) (hx1 : IR x1) (hy1 : IR y1) (hz1 : IR z1) (hx2 : IR x2) (hy2 : IR y2) (hz2 : IR z2) : BoxB (⟨rx, ry, rz, rw, ⟨d0, d1, d2⟩⟩ : RZ) ⟨x1, y1, z1⟩ ⟨x2, y2, z2⟩ := by
 have m : ∀ {a b c : Int}, IR a → IR b → IR c → Sm 300 (a * b - c) := fun ha hb hc => (sm_subj (Sm.mul (smI ha) (smI hb)) (smI hc)).mono (by decide)
 have c : ∀ {a b : Int}, IR a → IR b → Sm 300 (a * b) := fun ha hb => (Sm.mul (smI ha) (smI hb)).mono (by decide)
 exact ⟨m hx1 hrw hrx, m hy1 hrw hry, m hz1 hrw hrz, m hx2 hrw hrx, m hy2 hrw hry, m hz2 hrw hrz, c hrw hd0, c hrw hd1, c hrw hd2⟩
noncomputable def boxV (r : RZ) (lo hi : V3) (h : BoxB r lo hi) : SV := .tup [.agg [.wid 300 (bI r lo hi).num (boxR_qb h).1.1, .wid 300 ((bI r lo hi).den : Int) (boxR_qb h).1.2], .agg [.wid 300 (bO r lo hi).num (boxR_qb h).2.1, .wid 300 ((bO r lo hi).den : Int) (boxR_qb h).2.2], .c (.val (.bool (bB r lo hi)))]
theorem box_no {r : RZ} {lo hi : V3} (hB : BoxB r lo hi) (h : boxR r lo hi = none) {k j k' j' : Nat} (h1 : Sm k 0) (h2 : Sm j 1) (h3 : Sm k' 0) (h4 : Sm j' 1) (ρ : Rho) : (SV.tup [.agg [.wid k 0 h1, .wid j 1 h2], .agg [.wid k' 0 h3, .wid j' 1 h4], .c (.val (.bool false))]).den ρ = (boxV r lo hi hB).den ρ := by
 have e1 : bI r lo hi = 0 := by unfold bI; rw [opq_eq, h]
 have e2 : bO r lo hi = 0 := by unfold bO; rw [opq_eq, h]
 exact tup3_sv (wid2_agg _ _ _ _ (by rw [e1]; rfl) (by rw [e1]; rfl) ρ) (wid2_agg _ _ _ _ (by rw [e2]; rfl) (by rw [e2]; rfl) ρ) (by unfold bB; rw [opq_eq, h]; rfl)
theorem box_yes {r : RZ} {lo hi : V3} (hB : BoxB r lo hi) {i u : Rat} (h : boxR r lo hi = some (i, u)) {k j k' j' : Nat} (h1 : Sm k i.num) (h2 : Sm j (i.den : Int)) (h3 : Sm k' (oN (some u))) (h4 : Sm j' (oD (some u))) (ρ : Rho) : (SV.tup [.agg [.wid k i.num h1, .wid j (i.den : Int) h2], .agg [.wid k' (oN (some u)) h3, .wid j' (oD (some u)) h4], .c (.val (.bool true))]).den ρ = (boxV r lo hi hB).den ρ := by
 have e1 : bI r lo hi = i := by unfold bI; rw [opq_eq, h]
 have e2 : bO r lo hi = u := by unfold bO; rw [opq_eq, h]
 exact tup3_sv (wid2_agg _ _ _ _ (by rw [e1]) (by rw [e1]) ρ) (wid2_agg _ _ _ _ (by rw [e2]; rfl) (by rw [e2]; rfl) ρ) (by unfold bB; rw [opq_eq, h]; rfl)
theorem box_np {r : RZ} {lo hi : V3} (h : permZ r = false) : boxR r lo hi = none := by unfold boxR; rw [h]; rfl
theorem nx0 {r : RZ} {lo hi : V3} {s : Rat × Option Rat} (h : boxK r lo hi 0 = some s) : boxK r lo hi 1 = bst r.w r.d.x (r.at lo).x (r.at hi).x s := by cases h; rfl
theorem nx1 {r : RZ} {lo hi : V3} {s : Rat × Option Rat} (h : boxK r lo hi 1 = some s) : boxK r lo hi 2 = bst r.w r.d.y (r.at lo).y (r.at hi).y s := by
 have h : bst r.w r.d.x (r.at lo).x (r.at hi).x (0, none) = some s := h
 show (bst r.w r.d.x (r.at lo).x (r.at hi).x (0, none)).bind _ = _
 rw [h]; rfl
theorem bK3 {r : RZ} {lo hi : V3} : boxK r lo hi 3 = (boxK r lo hi 2).bind fun s => bst r.w r.d.z (r.at lo).z (r.at hi).z s := by
 show boxS r lo hi = ((bst r.w r.d.x (r.at lo).x (r.at hi).x (0, none)).bind fun s => bst r.w r.d.y (r.at lo).y (r.at hi).y s).bind _
 unfold boxS
 rw [Option.bind_assoc]
theorem bK2 {r : RZ} {lo hi : V3} : boxK r lo hi 2 = (boxK r lo hi 1).bind fun s => bst r.w r.d.y (r.at lo).y (r.at hi).y s := rfl
theorem nx2 {r : RZ} {lo hi : V3} {s : Rat × Option Rat} (h : boxK r lo hi 2 = some s) : boxK r lo hi 3 = bst r.w r.d.z (r.at lo).z (r.at hi).z s := by
 rw [bK3, h]; rfl
theorem box_none3 {r : RZ} {lo hi : V3} (h : boxK r lo hi 3 = none) : boxR r lo hi = none := by
 have h : boxS r lo hi = none := h
 unfold boxR; rw [h]; split <;> rfl
theorem fl2 {r : RZ} {lo hi : V3} {s : Rat × Option Rat} (h : boxK r lo hi 2 = some s) (hb : bst r.w r.d.z (r.at lo).z (r.at hi).z s = none) : boxR r lo hi = none := box_none3 ((nx2 h).trans hb)
theorem fl1 {r : RZ} {lo hi : V3} {s : Rat × Option Rat} (h : boxK r lo hi 1 = some s) (hb : bst r.w r.d.y (r.at lo).y (r.at hi).y s = none) : boxR r lo hi = none := box_none3 (by
 rw [bK3, (nx1 h).trans hb]; rfl)
theorem fl0 {r : RZ} {lo hi : V3} {s : Rat × Option Rat} (h : boxK r lo hi 0 = some s) (hb : bst r.w r.d.x (r.at lo).x (r.at hi).x s = none) : boxR r lo hi = none := box_none3 (by
 rw [bK3, bK2, (nx0 h).trans hb]; rfl)
def stp (c f t : Int) (s : Rat × Option Rat) : Rat × Option Rat := (if s.1 < (f : Rat) / (c : Rat) then (f : Rat) / (c : Rat) else s.1, some (match s.2 with | none => (t : Rat) / (c : Rat) | some u => if (t : Rat) / (c : Rat) < u then (t : Rat) / (c : Rat) else u))
theorem gt_y {a b : Int} (h : decide (0 < (a - b).sign) = true) : b < a := by have := Int.sign_pos_iff.1 (of_decide_eq_true h); omega
theorem gt_n {a b : Int} (h : decide (0 < (a - b).sign) = false) : ¬ b < a := fun e => of_decide_eq_false h (Int.sign_pos_iff.2 (by omega))
theorem sg_y {a : Int} (h : decide (0 < a.sign) = true) : 0 < a := Int.sign_pos_iff.1 (of_decide_eq_true h)
theorem sg_n {a : Int} (h : decide (0 < a.sign) = false) : ¬ 0 < a := fun e => of_decide_eq_false h (Int.sign_pos_iff.2 e)
theorem sl_y {a : Int} (h : decide (a.sign < 0) = true) : a < 0 := Int.sign_neg_iff.1 (of_decide_eq_true h)
theorem sl_n {a : Int} (h : decide (a.sign < 0) = false) : ¬ a < 0 := fun e => of_decide_eq_false h (Int.sign_neg_iff.2 e)
theorem bst_f1 {w d a b : Int} {s : Rat × Option Rat} (h : b < a) : bst w d a b s = none := by unfold bst; rw [if_pos h]
theorem bst_f2 {w d a b : Int} {s : Rat × Option Rat} (h : ¬ b < a) (hd : d = 0) (h2 : 0 < a ∨ b < 0) : bst w d a b s = none := by unfold bst; rw [if_neg h, if_pos hd, if_pos h2]
theorem bst_z {w d a b : Int} {s : Rat × Option Rat} (h : ¬ b < a) (hd : d = 0) (h2 : ¬ 0 < a) (h3 : ¬ b < 0) : bst w d a b s = some s := by unfold bst; rw [if_neg h, if_pos hd, if_neg (fun e => e.elim h2 h3)]
theorem bst_p {w d a b : Int} {s : Rat × Option Rat} (h : ¬ b < a) (hd : d ≠ 0) (hn : ¬ d < 0) : bst w d a b s = some (stp (w * d) a b s) := by
 unfold bst stp; rw [if_neg h, if_neg hd]; simp only [hn, if_false]
 cases s.2 with
 | none => rfl
 | some u => simp only; (repeat' split) <;> rfl
theorem bst_n {w d a b : Int} {s : Rat × Option Rat} (h : ¬ b < a) (hd : d ≠ 0) (hn : d < 0) : bst w d a b s = some (stp (w * d) b a s) := by
 unfold bst stp; rw [if_neg h, if_neg hd]; simp only [hn, if_true]
 cases s.2 with
 | none => rfl
 | some u => simp only; (repeat' split) <;> rfl
section
variable {c f t : Int} (hc : c ≠ 0) {s : Rat × Option Rat}
include hc
theorem in_take (h : decide (0 < (pN (fracN f c) (fracD f c) * pD (s.1.den : Int) - pN s.1.num (s.1.den : Int) * pD (fracD f c)).sign) = true) : fracN f c = (stp c f t s).1.num ∧ fracD f c = ((stp c f t s).1.den : Int) := by
 obtain ⟨e1, e2⟩ := frac_rat (n := f) hc
 rw [e1, e2, cmp_gt] at h
 have h := of_decide_eq_true h
 rw [e1, e2]
 simp only [stp, if_pos h, and_self]
theorem in_keep (h : decide (0 < (pN (fracN f c) (fracD f c) * pD (s.1.den : Int) - pN s.1.num (s.1.den : Int) * pD (fracD f c)).sign) = false) : s.1.num = (stp c f t s).1.num ∧ (s.1.den : Int) = ((stp c f t s).1.den : Int) := by
 obtain ⟨e1, e2⟩ := frac_rat (n := f) hc
 rw [e1, e2, cmp_gt] at h
 have h := of_decide_eq_false h
 simp only [stp, if_neg h, and_self]
theorem out_new (h : (!s.2.isSome) = true) : fracN t c = oN (stp c f t s).2 ∧ fracD t c = oD (stp c f t s).2 := by
 obtain ⟨e1, e2⟩ := frac_rat (n := t) hc
 obtain ⟨i, o⟩ := s
 cases o with
 | none => exact ⟨e1, e2⟩
 | some u => cases h
theorem out_take (h0 : (!s.2.isSome) = false) (h : decide ((pN (fracN t c) (fracD t c) * pD (oD s.2) - pN (oN s.2) (oD s.2) * pD (fracD t c)).sign < 0) = true) : fracN t c = oN (stp c f t s).2 ∧ fracD t c = oD (stp c f t s).2 := by
 obtain ⟨e1, e2⟩ := frac_rat (n := t) hc
 obtain ⟨i, o⟩ := s
 cases o with
 | none => cases h0
 | some u =>
  have h : decide ((pN (fracN t c) (fracD t c) * pD (u.den : Int) - pN u.num (u.den : Int) * pD (fracD t c)).sign < 0) = true := h
  rw [e1, e2, cmp_lt] at h
  have h := of_decide_eq_true h
  rw [e1, e2]
  simp only [stp, oN, oD, if_pos h, and_self]
theorem out_keep (h0 : (!s.2.isSome) = false) (h : decide ((pN (fracN t c) (fracD t c) * pD (oD s.2) - pN (oN s.2) (oD s.2) * pD (fracD t c)).sign < 0) = false) : oN s.2 = oN (stp c f t s).2 ∧ oD s.2 = oD (stp c f t s).2 := by
 obtain ⟨e1, e2⟩ := frac_rat (n := t) hc
 obtain ⟨i, o⟩ := s
 cases o with
 | none => cases h0
 | some u =>
  have h : decide ((pN (fracN t c) (fracD t c) * pD (u.den : Int) - pN u.num (u.den : Int) * pD (fracD t c)).sign < 0) = false := h
  rw [e1, e2, cmp_lt] at h
  have h := of_decide_eq_false h
  simp only [stp, oN, oD, if_neg h, and_self]
end
theorem stp_some (c f t : Int) (s : Rat × Option Rat) : (stp c f t s).2.isSome = true := rfl
theorem isSome_f {o : Option Rat} (h : (!o.isSome) = false) : o.isSome = true := by simpa using h
theorem w2_cells {k j k' j' : Nat} {z y z' y' : Int} {h : Sm k z} {h1 : Sm j y} {h2 : Sm k' z'} {h3 : Sm j' y'} (e : z = z' ∧ y = y') (ρ : Rho) : cellsL ρ [.wid k z h, .wid j y h1] = cellsL ρ [.wid k' z' h2, .wid j' y' h3] := by obtain ⟨rfl, rfl⟩ := e; rfl
theorem out_is {r : RZ} {lo hi : V3} (hp : permZ r = true) {s : Rat × Option Rat} (h : boxK r lo hi 3 = some s) : ∃ i u, s = (i, some u) := by
 obtain ⟨i, o⟩ := s
 cases o with
 | some u => exact ⟨i, u, rfl⟩
 | none =>
  exfalso
  unfold permZ at hp
  rw [Bool.and_eq_true, decide_eq_true_eq, Bool.not_eq_true'] at hp
  have h : boxS r lo hi = some (i, none) := h
  unfold boxS at h
  obtain ⟨s1, h1, h⟩ := Option.bind_eq_some_iff.1 h
  obtain ⟨s2, h2, h3⟩ := Option.bind_eq_some_iff.1 h
  have h4 := (bst_out h3).1 rfl
  have h5 := (bst_out h2).1 h4.1
  have h6 := (bst_out h1).1 h5.1
  have hz := hp.2
  unfold V3.isZ at hz
  rw [h6.2, h5.2, h4.2] at hz
  cases hz
theorem box_end {r : RZ} {lo hi : V3} (hp : permZ r = true) {i u : Rat} (h : boxK r lo hi 3 = some (i, some u)) : boxR r lo hi = if u < i then none else some (i, u) := by
 have h : boxS r lo hi = some (i, some u) := h
 unfold boxR; rw [if_pos hp, h]; rfl
theorem k_ir {k : Nat} (h : k ≤ 3) : IR k := ⟨by omega, by omega⟩
set_option maxHeartbeats 16000000 in
theorem vcBox {rx ry rz rw d0 d1 d2 x1 y1 z1 x2 y2 z2 : Int} (hrx : IR rx) (hry : IR ry) (hrz : IR rz) (hrw : IR rw) (hd0 : IR d0) (hd1 : IR d1) (hd2 : IR d2) (hx1 : IR x1) (hy1 : IR y1) (hz1 : IR z1) (hx2 : IR x2) (hy2 : IR y2) (hz2 : IR z2) : vcF (envN 0 baseC [] fun i => i == 25) (mix [] (envN 0 baseC [] fun i => i == 25) noF 0) Tryz.f17 [.agg [.int rx hrx, .int ry hry, .int rz hrz, .int rw hrw, .int d0 hd0, .int d1 hd1, .int d2 hd2], .agg [.int x1 hx1, .int y1 hy1, .int z1 hz1], .agg [.int x2 hx2, .int y2 hy2, .int z2 hz2]] [] fun u _ => ∀ ρ, u.den ρ = (boxV (⟨rx, ry, rz, rw, ⟨d0, d1, d2⟩⟩ : RZ) ⟨x1, y1, z1⟩ ⟨x2, y2, z2⟩ (box_bits hrx hry hrz hrw hd0 hd1 hd2 hx1 hy1 hz1 hx2 hy2 hz2)).den ρ := by
 conv => whnf
 refine bcase_intro (fun hn => ?_) (fun hn => ?_)
 ·have hn : permZ (⟨rx, ry, rz, rw, ⟨d0, d1, d2⟩⟩ : RZ) = false := not_t hn
  conv => whnf
  exact fun ρ => box_no _ (box_np hn) _ _ _ _ ρ
 have hperm : permZ (⟨rx, ry, rz, rw, ⟨d0, d1, d2⟩⟩ : RZ) = true := not_f hn
 have hw : 0 < rw := perm_w hperm
 conv => whnf
 refine loop_st (G := {g : Nat × (Rat × Option Rat) // g.1 ≤ 3 ∧ boxK (⟨rx, ry, rz, rw, ⟨d0, d1, d2⟩⟩ : RZ) ⟨x1, y1, z1⟩ ⟨x2, y2, z2⟩ g.1 = some g.2} × (Nat → Value)) (fun g => (.c (.val (g.2 0)) :: .c (.val (g.2 1)) :: .c (.val (g.2 2)) :: .c (.val (g.2 3)) :: .c (.val (g.2 4)) :: .c (.val (g.2 5)) :: .c (.ptr 0 0) :: .c (.ptr 1 0) :: .c (.val (g.2 8)) :: .c (.val (g.2 9)) :: .c (.ptr 2 0) :: .c (.ptr 3 0) :: .c (.ptr 4 0) :: .c (.val (.bool g.1.1.2.2.isSome)) :: .c (.val (g.2 14)) :: .c (.val (g.2 15)) :: .c (.val (g.2 16)) :: .c (.val (g.2 17)) :: .c (.val (g.2 18)) :: .c (.val (g.2 19)) :: .c (.val (g.2 20)) :: .c (.val (g.2 21)) :: .c (.val (g.2 22)) :: .c (.val (g.2 23)) :: .c (.val (g.2 24)) :: .c (.val (g.2 25)) :: .c (.val (g.2 26)) :: .c (.val (g.2 27)) :: .c (.val (g.2 28)) :: .c (.val (g.2 29)) :: .c (.val (g.2 30)) :: .c (.val (g.2 31)) :: .c (.val (g.2 32)) :: .c (.val (g.2 33)) :: .c (.val (g.2 34)) :: .c (.val (g.2 35)) :: .c (.val (g.2 36)) :: .c (.val (g.2 37)) :: .c (.val (g.2 38)) :: .c (.val (g.2 39)) :: .c (.val (g.2 40)) :: .c (.val (g.2 41)) :: .c (.val (g.2 42)) :: .c (.val (g.2 43)) :: .c (.val (g.2 44)) :: .c (.val (g.2 45)) :: .c (.val (g.2 46)) :: .c (.val (g.2 47)) :: .c (.val (g.2 48)) :: .c (.val (g.2 49)) :: .agg [.int d0 hd0, .int d1 hd1, .int d2 hd2] :: .c (.int (g.1.1.1 : Nat) (k_ir g.1.2.1)) :: .c (.val (g.2 52)) :: .c (.val (g.2 53)) :: .c (.val (g.2 54)) :: .c (.val (g.2 55)) :: .c (.val (g.2 56)) :: .c (.val (g.2 57)) :: .c (.val (g.2 58)) :: .c (.val (g.2 59)) :: .c (.val (g.2 60)) :: .c (.val (g.2 61)) :: .c (.val (g.2 62)) :: .c (.val (g.2 63)) :: .c (.val (g.2 64)) :: .c (.val (g.2 65)) :: .c (.val (g.2 66)) :: .c (.val (g.2 67)) :: .c (.val (g.2 68)) :: .c (.val (g.2 69)) :: .c (.val (g.2 70)) :: .c (.val (g.2 71)) :: .c (.val (g.2 72)) :: .c (.val (g.2 73)) :: .c (.val (g.2 74)) :: .c (.val (g.2 75)) :: .c (.val (g.2 76)) :: .c (.val (g.2 77)) :: .c (.val (g.2 78)) :: .c (.val (g.2 79)) :: .c (.val (g.2 80)) :: .c (.val (g.2 81)) :: .c (.val (g.2 82)) :: .c (.val (g.2 83)) :: .c (.val (g.2 84)) :: .c (.val (g.2 85)) :: .c (.val (g.2 86)) :: .c (.val (g.2 87)) :: .c (.val (g.2 88)) :: .c (.val (g.2 89)) :: .c (.val (g.2 90)) :: .c (.val (g.2 91)) :: .c (.val (g.2 92)) :: .c (.val (g.2 93)) :: .c (.val (g.2 94)) :: .c (.val (g.2 95)) :: .c (.val (g.2 96)) :: .c (.val (g.2 97)) :: .c (.val (g.2 98)) :: .c (.val (g.2 99)) :: .c (.val (g.2 100)) :: .c (.val (g.2 101)) :: .c (.val (g.2 102)) :: .c (.val (g.2 103)) :: .c (.val (g.2 104)) :: .c (.val (g.2 105)) :: .c (.val (g.2 106)) :: .c (.val (g.2 107)) :: .c (.val (g.2 108)) :: .c (.val (g.2 109)) :: .c (.val (g.2 110)) :: .c (.val (g.2 111)) :: .c (.val (g.2 112)) :: .c (.val (g.2 113)) :: .c (.val (g.2 114)) :: .c (.val (g.2 115)) :: .c (.val (g.2 116)) :: .c (.val (g.2 117)) :: .c (.val (g.2 118)) :: .c (.val (g.2 119)) :: .c (.val (g.2 120)) :: [])) (fun g => [⟨37, false, [.wid 300 g.1.1.2.1.num (boxK_qb (box_bits hrx hry hrz hrw hd0 hd1 hd2 hx1 hy1 hz1 hx2 hy2 hz2) g.1.1.1 g.1.1.2 g.1.2.2).1.1, .wid 300 (g.1.1.2.1.den : Int) (boxK_qb (box_bits hrx hry hrz hrw hd0 hd1 hd2 hx1 hy1 hz1 hx2 hy2 hz2) g.1.1.1 g.1.1.2 g.1.2.2).1.2], 0⟩, ⟨37, false, [.wid 300 (oN g.1.1.2.2) (sm_oN (boxK_qb (box_bits hrx hry hrz hrw hd0 hd1 hd2 hx1 hy1 hz1 hx2 hy2 hz2) g.1.1.1 g.1.1.2 g.1.2.2).2), .wid 300 (oD g.1.1.2.2) (sm_oD (boxK_qb (box_bits hrx hry hrz hrw hd0 hd1 hd2 hx1 hy1 hz1 hx2 hy2 hz2) g.1.1.1 g.1.1.2 g.1.2.2).2)], 0⟩, ⟨35, false, [.wid 300 rw ((smI hrw).mono (by decide))], 0⟩, ⟨75, false, [.wid 300 (RZ.at (⟨rx, ry, rz, rw, ⟨d0, d1, d2⟩⟩ : RZ) ⟨x1, y1, z1⟩).x (box_bits hrx hry hrz hrw hd0 hd1 hd2 hx1 hy1 hz1 hx2 hy2 hz2).ax, .wid 300 (RZ.at (⟨rx, ry, rz, rw, ⟨d0, d1, d2⟩⟩ : RZ) ⟨x1, y1, z1⟩).y (box_bits hrx hry hrz hrw hd0 hd1 hd2 hx1 hy1 hz1 hx2 hy2 hz2).ay, .wid 300 (RZ.at (⟨rx, ry, rz, rw, ⟨d0, d1, d2⟩⟩ : RZ) ⟨x1, y1, z1⟩).z (box_bits hrx hry hrz hrw hd0 hd1 hd2 hx1 hy1 hz1 hx2 hy2 hz2).az], 0⟩, ⟨75, false, [.wid 300 (RZ.at (⟨rx, ry, rz, rw, ⟨d0, d1, d2⟩⟩ : RZ) ⟨x2, y2, z2⟩).x (box_bits hrx hry hrz hrw hd0 hd1 hd2 hx1 hy1 hz1 hx2 hy2 hz2).bx, .wid 300 (RZ.at (⟨rx, ry, rz, rw, ⟨d0, d1, d2⟩⟩ : RZ) ⟨x2, y2, z2⟩).y (box_bits hrx hry hrz hrw hd0 hd1 hd2 hx1 hy1 hz1 hx2 hy2 hz2).by_, .wid 300 (RZ.at (⟨rx, ry, rz, rw, ⟨d0, d1, d2⟩⟩ : RZ) ⟨x2, y2, z2⟩).z (box_bits hrx hry hrz hrw hd0 hd1 hd2 hx1 hy1 hz1 hx2 hy2 hz2).bz], 0⟩]) (fun g => 3 - g.1.1.1) ?_ ?_
 ·refine ⟨[3,4,6,7,8], [6,7,10,11,12,13,50,51], [0,1,2,3,4], fun vs => ?_⟩
  conv => whnf
  refine ⟨fun _ _=>rfl,fun _ _=>rfl,fun _ _=>rfl,fun _ _=>rfl,fun _ _=>rfl,?_⟩
  conv => whnf
  refine ⟨_, _, ?_, ?_, (⟨(0, (0, none)), by decide, rfl⟩, vs), rfl, rfl⟩
  ·exact stm _
  ·exact ⟨⟨rfl,rfl,rfl, fun _=>rfl⟩, ⟨rfl,rfl,rfl, fun _=>rfl⟩, ⟨rfl,rfl,rfl, fun _=>rfl⟩, ⟨rfl,rfl,rfl, fun _=>rfl⟩, ⟨rfl,rfl,rfl, fun _=>rfl⟩, trivial⟩
 ·rintro ⟨⟨⟨k, s⟩, hk, hs⟩, vs⟩
  have hk4 : k = 0 ∨ k = 1 ∨ k = 2 ∨ k = 3 := by have : k ≤ 3 := hk; omega
  rcases hk4 with rfl | rfl | rfl | rfl
  ·conv => whnf
   refine bcase_intro (fun h1 => ?_) (fun h1 => ?_)
   ·conv => whnf
    refine bcase_intro (fun h1b => ?_) (fun h1b => ?_)
    ·conv => whnf
     exact fun ρ => box_no _ (fl0 hs (bst_f1 (gt_y h1))) _ _ _ _ ρ
    ·exact Bool.noConfusion (h1.symm.trans h1b)
   ·have hab : ¬ (RZ.at (⟨rx, ry, rz, rw, ⟨d0, d1, d2⟩⟩ : RZ) ⟨x2, y2, z2⟩).x < (RZ.at (⟨rx, ry, rz, rw, ⟨d0, d1, d2⟩⟩ : RZ) ⟨x1, y1, z1⟩).x := gt_n h1
    conv => whnf
    refine bcase_intro (fun h2 => ?_) (fun h2 => ?_)
    ·have hz : d0 = 0 := of_decide_eq_true h2
     conv => whnf
     refine bcase_intro (fun h3 => ?_) (fun h3 => ?_)
     ·conv => whnf
      exact fun ρ => box_no _ (fl0 hs (bst_f2 hab hz (.inl (sg_y h3)))) _ _ _ _ ρ
     ·conv => whnf
      refine bcase_intro (fun h4 => ?_) (fun h4 => ?_)
      ·conv => whnf
       exact fun ρ => box_no _ (fl0 hs (bst_f2 hab hz (.inr (sl_y h4)))) _ _ _ _ ρ
      ·conv => whnf
       refine bcase_intro (fun h5 => ?_) (fun h5 => ?_)
       ·conv => whnf
        refine ⟨[0,1,2,3,4], [6,7,10,11,12,13,50,51], [0,1,2,3,4], fun vs2 => ?_⟩
        conv => whnf
        refine ⟨fun _ _=>rfl,fun _ _=>rfl,fun _ _=>rfl,fun _ _=>rfl,fun _ _=>rfl,?_⟩
        conv => whnf
        refine ⟨_, _, ?_, ?_, (⟨(1, s), (by decide : 1 ≤ 3), (nx0 hs).trans (bst_z hab hz (sg_n h3) (sl_n h4))⟩, vs2), (by decide : 3 - 1 < 3 - 0), rfl, rfl⟩
        ·exact stm _
        ·exact ⟨⟨rfl,rfl,rfl, fun ρ => rfl⟩, ⟨rfl,rfl,rfl, fun ρ => rfl⟩, ⟨rfl,rfl,rfl, fun _=>rfl⟩, ⟨rfl,rfl,rfl, fun _=>rfl⟩, ⟨rfl,rfl,rfl, fun _=>rfl⟩, trivial⟩
       ·exact Bool.noConfusion (h5.symm.trans h2)
    ·have hnz : d0 ≠ 0 := of_decide_eq_false h2
     have hc : (rw * d0) ≠ 0 := Int.mul_ne_zero (by omega) hnz
     conv => whnf
     refine bcase_intro (fun h5 => ?_) (fun h5 => ?_)
     ·exact Bool.noConfusion (h5.symm.trans h2)
     ·conv => whnf
      refine bcase_intro (fun h6 => ?_) (fun h6 => ?_)
      ·have hn : d0 < 0 := of_decide_eq_true h6
       conv => whnf
       refine bcase_intro (fun h7 => ?_) (fun h7 => ?_)
       ·conv => whnf
        refine bcase_intro (fun h8 => ?_) (fun h8 => ?_)
        ·conv => whnf
         refine ⟨[0,1,2,3,4], [6,7,10,11,12,13,50,51], [0,1,2,3,4], fun vs2 => ?_⟩
         conv => whnf
         refine ⟨fun _ _=>rfl,fun _ _=>rfl,fun _ _=>rfl,fun _ _=>rfl,fun _ _=>rfl,?_⟩
         conv => whnf
         refine ⟨_, _, ?_, ?_, (⟨(1, stp (rw * d0) ((RZ.at (⟨rx, ry, rz, rw, ⟨d0, d1, d2⟩⟩ : RZ) ⟨x2, y2, z2⟩).x) ((RZ.at (⟨rx, ry, rz, rw, ⟨d0, d1, d2⟩⟩ : RZ) ⟨x1, y1, z1⟩).x) s), (by decide : 1 ≤ 3), (nx0 hs).trans (bst_n hab hnz hn)⟩, vs2), (by decide : 3 - 1 < 3 - 0), rfl, rfl⟩
         ·exact ⟨fun _=>rfl,fun _=>rfl,fun _=>rfl,fun _=>rfl,fun _=>rfl,fun _=>rfl,fun _=>rfl,fun _=>rfl,fun _=>rfl,fun _=>rfl,fun _=>rfl,fun _=>rfl,fun _=>rfl,fun _=>rfl,stm _⟩
         ·exact ⟨⟨rfl,rfl,rfl, fun ρ => w2_cells (in_take (t := (RZ.at (⟨rx, ry, rz, rw, ⟨d0, d1, d2⟩⟩ : RZ) ⟨x1, y1, z1⟩).x) hc h7) ρ⟩, ⟨rfl,rfl,rfl, fun ρ => w2_cells (out_new (f := (RZ.at (⟨rx, ry, rz, rw, ⟨d0, d1, d2⟩⟩ : RZ) ⟨x2, y2, z2⟩).x) hc h8) ρ⟩, ⟨rfl,rfl,rfl, fun _=>rfl⟩, ⟨rfl,rfl,rfl, fun _=>rfl⟩, ⟨rfl,rfl,rfl, fun _=>rfl⟩, trivial⟩
        ·conv => whnf
         refine bcase_intro (fun h9 => ?_) (fun h9 => ?_)
         ·conv => whnf
          refine ⟨[0,1,2,3,4], [6,7,10,11,12,13,50,51], [0,1,2,3,4], fun vs2 => ?_⟩
          conv => whnf
          refine ⟨fun _ _=>rfl,fun _ _=>rfl,fun _ _=>rfl,fun _ _=>rfl,fun _ _=>rfl,?_⟩
          conv => whnf
          refine ⟨_, _, ?_, ?_, (⟨(1, stp (rw * d0) ((RZ.at (⟨rx, ry, rz, rw, ⟨d0, d1, d2⟩⟩ : RZ) ⟨x2, y2, z2⟩).x) ((RZ.at (⟨rx, ry, rz, rw, ⟨d0, d1, d2⟩⟩ : RZ) ⟨x1, y1, z1⟩).x) s), (by decide : 1 ≤ 3), (nx0 hs).trans (bst_n hab hnz hn)⟩, vs2), (by decide : 3 - 1 < 3 - 0), rfl, rfl⟩
          ·exact ⟨fun _=>rfl,fun _=>rfl,fun _=>rfl,fun _=>rfl,fun _=>rfl,fun _=>rfl,fun _=>rfl,fun _=>rfl,fun _=>rfl,fun _=>rfl,fun _=>rfl,fun _=>rfl,fun _=>rfl,fun _=>rfl,stm _⟩
          ·exact ⟨⟨rfl,rfl,rfl, fun ρ => w2_cells (in_take (t := (RZ.at (⟨rx, ry, rz, rw, ⟨d0, d1, d2⟩⟩ : RZ) ⟨x1, y1, z1⟩).x) hc h7) ρ⟩, ⟨rfl,rfl,rfl, fun ρ => w2_cells (out_take (f := (RZ.at (⟨rx, ry, rz, rw, ⟨d0, d1, d2⟩⟩ : RZ) ⟨x2, y2, z2⟩).x) hc h8 h9) ρ⟩, ⟨rfl,rfl,rfl, fun _=>rfl⟩, ⟨rfl,rfl,rfl, fun _=>rfl⟩, ⟨rfl,rfl,rfl, fun _=>rfl⟩, trivial⟩
         ·conv => whnf
          refine ⟨[0,1,2,3,4], [6,7,10,11,12,13,50,51], [0,1,2,3,4], fun vs2 => ?_⟩
          conv => whnf
          refine ⟨fun _ _=>rfl,fun _ _=>rfl,fun _ _=>rfl,fun _ _=>rfl,fun _ _=>rfl,?_⟩
          conv => whnf
          refine ⟨_, _, ?_, ?_, (⟨(1, stp (rw * d0) ((RZ.at (⟨rx, ry, rz, rw, ⟨d0, d1, d2⟩⟩ : RZ) ⟨x2, y2, z2⟩).x) ((RZ.at (⟨rx, ry, rz, rw, ⟨d0, d1, d2⟩⟩ : RZ) ⟨x1, y1, z1⟩).x) s), (by decide : 1 ≤ 3), (nx0 hs).trans (bst_n hab hnz hn)⟩, vs2), (by decide : 3 - 1 < 3 - 0), rfl, rfl⟩
          ·exact ⟨fun _=>rfl,fun _=>rfl,fun _=>rfl,fun _=>rfl,fun _=>rfl,fun _=>rfl,fun _=>rfl,fun _=>rfl,fun _=>rfl,fun _=>rfl,fun _=>rfl,fun _=>rfl,fun _=>rfl,fun ρ => sbool_e (isSome_f h8) ρ, stm _⟩
          ·exact ⟨⟨rfl,rfl,rfl, fun ρ => w2_cells (in_take (t := (RZ.at (⟨rx, ry, rz, rw, ⟨d0, d1, d2⟩⟩ : RZ) ⟨x1, y1, z1⟩).x) hc h7) ρ⟩, ⟨rfl,rfl,rfl, fun ρ => w2_cells (out_keep (f := (RZ.at (⟨rx, ry, rz, rw, ⟨d0, d1, d2⟩⟩ : RZ) ⟨x2, y2, z2⟩).x) hc h8 h9) ρ⟩, ⟨rfl,rfl,rfl, fun _=>rfl⟩, ⟨rfl,rfl,rfl, fun _=>rfl⟩, ⟨rfl,rfl,rfl, fun _=>rfl⟩, trivial⟩
       ·conv => whnf
        refine bcase_intro (fun h8 => ?_) (fun h8 => ?_)
        ·conv => whnf
         refine ⟨[0,1,2,3,4], [6,7,10,11,12,13,50,51], [0,1,2,3,4], fun vs2 => ?_⟩
         conv => whnf
         refine ⟨fun _ _=>rfl,fun _ _=>rfl,fun _ _=>rfl,fun _ _=>rfl,fun _ _=>rfl,?_⟩
         conv => whnf
         refine ⟨_, _, ?_, ?_, (⟨(1, stp (rw * d0) ((RZ.at (⟨rx, ry, rz, rw, ⟨d0, d1, d2⟩⟩ : RZ) ⟨x2, y2, z2⟩).x) ((RZ.at (⟨rx, ry, rz, rw, ⟨d0, d1, d2⟩⟩ : RZ) ⟨x1, y1, z1⟩).x) s), (by decide : 1 ≤ 3), (nx0 hs).trans (bst_n hab hnz hn)⟩, vs2), (by decide : 3 - 1 < 3 - 0), rfl, rfl⟩
         ·exact ⟨fun _=>rfl,fun _=>rfl,fun _=>rfl,fun _=>rfl,fun _=>rfl,fun _=>rfl,fun _=>rfl,fun _=>rfl,fun _=>rfl,fun _=>rfl,fun _=>rfl,fun _=>rfl,fun _=>rfl,fun _=>rfl,stm _⟩
         ·exact ⟨⟨rfl,rfl,rfl, fun ρ => w2_cells (in_keep (t := (RZ.at (⟨rx, ry, rz, rw, ⟨d0, d1, d2⟩⟩ : RZ) ⟨x1, y1, z1⟩).x) hc h7) ρ⟩, ⟨rfl,rfl,rfl, fun ρ => w2_cells (out_new (f := (RZ.at (⟨rx, ry, rz, rw, ⟨d0, d1, d2⟩⟩ : RZ) ⟨x2, y2, z2⟩).x) hc h8) ρ⟩, ⟨rfl,rfl,rfl, fun _=>rfl⟩, ⟨rfl,rfl,rfl, fun _=>rfl⟩, ⟨rfl,rfl,rfl, fun _=>rfl⟩, trivial⟩
        ·conv => whnf
         refine bcase_intro (fun h9 => ?_) (fun h9 => ?_)
         ·conv => whnf
          refine ⟨[0,1,2,3,4], [6,7,10,11,12,13,50,51], [0,1,2,3,4], fun vs2 => ?_⟩
          conv => whnf
          refine ⟨fun _ _=>rfl,fun _ _=>rfl,fun _ _=>rfl,fun _ _=>rfl,fun _ _=>rfl,?_⟩
          conv => whnf
          refine ⟨_, _, ?_, ?_, (⟨(1, stp (rw * d0) ((RZ.at (⟨rx, ry, rz, rw, ⟨d0, d1, d2⟩⟩ : RZ) ⟨x2, y2, z2⟩).x) ((RZ.at (⟨rx, ry, rz, rw, ⟨d0, d1, d2⟩⟩ : RZ) ⟨x1, y1, z1⟩).x) s), (by decide : 1 ≤ 3), (nx0 hs).trans (bst_n hab hnz hn)⟩, vs2), (by decide : 3 - 1 < 3 - 0), rfl, rfl⟩
          ·exact ⟨fun _=>rfl,fun _=>rfl,fun _=>rfl,fun _=>rfl,fun _=>rfl,fun _=>rfl,fun _=>rfl,fun _=>rfl,fun _=>rfl,fun _=>rfl,fun _=>rfl,fun _=>rfl,fun _=>rfl,fun _=>rfl,stm _⟩
          ·exact ⟨⟨rfl,rfl,rfl, fun ρ => w2_cells (in_keep (t := (RZ.at (⟨rx, ry, rz, rw, ⟨d0, d1, d2⟩⟩ : RZ) ⟨x1, y1, z1⟩).x) hc h7) ρ⟩, ⟨rfl,rfl,rfl, fun ρ => w2_cells (out_take (f := (RZ.at (⟨rx, ry, rz, rw, ⟨d0, d1, d2⟩⟩ : RZ) ⟨x2, y2, z2⟩).x) hc h8 h9) ρ⟩, ⟨rfl,rfl,rfl, fun _=>rfl⟩, ⟨rfl,rfl,rfl, fun _=>rfl⟩, ⟨rfl,rfl,rfl, fun _=>rfl⟩, trivial⟩
         ·conv => whnf
          refine ⟨[0,1,2,3,4], [6,7,10,11,12,13,50,51], [0,1,2,3,4], fun vs2 => ?_⟩
          conv => whnf
          refine ⟨fun _ _=>rfl,fun _ _=>rfl,fun _ _=>rfl,fun _ _=>rfl,fun _ _=>rfl,?_⟩
          conv => whnf
          refine ⟨_, _, ?_, ?_, (⟨(1, stp (rw * d0) ((RZ.at (⟨rx, ry, rz, rw, ⟨d0, d1, d2⟩⟩ : RZ) ⟨x2, y2, z2⟩).x) ((RZ.at (⟨rx, ry, rz, rw, ⟨d0, d1, d2⟩⟩ : RZ) ⟨x1, y1, z1⟩).x) s), (by decide : 1 ≤ 3), (nx0 hs).trans (bst_n hab hnz hn)⟩, vs2), (by decide : 3 - 1 < 3 - 0), rfl, rfl⟩
          ·exact ⟨fun _=>rfl,fun _=>rfl,fun _=>rfl,fun _=>rfl,fun _=>rfl,fun _=>rfl,fun _=>rfl,fun _=>rfl,fun _=>rfl,fun _=>rfl,fun _=>rfl,fun _=>rfl,fun _=>rfl,fun ρ => sbool_e (isSome_f h8) ρ, stm _⟩
          ·exact ⟨⟨rfl,rfl,rfl, fun ρ => w2_cells (in_keep (t := (RZ.at (⟨rx, ry, rz, rw, ⟨d0, d1, d2⟩⟩ : RZ) ⟨x1, y1, z1⟩).x) hc h7) ρ⟩, ⟨rfl,rfl,rfl, fun ρ => w2_cells (out_keep (f := (RZ.at (⟨rx, ry, rz, rw, ⟨d0, d1, d2⟩⟩ : RZ) ⟨x2, y2, z2⟩).x) hc h8 h9) ρ⟩, ⟨rfl,rfl,rfl, fun _=>rfl⟩, ⟨rfl,rfl,rfl, fun _=>rfl⟩, ⟨rfl,rfl,rfl, fun _=>rfl⟩, trivial⟩
      ·have hn : ¬ d0 < 0 := of_decide_eq_false h6
       conv => whnf
       refine bcase_intro (fun h7 => ?_) (fun h7 => ?_)
       ·conv => whnf
        refine bcase_intro (fun h8 => ?_) (fun h8 => ?_)
        ·conv => whnf
         refine ⟨[0,1,2,3,4], [6,7,10,11,12,13,50,51], [0,1,2,3,4], fun vs2 => ?_⟩
         conv => whnf
         refine ⟨fun _ _=>rfl,fun _ _=>rfl,fun _ _=>rfl,fun _ _=>rfl,fun _ _=>rfl,?_⟩
         conv => whnf
         refine ⟨_, _, ?_, ?_, (⟨(1, stp (rw * d0) ((RZ.at (⟨rx, ry, rz, rw, ⟨d0, d1, d2⟩⟩ : RZ) ⟨x1, y1, z1⟩).x) ((RZ.at (⟨rx, ry, rz, rw, ⟨d0, d1, d2⟩⟩ : RZ) ⟨x2, y2, z2⟩).x) s), (by decide : 1 ≤ 3), (nx0 hs).trans (bst_p hab hnz hn)⟩, vs2), (by decide : 3 - 1 < 3 - 0), rfl, rfl⟩
         ·exact ⟨fun _=>rfl,fun _=>rfl,fun _=>rfl,fun _=>rfl,fun _=>rfl,fun _=>rfl,fun _=>rfl,fun _=>rfl,fun _=>rfl,fun _=>rfl,fun _=>rfl,fun _=>rfl,fun _=>rfl,fun _=>rfl,stm _⟩
         ·exact ⟨⟨rfl,rfl,rfl, fun ρ => w2_cells (in_take (t := (RZ.at (⟨rx, ry, rz, rw, ⟨d0, d1, d2⟩⟩ : RZ) ⟨x2, y2, z2⟩).x) hc h7) ρ⟩, ⟨rfl,rfl,rfl, fun ρ => w2_cells (out_new (f := (RZ.at (⟨rx, ry, rz, rw, ⟨d0, d1, d2⟩⟩ : RZ) ⟨x1, y1, z1⟩).x) hc h8) ρ⟩, ⟨rfl,rfl,rfl, fun _=>rfl⟩, ⟨rfl,rfl,rfl, fun _=>rfl⟩, ⟨rfl,rfl,rfl, fun _=>rfl⟩, trivial⟩
        ·conv => whnf
         refine bcase_intro (fun h9 => ?_) (fun h9 => ?_)
         ·conv => whnf
          refine ⟨[0,1,2,3,4], [6,7,10,11,12,13,50,51], [0,1,2,3,4], fun vs2 => ?_⟩
          conv => whnf
          refine ⟨fun _ _=>rfl,fun _ _=>rfl,fun _ _=>rfl,fun _ _=>rfl,fun _ _=>rfl,?_⟩
          conv => whnf
          refine ⟨_, _, ?_, ?_, (⟨(1, stp (rw * d0) ((RZ.at (⟨rx, ry, rz, rw, ⟨d0, d1, d2⟩⟩ : RZ) ⟨x1, y1, z1⟩).x) ((RZ.at (⟨rx, ry, rz, rw, ⟨d0, d1, d2⟩⟩ : RZ) ⟨x2, y2, z2⟩).x) s), (by decide : 1 ≤ 3), (nx0 hs).trans (bst_p hab hnz hn)⟩, vs2), (by decide : 3 - 1 < 3 - 0), rfl, rfl⟩
          ·exact ⟨fun _=>rfl,fun _=>rfl,fun _=>rfl,fun _=>rfl,fun _=>rfl,fun _=>rfl,fun _=>rfl,fun _=>rfl,fun _=>rfl,fun _=>rfl,fun _=>rfl,fun _=>rfl,fun _=>rfl,fun _=>rfl,stm _⟩
          ·exact ⟨⟨rfl,rfl,rfl, fun ρ => w2_cells (in_take (t := (RZ.at (⟨rx, ry, rz, rw, ⟨d0, d1, d2⟩⟩ : RZ) ⟨x2, y2, z2⟩).x) hc h7) ρ⟩, ⟨rfl,rfl,rfl, fun ρ => w2_cells (out_take (f := (RZ.at (⟨rx, ry, rz, rw, ⟨d0, d1, d2⟩⟩ : RZ) ⟨x1, y1, z1⟩).x) hc h8 h9) ρ⟩, ⟨rfl,rfl,rfl, fun _=>rfl⟩, ⟨rfl,rfl,rfl, fun _=>rfl⟩, ⟨rfl,rfl,rfl, fun _=>rfl⟩, trivial⟩
         ·conv => whnf
          refine ⟨[0,1,2,3,4], [6,7,10,11,12,13,50,51], [0,1,2,3,4], fun vs2 => ?_⟩
          conv => whnf
          refine ⟨fun _ _=>rfl,fun _ _=>rfl,fun _ _=>rfl,fun _ _=>rfl,fun _ _=>rfl,?_⟩
          conv => whnf
          refine ⟨_, _, ?_, ?_, (⟨(1, stp (rw * d0) ((RZ.at (⟨rx, ry, rz, rw, ⟨d0, d1, d2⟩⟩ : RZ) ⟨x1, y1, z1⟩).x) ((RZ.at (⟨rx, ry, rz, rw, ⟨d0, d1, d2⟩⟩ : RZ) ⟨x2, y2, z2⟩).x) s), (by decide : 1 ≤ 3), (nx0 hs).trans (bst_p hab hnz hn)⟩, vs2), (by decide : 3 - 1 < 3 - 0), rfl, rfl⟩
          ·exact ⟨fun _=>rfl,fun _=>rfl,fun _=>rfl,fun _=>rfl,fun _=>rfl,fun _=>rfl,fun _=>rfl,fun _=>rfl,fun _=>rfl,fun _=>rfl,fun _=>rfl,fun _=>rfl,fun _=>rfl,fun ρ => sbool_e (isSome_f h8) ρ, stm _⟩
          ·exact ⟨⟨rfl,rfl,rfl, fun ρ => w2_cells (in_take (t := (RZ.at (⟨rx, ry, rz, rw, ⟨d0, d1, d2⟩⟩ : RZ) ⟨x2, y2, z2⟩).x) hc h7) ρ⟩, ⟨rfl,rfl,rfl, fun ρ => w2_cells (out_keep (f := (RZ.at (⟨rx, ry, rz, rw, ⟨d0, d1, d2⟩⟩ : RZ) ⟨x1, y1, z1⟩).x) hc h8 h9) ρ⟩, ⟨rfl,rfl,rfl, fun _=>rfl⟩, ⟨rfl,rfl,rfl, fun _=>rfl⟩, ⟨rfl,rfl,rfl, fun _=>rfl⟩, trivial⟩
       ·conv => whnf
        refine bcase_intro (fun h8 => ?_) (fun h8 => ?_)
        ·conv => whnf
         refine ⟨[0,1,2,3,4], [6,7,10,11,12,13,50,51], [0,1,2,3,4], fun vs2 => ?_⟩
         conv => whnf
         refine ⟨fun _ _=>rfl,fun _ _=>rfl,fun _ _=>rfl,fun _ _=>rfl,fun _ _=>rfl,?_⟩
         conv => whnf
         refine ⟨_, _, ?_, ?_, (⟨(1, stp (rw * d0) ((RZ.at (⟨rx, ry, rz, rw, ⟨d0, d1, d2⟩⟩ : RZ) ⟨x1, y1, z1⟩).x) ((RZ.at (⟨rx, ry, rz, rw, ⟨d0, d1, d2⟩⟩ : RZ) ⟨x2, y2, z2⟩).x) s), (by decide : 1 ≤ 3), (nx0 hs).trans (bst_p hab hnz hn)⟩, vs2), (by decide : 3 - 1 < 3 - 0), rfl, rfl⟩
         ·exact ⟨fun _=>rfl,fun _=>rfl,fun _=>rfl,fun _=>rfl,fun _=>rfl,fun _=>rfl,fun _=>rfl,fun _=>rfl,fun _=>rfl,fun _=>rfl,fun _=>rfl,fun _=>rfl,fun _=>rfl,fun _=>rfl,stm _⟩
         ·exact ⟨⟨rfl,rfl,rfl, fun ρ => w2_cells (in_keep (t := (RZ.at (⟨rx, ry, rz, rw, ⟨d0, d1, d2⟩⟩ : RZ) ⟨x2, y2, z2⟩).x) hc h7) ρ⟩, ⟨rfl,rfl,rfl, fun ρ => w2_cells (out_new (f := (RZ.at (⟨rx, ry, rz, rw, ⟨d0, d1, d2⟩⟩ : RZ) ⟨x1, y1, z1⟩).x) hc h8) ρ⟩, ⟨rfl,rfl,rfl, fun _=>rfl⟩, ⟨rfl,rfl,rfl, fun _=>rfl⟩, ⟨rfl,rfl,rfl, fun _=>rfl⟩, trivial⟩
        ·conv => whnf
         refine bcase_intro (fun h9 => ?_) (fun h9 => ?_)
         ·conv => whnf
          refine ⟨[0,1,2,3,4], [6,7,10,11,12,13,50,51], [0,1,2,3,4], fun vs2 => ?_⟩
          conv => whnf
          refine ⟨fun _ _=>rfl,fun _ _=>rfl,fun _ _=>rfl,fun _ _=>rfl,fun _ _=>rfl,?_⟩
          conv => whnf
          refine ⟨_, _, ?_, ?_, (⟨(1, stp (rw * d0) ((RZ.at (⟨rx, ry, rz, rw, ⟨d0, d1, d2⟩⟩ : RZ) ⟨x1, y1, z1⟩).x) ((RZ.at (⟨rx, ry, rz, rw, ⟨d0, d1, d2⟩⟩ : RZ) ⟨x2, y2, z2⟩).x) s), (by decide : 1 ≤ 3), (nx0 hs).trans (bst_p hab hnz hn)⟩, vs2), (by decide : 3 - 1 < 3 - 0), rfl, rfl⟩
          ·exact ⟨fun _=>rfl,fun _=>rfl,fun _=>rfl,fun _=>rfl,fun _=>rfl,fun _=>rfl,fun _=>rfl,fun _=>rfl,fun _=>rfl,fun _=>rfl,fun _=>rfl,fun _=>rfl,fun _=>rfl,fun _=>rfl,stm _⟩
          ·exact ⟨⟨rfl,rfl,rfl, fun ρ => w2_cells (in_keep (t := (RZ.at (⟨rx, ry, rz, rw, ⟨d0, d1, d2⟩⟩ : RZ) ⟨x2, y2, z2⟩).x) hc h7) ρ⟩, ⟨rfl,rfl,rfl, fun ρ => w2_cells (out_take (f := (RZ.at (⟨rx, ry, rz, rw, ⟨d0, d1, d2⟩⟩ : RZ) ⟨x1, y1, z1⟩).x) hc h8 h9) ρ⟩, ⟨rfl,rfl,rfl, fun _=>rfl⟩, ⟨rfl,rfl,rfl, fun _=>rfl⟩, ⟨rfl,rfl,rfl, fun _=>rfl⟩, trivial⟩
         ·conv => whnf
          refine ⟨[0,1,2,3,4], [6,7,10,11,12,13,50,51], [0,1,2,3,4], fun vs2 => ?_⟩
          conv => whnf
          refine ⟨fun _ _=>rfl,fun _ _=>rfl,fun _ _=>rfl,fun _ _=>rfl,fun _ _=>rfl,?_⟩
          conv => whnf
          refine ⟨_, _, ?_, ?_, (⟨(1, stp (rw * d0) ((RZ.at (⟨rx, ry, rz, rw, ⟨d0, d1, d2⟩⟩ : RZ) ⟨x1, y1, z1⟩).x) ((RZ.at (⟨rx, ry, rz, rw, ⟨d0, d1, d2⟩⟩ : RZ) ⟨x2, y2, z2⟩).x) s), (by decide : 1 ≤ 3), (nx0 hs).trans (bst_p hab hnz hn)⟩, vs2), (by decide : 3 - 1 < 3 - 0), rfl, rfl⟩
          ·exact ⟨fun _=>rfl,fun _=>rfl,fun _=>rfl,fun _=>rfl,fun _=>rfl,fun _=>rfl,fun _=>rfl,fun _=>rfl,fun _=>rfl,fun _=>rfl,fun _=>rfl,fun _=>rfl,fun _=>rfl,fun ρ => sbool_e (isSome_f h8) ρ, stm _⟩
          ·exact ⟨⟨rfl,rfl,rfl, fun ρ => w2_cells (in_keep (t := (RZ.at (⟨rx, ry, rz, rw, ⟨d0, d1, d2⟩⟩ : RZ) ⟨x2, y2, z2⟩).x) hc h7) ρ⟩, ⟨rfl,rfl,rfl, fun ρ => w2_cells (out_keep (f := (RZ.at (⟨rx, ry, rz, rw, ⟨d0, d1, d2⟩⟩ : RZ) ⟨x1, y1, z1⟩).x) hc h8 h9) ρ⟩, ⟨rfl,rfl,rfl, fun _=>rfl⟩, ⟨rfl,rfl,rfl, fun _=>rfl⟩, ⟨rfl,rfl,rfl, fun _=>rfl⟩, trivial⟩
  ·conv => whnf
   refine bcase_intro (fun h1 => ?_) (fun h1 => ?_)
   ·conv => whnf
    refine bcase_intro (fun h1b => ?_) (fun h1b => ?_)
    ·conv => whnf
     exact fun ρ => box_no _ (fl1 hs (bst_f1 (gt_y h1))) _ _ _ _ ρ
    ·exact Bool.noConfusion (h1.symm.trans h1b)
   ·have hab : ¬ (RZ.at (⟨rx, ry, rz, rw, ⟨d0, d1, d2⟩⟩ : RZ) ⟨x2, y2, z2⟩).y < (RZ.at (⟨rx, ry, rz, rw, ⟨d0, d1, d2⟩⟩ : RZ) ⟨x1, y1, z1⟩).y := gt_n h1
    conv => whnf
    refine bcase_intro (fun h2 => ?_) (fun h2 => ?_)
    ·have hz : d1 = 0 := of_decide_eq_true h2
     conv => whnf
     refine bcase_intro (fun h3 => ?_) (fun h3 => ?_)
     ·conv => whnf
      exact fun ρ => box_no _ (fl1 hs (bst_f2 hab hz (.inl (sg_y h3)))) _ _ _ _ ρ
     ·conv => whnf
      refine bcase_intro (fun h4 => ?_) (fun h4 => ?_)
      ·conv => whnf
       exact fun ρ => box_no _ (fl1 hs (bst_f2 hab hz (.inr (sl_y h4)))) _ _ _ _ ρ
      ·conv => whnf
       refine bcase_intro (fun h5 => ?_) (fun h5 => ?_)
       ·conv => whnf
        refine ⟨[0,1,2,3,4], [6,7,10,11,12,13,50,51], [0,1,2,3,4], fun vs2 => ?_⟩
        conv => whnf
        refine ⟨fun _ _=>rfl,fun _ _=>rfl,fun _ _=>rfl,fun _ _=>rfl,fun _ _=>rfl,?_⟩
        conv => whnf
        refine ⟨_, _, ?_, ?_, (⟨(2, s), (by decide : 2 ≤ 3), (nx1 hs).trans (bst_z hab hz (sg_n h3) (sl_n h4))⟩, vs2), (by decide : 3 - 2 < 3 - 1), rfl, rfl⟩
        ·exact stm _
        ·exact ⟨⟨rfl,rfl,rfl, fun ρ => rfl⟩, ⟨rfl,rfl,rfl, fun ρ => rfl⟩, ⟨rfl,rfl,rfl, fun _=>rfl⟩, ⟨rfl,rfl,rfl, fun _=>rfl⟩, ⟨rfl,rfl,rfl, fun _=>rfl⟩, trivial⟩
       ·exact Bool.noConfusion (h5.symm.trans h2)
    ·have hnz : d1 ≠ 0 := of_decide_eq_false h2
     have hc : (rw * d1) ≠ 0 := Int.mul_ne_zero (by omega) hnz
     conv => whnf
     refine bcase_intro (fun h5 => ?_) (fun h5 => ?_)
     ·exact Bool.noConfusion (h5.symm.trans h2)
     ·conv => whnf
      refine bcase_intro (fun h6 => ?_) (fun h6 => ?_)
      ·have hn : d1 < 0 := of_decide_eq_true h6
       conv => whnf
       refine bcase_intro (fun h7 => ?_) (fun h7 => ?_)
       ·conv => whnf
        refine bcase_intro (fun h8 => ?_) (fun h8 => ?_)
        ·conv => whnf
         refine ⟨[0,1,2,3,4], [6,7,10,11,12,13,50,51], [0,1,2,3,4], fun vs2 => ?_⟩
         conv => whnf
         refine ⟨fun _ _=>rfl,fun _ _=>rfl,fun _ _=>rfl,fun _ _=>rfl,fun _ _=>rfl,?_⟩
         conv => whnf
         refine ⟨_, _, ?_, ?_, (⟨(2, stp (rw * d1) ((RZ.at (⟨rx, ry, rz, rw, ⟨d0, d1, d2⟩⟩ : RZ) ⟨x2, y2, z2⟩).y) ((RZ.at (⟨rx, ry, rz, rw, ⟨d0, d1, d2⟩⟩ : RZ) ⟨x1, y1, z1⟩).y) s), (by decide : 2 ≤ 3), (nx1 hs).trans (bst_n hab hnz hn)⟩, vs2), (by decide : 3 - 2 < 3 - 1), rfl, rfl⟩
         ·exact ⟨fun _=>rfl,fun _=>rfl,fun _=>rfl,fun _=>rfl,fun _=>rfl,fun _=>rfl,fun _=>rfl,fun _=>rfl,fun _=>rfl,fun _=>rfl,fun _=>rfl,fun _=>rfl,fun _=>rfl,fun _=>rfl,stm _⟩
         ·exact ⟨⟨rfl,rfl,rfl, fun ρ => w2_cells (in_take (t := (RZ.at (⟨rx, ry, rz, rw, ⟨d0, d1, d2⟩⟩ : RZ) ⟨x1, y1, z1⟩).y) hc h7) ρ⟩, ⟨rfl,rfl,rfl, fun ρ => w2_cells (out_new (f := (RZ.at (⟨rx, ry, rz, rw, ⟨d0, d1, d2⟩⟩ : RZ) ⟨x2, y2, z2⟩).y) hc h8) ρ⟩, ⟨rfl,rfl,rfl, fun _=>rfl⟩, ⟨rfl,rfl,rfl, fun _=>rfl⟩, ⟨rfl,rfl,rfl, fun _=>rfl⟩, trivial⟩
        ·conv => whnf
         refine bcase_intro (fun h9 => ?_) (fun h9 => ?_)
         ·conv => whnf
          refine ⟨[0,1,2,3,4], [6,7,10,11,12,13,50,51], [0,1,2,3,4], fun vs2 => ?_⟩
          conv => whnf
          refine ⟨fun _ _=>rfl,fun _ _=>rfl,fun _ _=>rfl,fun _ _=>rfl,fun _ _=>rfl,?_⟩
          conv => whnf
          refine ⟨_, _, ?_, ?_, (⟨(2, stp (rw * d1) ((RZ.at (⟨rx, ry, rz, rw, ⟨d0, d1, d2⟩⟩ : RZ) ⟨x2, y2, z2⟩).y) ((RZ.at (⟨rx, ry, rz, rw, ⟨d0, d1, d2⟩⟩ : RZ) ⟨x1, y1, z1⟩).y) s), (by decide : 2 ≤ 3), (nx1 hs).trans (bst_n hab hnz hn)⟩, vs2), (by decide : 3 - 2 < 3 - 1), rfl, rfl⟩
          ·exact ⟨fun _=>rfl,fun _=>rfl,fun _=>rfl,fun _=>rfl,fun _=>rfl,fun _=>rfl,fun _=>rfl,fun _=>rfl,fun _=>rfl,fun _=>rfl,fun _=>rfl,fun _=>rfl,fun _=>rfl,fun _=>rfl,stm _⟩
          ·exact ⟨⟨rfl,rfl,rfl, fun ρ => w2_cells (in_take (t := (RZ.at (⟨rx, ry, rz, rw, ⟨d0, d1, d2⟩⟩ : RZ) ⟨x1, y1, z1⟩).y) hc h7) ρ⟩, ⟨rfl,rfl,rfl, fun ρ => w2_cells (out_take (f := (RZ.at (⟨rx, ry, rz, rw, ⟨d0, d1, d2⟩⟩ : RZ) ⟨x2, y2, z2⟩).y) hc h8 h9) ρ⟩, ⟨rfl,rfl,rfl, fun _=>rfl⟩, ⟨rfl,rfl,rfl, fun _=>rfl⟩, ⟨rfl,rfl,rfl, fun _=>rfl⟩, trivial⟩
         ·conv => whnf
          refine ⟨[0,1,2,3,4], [6,7,10,11,12,13,50,51], [0,1,2,3,4], fun vs2 => ?_⟩
          conv => whnf
          refine ⟨fun _ _=>rfl,fun _ _=>rfl,fun _ _=>rfl,fun _ _=>rfl,fun _ _=>rfl,?_⟩
          conv => whnf
          refine ⟨_, _, ?_, ?_, (⟨(2, stp (rw * d1) ((RZ.at (⟨rx, ry, rz, rw, ⟨d0, d1, d2⟩⟩ : RZ) ⟨x2, y2, z2⟩).y) ((RZ.at (⟨rx, ry, rz, rw, ⟨d0, d1, d2⟩⟩ : RZ) ⟨x1, y1, z1⟩).y) s), (by decide : 2 ≤ 3), (nx1 hs).trans (bst_n hab hnz hn)⟩, vs2), (by decide : 3 - 2 < 3 - 1), rfl, rfl⟩
          ·exact ⟨fun _=>rfl,fun _=>rfl,fun _=>rfl,fun _=>rfl,fun _=>rfl,fun _=>rfl,fun _=>rfl,fun _=>rfl,fun _=>rfl,fun _=>rfl,fun _=>rfl,fun _=>rfl,fun _=>rfl,fun ρ => sbool_e (isSome_f h8) ρ, stm _⟩
          ·exact ⟨⟨rfl,rfl,rfl, fun ρ => w2_cells (in_take (t := (RZ.at (⟨rx, ry, rz, rw, ⟨d0, d1, d2⟩⟩ : RZ) ⟨x1, y1, z1⟩).y) hc h7) ρ⟩, ⟨rfl,rfl,rfl, fun ρ => w2_cells (out_keep (f := (RZ.at (⟨rx, ry, rz, rw, ⟨d0, d1, d2⟩⟩ : RZ) ⟨x2, y2, z2⟩).y) hc h8 h9) ρ⟩, ⟨rfl,rfl,rfl, fun _=>rfl⟩, ⟨rfl,rfl,rfl, fun _=>rfl⟩, ⟨rfl,rfl,rfl, fun _=>rfl⟩, trivial⟩
       ·conv => whnf
        refine bcase_intro (fun h8 => ?_) (fun h8 => ?_)
        ·conv => whnf
         refine ⟨[0,1,2,3,4], [6,7,10,11,12,13,50,51], [0,1,2,3,4], fun vs2 => ?_⟩
         conv => whnf
         refine ⟨fun _ _=>rfl,fun _ _=>rfl,fun _ _=>rfl,fun _ _=>rfl,fun _ _=>rfl,?_⟩
         conv => whnf
         refine ⟨_, _, ?_, ?_, (⟨(2, stp (rw * d1) ((RZ.at (⟨rx, ry, rz, rw, ⟨d0, d1, d2⟩⟩ : RZ) ⟨x2, y2, z2⟩).y) ((RZ.at (⟨rx, ry, rz, rw, ⟨d0, d1, d2⟩⟩ : RZ) ⟨x1, y1, z1⟩).y) s), (by decide : 2 ≤ 3), (nx1 hs).trans (bst_n hab hnz hn)⟩, vs2), (by decide : 3 - 2 < 3 - 1), rfl, rfl⟩
         ·exact ⟨fun _=>rfl,fun _=>rfl,fun _=>rfl,fun _=>rfl,fun _=>rfl,fun _=>rfl,fun _=>rfl,fun _=>rfl,fun _=>rfl,fun _=>rfl,fun _=>rfl,fun _=>rfl,fun _=>rfl,fun _=>rfl,stm _⟩
         ·exact ⟨⟨rfl,rfl,rfl, fun ρ => w2_cells (in_keep (t := (RZ.at (⟨rx, ry, rz, rw, ⟨d0, d1, d2⟩⟩ : RZ) ⟨x1, y1, z1⟩).y) hc h7) ρ⟩, ⟨rfl,rfl,rfl, fun ρ => w2_cells (out_new (f := (RZ.at (⟨rx, ry, rz, rw, ⟨d0, d1, d2⟩⟩ : RZ) ⟨x2, y2, z2⟩).y) hc h8) ρ⟩, ⟨rfl,rfl,rfl, fun _=>rfl⟩, ⟨rfl,rfl,rfl, fun _=>rfl⟩, ⟨rfl,rfl,rfl, fun _=>rfl⟩, trivial⟩
        ·conv => whnf
         refine bcase_intro (fun h9 => ?_) (fun h9 => ?_)
         ·conv => whnf
          refine ⟨[0,1,2,3,4], [6,7,10,11,12,13,50,51], [0,1,2,3,4], fun vs2 => ?_⟩
          conv => whnf
          refine ⟨fun _ _=>rfl,fun _ _=>rfl,fun _ _=>rfl,fun _ _=>rfl,fun _ _=>rfl,?_⟩
          conv => whnf
          refine ⟨_, _, ?_, ?_, (⟨(2, stp (rw * d1) ((RZ.at (⟨rx, ry, rz, rw, ⟨d0, d1, d2⟩⟩ : RZ) ⟨x2, y2, z2⟩).y) ((RZ.at (⟨rx, ry, rz, rw, ⟨d0, d1, d2⟩⟩ : RZ) ⟨x1, y1, z1⟩).y) s), (by decide : 2 ≤ 3), (nx1 hs).trans (bst_n hab hnz hn)⟩, vs2), (by decide : 3 - 2 < 3 - 1), rfl, rfl⟩
          ·exact ⟨fun _=>rfl,fun _=>rfl,fun _=>rfl,fun _=>rfl,fun _=>rfl,fun _=>rfl,fun _=>rfl,fun _=>rfl,fun _=>rfl,fun _=>rfl,fun _=>rfl,fun _=>rfl,fun _=>rfl,fun _=>rfl,stm _⟩
          ·exact ⟨⟨rfl,rfl,rfl, fun ρ => w2_cells (in_keep (t := (RZ.at (⟨rx, ry, rz, rw, ⟨d0, d1, d2⟩⟩ : RZ) ⟨x1, y1, z1⟩).y) hc h7) ρ⟩, ⟨rfl,rfl,rfl, fun ρ => w2_cells (out_take (f := (RZ.at (⟨rx, ry, rz, rw, ⟨d0, d1, d2⟩⟩ : RZ) ⟨x2, y2, z2⟩).y) hc h8 h9) ρ⟩, ⟨rfl,rfl,rfl, fun _=>rfl⟩, ⟨rfl,rfl,rfl, fun _=>rfl⟩, ⟨rfl,rfl,rfl, fun _=>rfl⟩, trivial⟩
         ·conv => whnf
          refine ⟨[0,1,2,3,4], [6,7,10,11,12,13,50,51], [0,1,2,3,4], fun vs2 => ?_⟩
          conv => whnf
          refine ⟨fun _ _=>rfl,fun _ _=>rfl,fun _ _=>rfl,fun _ _=>rfl,fun _ _=>rfl,?_⟩
          conv => whnf
          refine ⟨_, _, ?_, ?_, (⟨(2, stp (rw * d1) ((RZ.at (⟨rx, ry, rz, rw, ⟨d0, d1, d2⟩⟩ : RZ) ⟨x2, y2, z2⟩).y) ((RZ.at (⟨rx, ry, rz, rw, ⟨d0, d1, d2⟩⟩ : RZ) ⟨x1, y1, z1⟩).y) s), (by decide : 2 ≤ 3), (nx1 hs).trans (bst_n hab hnz hn)⟩, vs2), (by decide : 3 - 2 < 3 - 1), rfl, rfl⟩
          ·exact ⟨fun _=>rfl,fun _=>rfl,fun _=>rfl,fun _=>rfl,fun _=>rfl,fun _=>rfl,fun _=>rfl,fun _=>rfl,fun _=>rfl,fun _=>rfl,fun _=>rfl,fun _=>rfl,fun _=>rfl,fun ρ => sbool_e (isSome_f h8) ρ, stm _⟩
          ·exact ⟨⟨rfl,rfl,rfl, fun ρ => w2_cells (in_keep (t := (RZ.at (⟨rx, ry, rz, rw, ⟨d0, d1, d2⟩⟩ : RZ) ⟨x1, y1, z1⟩).y) hc h7) ρ⟩, ⟨rfl,rfl,rfl, fun ρ => w2_cells (out_keep (f := (RZ.at (⟨rx, ry, rz, rw, ⟨d0, d1, d2⟩⟩ : RZ) ⟨x2, y2, z2⟩).y) hc h8 h9) ρ⟩, ⟨rfl,rfl,rfl, fun _=>rfl⟩, ⟨rfl,rfl,rfl, fun _=>rfl⟩, ⟨rfl,rfl,rfl, fun _=>rfl⟩, trivial⟩
      ·have hn : ¬ d1 < 0 := of_decide_eq_false h6
       conv => whnf
       refine bcase_intro (fun h7 => ?_) (fun h7 => ?_)
       ·conv => whnf
        refine bcase_intro (fun h8 => ?_) (fun h8 => ?_)
        ·conv => whnf
         refine ⟨[0,1,2,3,4], [6,7,10,11,12,13,50,51], [0,1,2,3,4], fun vs2 => ?_⟩
         conv => whnf
         refine ⟨fun _ _=>rfl,fun _ _=>rfl,fun _ _=>rfl,fun _ _=>rfl,fun _ _=>rfl,?_⟩
         conv => whnf
         refine ⟨_, _, ?_, ?_, (⟨(2, stp (rw * d1) ((RZ.at (⟨rx, ry, rz, rw, ⟨d0, d1, d2⟩⟩ : RZ) ⟨x1, y1, z1⟩).y) ((RZ.at (⟨rx, ry, rz, rw, ⟨d0, d1, d2⟩⟩ : RZ) ⟨x2, y2, z2⟩).y) s), (by decide : 2 ≤ 3), (nx1 hs).trans (bst_p hab hnz hn)⟩, vs2), (by decide : 3 - 2 < 3 - 1), rfl, rfl⟩
         ·exact ⟨fun _=>rfl,fun _=>rfl,fun _=>rfl,fun _=>rfl,fun _=>rfl,fun _=>rfl,fun _=>rfl,fun _=>rfl,fun _=>rfl,fun _=>rfl,fun _=>rfl,fun _=>rfl,fun _=>rfl,fun _=>rfl,stm _⟩
         ·exact ⟨⟨rfl,rfl,rfl, fun ρ => w2_cells (in_take (t := (RZ.at (⟨rx, ry, rz, rw, ⟨d0, d1, d2⟩⟩ : RZ) ⟨x2, y2, z2⟩).y) hc h7) ρ⟩, ⟨rfl,rfl,rfl, fun ρ => w2_cells (out_new (f := (RZ.at (⟨rx, ry, rz, rw, ⟨d0, d1, d2⟩⟩ : RZ) ⟨x1, y1, z1⟩).y) hc h8) ρ⟩, ⟨rfl,rfl,rfl, fun _=>rfl⟩, ⟨rfl,rfl,rfl, fun _=>rfl⟩, ⟨rfl,rfl,rfl, fun _=>rfl⟩, trivial⟩
        ·conv => whnf
         refine bcase_intro (fun h9 => ?_) (fun h9 => ?_)
         ·conv => whnf
          refine ⟨[0,1,2,3,4], [6,7,10,11,12,13,50,51], [0,1,2,3,4], fun vs2 => ?_⟩
          conv => whnf
          refine ⟨fun _ _=>rfl,fun _ _=>rfl,fun _ _=>rfl,fun _ _=>rfl,fun _ _=>rfl,?_⟩
          conv => whnf
          refine ⟨_, _, ?_, ?_, (⟨(2, stp (rw * d1) ((RZ.at (⟨rx, ry, rz, rw, ⟨d0, d1, d2⟩⟩ : RZ) ⟨x1, y1, z1⟩).y) ((RZ.at (⟨rx, ry, rz, rw, ⟨d0, d1, d2⟩⟩ : RZ) ⟨x2, y2, z2⟩).y) s), (by decide : 2 ≤ 3), (nx1 hs).trans (bst_p hab hnz hn)⟩, vs2), (by decide : 3 - 2 < 3 - 1), rfl, rfl⟩
          ·exact ⟨fun _=>rfl,fun _=>rfl,fun _=>rfl,fun _=>rfl,fun _=>rfl,fun _=>rfl,fun _=>rfl,fun _=>rfl,fun _=>rfl,fun _=>rfl,fun _=>rfl,fun _=>rfl,fun _=>rfl,fun _=>rfl,stm _⟩
          ·exact ⟨⟨rfl,rfl,rfl, fun ρ => w2_cells (in_take (t := (RZ.at (⟨rx, ry, rz, rw, ⟨d0, d1, d2⟩⟩ : RZ) ⟨x2, y2, z2⟩).y) hc h7) ρ⟩, ⟨rfl,rfl,rfl, fun ρ => w2_cells (out_take (f := (RZ.at (⟨rx, ry, rz, rw, ⟨d0, d1, d2⟩⟩ : RZ) ⟨x1, y1, z1⟩).y) hc h8 h9) ρ⟩, ⟨rfl,rfl,rfl, fun _=>rfl⟩, ⟨rfl,rfl,rfl, fun _=>rfl⟩, ⟨rfl,rfl,rfl, fun _=>rfl⟩, trivial⟩
         ·conv => whnf
          refine ⟨[0,1,2,3,4], [6,7,10,11,12,13,50,51], [0,1,2,3,4], fun vs2 => ?_⟩
          conv => whnf
          refine ⟨fun _ _=>rfl,fun _ _=>rfl,fun _ _=>rfl,fun _ _=>rfl,fun _ _=>rfl,?_⟩
          conv => whnf
          refine ⟨_, _, ?_, ?_, (⟨(2, stp (rw * d1) ((RZ.at (⟨rx, ry, rz, rw, ⟨d0, d1, d2⟩⟩ : RZ) ⟨x1, y1, z1⟩).y) ((RZ.at (⟨rx, ry, rz, rw, ⟨d0, d1, d2⟩⟩ : RZ) ⟨x2, y2, z2⟩).y) s), (by decide : 2 ≤ 3), (nx1 hs).trans (bst_p hab hnz hn)⟩, vs2), (by decide : 3 - 2 < 3 - 1), rfl, rfl⟩
          ·exact ⟨fun _=>rfl,fun _=>rfl,fun _=>rfl,fun _=>rfl,fun _=>rfl,fun _=>rfl,fun _=>rfl,fun _=>rfl,fun _=>rfl,fun _=>rfl,fun _=>rfl,fun _=>rfl,fun _=>rfl,fun ρ => sbool_e (isSome_f h8) ρ, stm _⟩
          ·exact ⟨⟨rfl,rfl,rfl, fun ρ => w2_cells (in_take (t := (RZ.at (⟨rx, ry, rz, rw, ⟨d0, d1, d2⟩⟩ : RZ) ⟨x2, y2, z2⟩).y) hc h7) ρ⟩, ⟨rfl,rfl,rfl, fun ρ => w2_cells (out_keep (f := (RZ.at (⟨rx, ry, rz, rw, ⟨d0, d1, d2⟩⟩ : RZ) ⟨x1, y1, z1⟩).y) hc h8 h9) ρ⟩, ⟨rfl,rfl,rfl, fun _=>rfl⟩, ⟨rfl,rfl,rfl, fun _=>rfl⟩, ⟨rfl,rfl,rfl, fun _=>rfl⟩, trivial⟩
       ·conv => whnf
        refine bcase_intro (fun h8 => ?_) (fun h8 => ?_)
        ·conv => whnf
         refine ⟨[0,1,2,3,4], [6,7,10,11,12,13,50,51], [0,1,2,3,4], fun vs2 => ?_⟩
         conv => whnf
         refine ⟨fun _ _=>rfl,fun _ _=>rfl,fun _ _=>rfl,fun _ _=>rfl,fun _ _=>rfl,?_⟩
         conv => whnf
         refine ⟨_, _, ?_, ?_, (⟨(2, stp (rw * d1) ((RZ.at (⟨rx, ry, rz, rw, ⟨d0, d1, d2⟩⟩ : RZ) ⟨x1, y1, z1⟩).y) ((RZ.at (⟨rx, ry, rz, rw, ⟨d0, d1, d2⟩⟩ : RZ) ⟨x2, y2, z2⟩).y) s), (by decide : 2 ≤ 3), (nx1 hs).trans (bst_p hab hnz hn)⟩, vs2), (by decide : 3 - 2 < 3 - 1), rfl, rfl⟩
         ·exact ⟨fun _=>rfl,fun _=>rfl,fun _=>rfl,fun _=>rfl,fun _=>rfl,fun _=>rfl,fun _=>rfl,fun _=>rfl,fun _=>rfl,fun _=>rfl,fun _=>rfl,fun _=>rfl,fun _=>rfl,fun _=>rfl,stm _⟩
         ·exact ⟨⟨rfl,rfl,rfl, fun ρ => w2_cells (in_keep (t := (RZ.at (⟨rx, ry, rz, rw, ⟨d0, d1, d2⟩⟩ : RZ) ⟨x2, y2, z2⟩).y) hc h7) ρ⟩, ⟨rfl,rfl,rfl, fun ρ => w2_cells (out_new (f := (RZ.at (⟨rx, ry, rz, rw, ⟨d0, d1, d2⟩⟩ : RZ) ⟨x1, y1, z1⟩).y) hc h8) ρ⟩, ⟨rfl,rfl,rfl, fun _=>rfl⟩, ⟨rfl,rfl,rfl, fun _=>rfl⟩, ⟨rfl,rfl,rfl, fun _=>rfl⟩, trivial⟩
        ·conv => whnf
         refine bcase_intro (fun h9 => ?_) (fun h9 => ?_)
         ·conv => whnf
          refine ⟨[0,1,2,3,4], [6,7,10,11,12,13,50,51], [0,1,2,3,4], fun vs2 => ?_⟩
          conv => whnf
          refine ⟨fun _ _=>rfl,fun _ _=>rfl,fun _ _=>rfl,fun _ _=>rfl,fun _ _=>rfl,?_⟩
          conv => whnf
          refine ⟨_, _, ?_, ?_, (⟨(2, stp (rw * d1) ((RZ.at (⟨rx, ry, rz, rw, ⟨d0, d1, d2⟩⟩ : RZ) ⟨x1, y1, z1⟩).y) ((RZ.at (⟨rx, ry, rz, rw, ⟨d0, d1, d2⟩⟩ : RZ) ⟨x2, y2, z2⟩).y) s), (by decide : 2 ≤ 3), (nx1 hs).trans (bst_p hab hnz hn)⟩, vs2), (by decide : 3 - 2 < 3 - 1), rfl, rfl⟩
          ·exact ⟨fun _=>rfl,fun _=>rfl,fun _=>rfl,fun _=>rfl,fun _=>rfl,fun _=>rfl,fun _=>rfl,fun _=>rfl,fun _=>rfl,fun _=>rfl,fun _=>rfl,fun _=>rfl,fun _=>rfl,fun _=>rfl,stm _⟩
          ·exact ⟨⟨rfl,rfl,rfl, fun ρ => w2_cells (in_keep (t := (RZ.at (⟨rx, ry, rz, rw, ⟨d0, d1, d2⟩⟩ : RZ) ⟨x2, y2, z2⟩).y) hc h7) ρ⟩, ⟨rfl,rfl,rfl, fun ρ => w2_cells (out_take (f := (RZ.at (⟨rx, ry, rz, rw, ⟨d0, d1, d2⟩⟩ : RZ) ⟨x1, y1, z1⟩).y) hc h8 h9) ρ⟩, ⟨rfl,rfl,rfl, fun _=>rfl⟩, ⟨rfl,rfl,rfl, fun _=>rfl⟩, ⟨rfl,rfl,rfl, fun _=>rfl⟩, trivial⟩
         ·conv => whnf
          refine ⟨[0,1,2,3,4], [6,7,10,11,12,13,50,51], [0,1,2,3,4], fun vs2 => ?_⟩
          conv => whnf
          refine ⟨fun _ _=>rfl,fun _ _=>rfl,fun _ _=>rfl,fun _ _=>rfl,fun _ _=>rfl,?_⟩
          conv => whnf
          refine ⟨_, _, ?_, ?_, (⟨(2, stp (rw * d1) ((RZ.at (⟨rx, ry, rz, rw, ⟨d0, d1, d2⟩⟩ : RZ) ⟨x1, y1, z1⟩).y) ((RZ.at (⟨rx, ry, rz, rw, ⟨d0, d1, d2⟩⟩ : RZ) ⟨x2, y2, z2⟩).y) s), (by decide : 2 ≤ 3), (nx1 hs).trans (bst_p hab hnz hn)⟩, vs2), (by decide : 3 - 2 < 3 - 1), rfl, rfl⟩
          ·exact ⟨fun _=>rfl,fun _=>rfl,fun _=>rfl,fun _=>rfl,fun _=>rfl,fun _=>rfl,fun _=>rfl,fun _=>rfl,fun _=>rfl,fun _=>rfl,fun _=>rfl,fun _=>rfl,fun _=>rfl,fun ρ => sbool_e (isSome_f h8) ρ, stm _⟩
          ·exact ⟨⟨rfl,rfl,rfl, fun ρ => w2_cells (in_keep (t := (RZ.at (⟨rx, ry, rz, rw, ⟨d0, d1, d2⟩⟩ : RZ) ⟨x2, y2, z2⟩).y) hc h7) ρ⟩, ⟨rfl,rfl,rfl, fun ρ => w2_cells (out_keep (f := (RZ.at (⟨rx, ry, rz, rw, ⟨d0, d1, d2⟩⟩ : RZ) ⟨x1, y1, z1⟩).y) hc h8 h9) ρ⟩, ⟨rfl,rfl,rfl, fun _=>rfl⟩, ⟨rfl,rfl,rfl, fun _=>rfl⟩, ⟨rfl,rfl,rfl, fun _=>rfl⟩, trivial⟩
  ·conv => whnf
   refine bcase_intro (fun h1 => ?_) (fun h1 => ?_)
   ·conv => whnf
    refine bcase_intro (fun h1b => ?_) (fun h1b => ?_)
    ·conv => whnf
     exact fun ρ => box_no _ (fl2 hs (bst_f1 (gt_y h1))) _ _ _ _ ρ
    ·exact Bool.noConfusion (h1.symm.trans h1b)
   ·have hab : ¬ (RZ.at (⟨rx, ry, rz, rw, ⟨d0, d1, d2⟩⟩ : RZ) ⟨x2, y2, z2⟩).z < (RZ.at (⟨rx, ry, rz, rw, ⟨d0, d1, d2⟩⟩ : RZ) ⟨x1, y1, z1⟩).z := gt_n h1
    conv => whnf
    refine bcase_intro (fun h2 => ?_) (fun h2 => ?_)
    ·have hz : d2 = 0 := of_decide_eq_true h2
     conv => whnf
     refine bcase_intro (fun h3 => ?_) (fun h3 => ?_)
     ·conv => whnf
      exact fun ρ => box_no _ (fl2 hs (bst_f2 hab hz (.inl (sg_y h3)))) _ _ _ _ ρ
     ·conv => whnf
      refine bcase_intro (fun h4 => ?_) (fun h4 => ?_)
      ·conv => whnf
       exact fun ρ => box_no _ (fl2 hs (bst_f2 hab hz (.inr (sl_y h4)))) _ _ _ _ ρ
      ·conv => whnf
       refine bcase_intro (fun h5 => ?_) (fun h5 => ?_)
       ·conv => whnf
        refine ⟨[0,1,2,3,4], [6,7,10,11,12,13,50,51], [0,1,2,3,4], fun vs2 => ?_⟩
        conv => whnf
        refine ⟨fun _ _=>rfl,fun _ _=>rfl,fun _ _=>rfl,fun _ _=>rfl,fun _ _=>rfl,?_⟩
        conv => whnf
        refine ⟨_, _, ?_, ?_, (⟨(3, s), (by decide : 3 ≤ 3), (nx2 hs).trans (bst_z hab hz (sg_n h3) (sl_n h4))⟩, vs2), (by decide : 3 - 3 < 3 - 2), rfl, rfl⟩
        ·exact stm _
        ·exact ⟨⟨rfl,rfl,rfl, fun ρ => rfl⟩, ⟨rfl,rfl,rfl, fun ρ => rfl⟩, ⟨rfl,rfl,rfl, fun _=>rfl⟩, ⟨rfl,rfl,rfl, fun _=>rfl⟩, ⟨rfl,rfl,rfl, fun _=>rfl⟩, trivial⟩
       ·exact Bool.noConfusion (h5.symm.trans h2)
    ·have hnz : d2 ≠ 0 := of_decide_eq_false h2
     have hc : (rw * d2) ≠ 0 := Int.mul_ne_zero (by omega) hnz
     conv => whnf
     refine bcase_intro (fun h5 => ?_) (fun h5 => ?_)
     ·exact Bool.noConfusion (h5.symm.trans h2)
     ·conv => whnf
      refine bcase_intro (fun h6 => ?_) (fun h6 => ?_)
      ·have hn : d2 < 0 := of_decide_eq_true h6
       conv => whnf
       refine bcase_intro (fun h7 => ?_) (fun h7 => ?_)
       ·conv => whnf
        refine bcase_intro (fun h8 => ?_) (fun h8 => ?_)
        ·conv => whnf
         refine ⟨[0,1,2,3,4], [6,7,10,11,12,13,50,51], [0,1,2,3,4], fun vs2 => ?_⟩
         conv => whnf
         refine ⟨fun _ _=>rfl,fun _ _=>rfl,fun _ _=>rfl,fun _ _=>rfl,fun _ _=>rfl,?_⟩
         conv => whnf
         refine ⟨_, _, ?_, ?_, (⟨(3, stp (rw * d2) ((RZ.at (⟨rx, ry, rz, rw, ⟨d0, d1, d2⟩⟩ : RZ) ⟨x2, y2, z2⟩).z) ((RZ.at (⟨rx, ry, rz, rw, ⟨d0, d1, d2⟩⟩ : RZ) ⟨x1, y1, z1⟩).z) s), (by decide : 3 ≤ 3), (nx2 hs).trans (bst_n hab hnz hn)⟩, vs2), (by decide : 3 - 3 < 3 - 2), rfl, rfl⟩
         ·exact ⟨fun _=>rfl,fun _=>rfl,fun _=>rfl,fun _=>rfl,fun _=>rfl,fun _=>rfl,fun _=>rfl,fun _=>rfl,fun _=>rfl,fun _=>rfl,fun _=>rfl,fun _=>rfl,fun _=>rfl,fun _=>rfl,stm _⟩
         ·exact ⟨⟨rfl,rfl,rfl, fun ρ => w2_cells (in_take (t := (RZ.at (⟨rx, ry, rz, rw, ⟨d0, d1, d2⟩⟩ : RZ) ⟨x1, y1, z1⟩).z) hc h7) ρ⟩, ⟨rfl,rfl,rfl, fun ρ => w2_cells (out_new (f := (RZ.at (⟨rx, ry, rz, rw, ⟨d0, d1, d2⟩⟩ : RZ) ⟨x2, y2, z2⟩).z) hc h8) ρ⟩, ⟨rfl,rfl,rfl, fun _=>rfl⟩, ⟨rfl,rfl,rfl, fun _=>rfl⟩, ⟨rfl,rfl,rfl, fun _=>rfl⟩, trivial⟩
        ·conv => whnf
         refine bcase_intro (fun h9 => ?_) (fun h9 => ?_)
         ·conv => whnf
          refine ⟨[0,1,2,3,4], [6,7,10,11,12,13,50,51], [0,1,2,3,4], fun vs2 => ?_⟩
          conv => whnf
          refine ⟨fun _ _=>rfl,fun _ _=>rfl,fun _ _=>rfl,fun _ _=>rfl,fun _ _=>rfl,?_⟩
          conv => whnf
          refine ⟨_, _, ?_, ?_, (⟨(3, stp (rw * d2) ((RZ.at (⟨rx, ry, rz, rw, ⟨d0, d1, d2⟩⟩ : RZ) ⟨x2, y2, z2⟩).z) ((RZ.at (⟨rx, ry, rz, rw, ⟨d0, d1, d2⟩⟩ : RZ) ⟨x1, y1, z1⟩).z) s), (by decide : 3 ≤ 3), (nx2 hs).trans (bst_n hab hnz hn)⟩, vs2), (by decide : 3 - 3 < 3 - 2), rfl, rfl⟩
          ·exact ⟨fun _=>rfl,fun _=>rfl,fun _=>rfl,fun _=>rfl,fun _=>rfl,fun _=>rfl,fun _=>rfl,fun _=>rfl,fun _=>rfl,fun _=>rfl,fun _=>rfl,fun _=>rfl,fun _=>rfl,fun _=>rfl,stm _⟩
          ·exact ⟨⟨rfl,rfl,rfl, fun ρ => w2_cells (in_take (t := (RZ.at (⟨rx, ry, rz, rw, ⟨d0, d1, d2⟩⟩ : RZ) ⟨x1, y1, z1⟩).z) hc h7) ρ⟩, ⟨rfl,rfl,rfl, fun ρ => w2_cells (out_take (f := (RZ.at (⟨rx, ry, rz, rw, ⟨d0, d1, d2⟩⟩ : RZ) ⟨x2, y2, z2⟩).z) hc h8 h9) ρ⟩, ⟨rfl,rfl,rfl, fun _=>rfl⟩, ⟨rfl,rfl,rfl, fun _=>rfl⟩, ⟨rfl,rfl,rfl, fun _=>rfl⟩, trivial⟩
         ·conv => whnf
          refine ⟨[0,1,2,3,4], [6,7,10,11,12,13,50,51], [0,1,2,3,4], fun vs2 => ?_⟩
          conv => whnf
          refine ⟨fun _ _=>rfl,fun _ _=>rfl,fun _ _=>rfl,fun _ _=>rfl,fun _ _=>rfl,?_⟩
          conv => whnf
          refine ⟨_, _, ?_, ?_, (⟨(3, stp (rw * d2) ((RZ.at (⟨rx, ry, rz, rw, ⟨d0, d1, d2⟩⟩ : RZ) ⟨x2, y2, z2⟩).z) ((RZ.at (⟨rx, ry, rz, rw, ⟨d0, d1, d2⟩⟩ : RZ) ⟨x1, y1, z1⟩).z) s), (by decide : 3 ≤ 3), (nx2 hs).trans (bst_n hab hnz hn)⟩, vs2), (by decide : 3 - 3 < 3 - 2), rfl, rfl⟩
          ·exact ⟨fun _=>rfl,fun _=>rfl,fun _=>rfl,fun _=>rfl,fun _=>rfl,fun _=>rfl,fun _=>rfl,fun _=>rfl,fun _=>rfl,fun _=>rfl,fun _=>rfl,fun _=>rfl,fun _=>rfl,fun ρ => sbool_e (isSome_f h8) ρ, stm _⟩
          ·exact ⟨⟨rfl,rfl,rfl, fun ρ => w2_cells (in_take (t := (RZ.at (⟨rx, ry, rz, rw, ⟨d0, d1, d2⟩⟩ : RZ) ⟨x1, y1, z1⟩).z) hc h7) ρ⟩, ⟨rfl,rfl,rfl, fun ρ => w2_cells (out_keep (f := (RZ.at (⟨rx, ry, rz, rw, ⟨d0, d1, d2⟩⟩ : RZ) ⟨x2, y2, z2⟩).z) hc h8 h9) ρ⟩, ⟨rfl,rfl,rfl, fun _=>rfl⟩, ⟨rfl,rfl,rfl, fun _=>rfl⟩, ⟨rfl,rfl,rfl, fun _=>rfl⟩, trivial⟩
       ·conv => whnf
        refine bcase_intro (fun h8 => ?_) (fun h8 => ?_)
        ·conv => whnf
         refine ⟨[0,1,2,3,4], [6,7,10,11,12,13,50,51], [0,1,2,3,4], fun vs2 => ?_⟩
         conv => whnf
         refine ⟨fun _ _=>rfl,fun _ _=>rfl,fun _ _=>rfl,fun _ _=>rfl,fun _ _=>rfl,?_⟩
         conv => whnf
         refine ⟨_, _, ?_, ?_, (⟨(3, stp (rw * d2) ((RZ.at (⟨rx, ry, rz, rw, ⟨d0, d1, d2⟩⟩ : RZ) ⟨x2, y2, z2⟩).z) ((RZ.at (⟨rx, ry, rz, rw, ⟨d0, d1, d2⟩⟩ : RZ) ⟨x1, y1, z1⟩).z) s), (by decide : 3 ≤ 3), (nx2 hs).trans (bst_n hab hnz hn)⟩, vs2), (by decide : 3 - 3 < 3 - 2), rfl, rfl⟩
         ·exact ⟨fun _=>rfl,fun _=>rfl,fun _=>rfl,fun _=>rfl,fun _=>rfl,fun _=>rfl,fun _=>rfl,fun _=>rfl,fun _=>rfl,fun _=>rfl,fun _=>rfl,fun _=>rfl,fun _=>rfl,fun _=>rfl,stm _⟩
         ·exact ⟨⟨rfl,rfl,rfl, fun ρ => w2_cells (in_keep (t := (RZ.at (⟨rx, ry, rz, rw, ⟨d0, d1, d2⟩⟩ : RZ) ⟨x1, y1, z1⟩).z) hc h7) ρ⟩, ⟨rfl,rfl,rfl, fun ρ => w2_cells (out_new (f := (RZ.at (⟨rx, ry, rz, rw, ⟨d0, d1, d2⟩⟩ : RZ) ⟨x2, y2, z2⟩).z) hc h8) ρ⟩, ⟨rfl,rfl,rfl, fun _=>rfl⟩, ⟨rfl,rfl,rfl, fun _=>rfl⟩, ⟨rfl,rfl,rfl, fun _=>rfl⟩, trivial⟩
        ·conv => whnf
         refine bcase_intro (fun h9 => ?_) (fun h9 => ?_)
         ·conv => whnf
          refine ⟨[0,1,2,3,4], [6,7,10,11,12,13,50,51], [0,1,2,3,4], fun vs2 => ?_⟩
          conv => whnf
          refine ⟨fun _ _=>rfl,fun _ _=>rfl,fun _ _=>rfl,fun _ _=>rfl,fun _ _=>rfl,?_⟩
          conv => whnf
          refine ⟨_, _, ?_, ?_, (⟨(3, stp (rw * d2) ((RZ.at (⟨rx, ry, rz, rw, ⟨d0, d1, d2⟩⟩ : RZ) ⟨x2, y2, z2⟩).z) ((RZ.at (⟨rx, ry, rz, rw, ⟨d0, d1, d2⟩⟩ : RZ) ⟨x1, y1, z1⟩).z) s), (by decide : 3 ≤ 3), (nx2 hs).trans (bst_n hab hnz hn)⟩, vs2), (by decide : 3 - 3 < 3 - 2), rfl, rfl⟩
          ·exact ⟨fun _=>rfl,fun _=>rfl,fun _=>rfl,fun _=>rfl,fun _=>rfl,fun _=>rfl,fun _=>rfl,fun _=>rfl,fun _=>rfl,fun _=>rfl,fun _=>rfl,fun _=>rfl,fun _=>rfl,fun _=>rfl,stm _⟩
          ·exact ⟨⟨rfl,rfl,rfl, fun ρ => w2_cells (in_keep (t := (RZ.at (⟨rx, ry, rz, rw, ⟨d0, d1, d2⟩⟩ : RZ) ⟨x1, y1, z1⟩).z) hc h7) ρ⟩, ⟨rfl,rfl,rfl, fun ρ => w2_cells (out_take (f := (RZ.at (⟨rx, ry, rz, rw, ⟨d0, d1, d2⟩⟩ : RZ) ⟨x2, y2, z2⟩).z) hc h8 h9) ρ⟩, ⟨rfl,rfl,rfl, fun _=>rfl⟩, ⟨rfl,rfl,rfl, fun _=>rfl⟩, ⟨rfl,rfl,rfl, fun _=>rfl⟩, trivial⟩
         ·conv => whnf
          refine ⟨[0,1,2,3,4], [6,7,10,11,12,13,50,51], [0,1,2,3,4], fun vs2 => ?_⟩
          conv => whnf
          refine ⟨fun _ _=>rfl,fun _ _=>rfl,fun _ _=>rfl,fun _ _=>rfl,fun _ _=>rfl,?_⟩
          conv => whnf
          refine ⟨_, _, ?_, ?_, (⟨(3, stp (rw * d2) ((RZ.at (⟨rx, ry, rz, rw, ⟨d0, d1, d2⟩⟩ : RZ) ⟨x2, y2, z2⟩).z) ((RZ.at (⟨rx, ry, rz, rw, ⟨d0, d1, d2⟩⟩ : RZ) ⟨x1, y1, z1⟩).z) s), (by decide : 3 ≤ 3), (nx2 hs).trans (bst_n hab hnz hn)⟩, vs2), (by decide : 3 - 3 < 3 - 2), rfl, rfl⟩
          ·exact ⟨fun _=>rfl,fun _=>rfl,fun _=>rfl,fun _=>rfl,fun _=>rfl,fun _=>rfl,fun _=>rfl,fun _=>rfl,fun _=>rfl,fun _=>rfl,fun _=>rfl,fun _=>rfl,fun _=>rfl,fun ρ => sbool_e (isSome_f h8) ρ, stm _⟩
          ·exact ⟨⟨rfl,rfl,rfl, fun ρ => w2_cells (in_keep (t := (RZ.at (⟨rx, ry, rz, rw, ⟨d0, d1, d2⟩⟩ : RZ) ⟨x1, y1, z1⟩).z) hc h7) ρ⟩, ⟨rfl,rfl,rfl, fun ρ => w2_cells (out_keep (f := (RZ.at (⟨rx, ry, rz, rw, ⟨d0, d1, d2⟩⟩ : RZ) ⟨x2, y2, z2⟩).z) hc h8 h9) ρ⟩, ⟨rfl,rfl,rfl, fun _=>rfl⟩, ⟨rfl,rfl,rfl, fun _=>rfl⟩, ⟨rfl,rfl,rfl, fun _=>rfl⟩, trivial⟩
      ·have hn : ¬ d2 < 0 := of_decide_eq_false h6
       conv => whnf
       refine bcase_intro (fun h7 => ?_) (fun h7 => ?_)
       ·conv => whnf
        refine bcase_intro (fun h8 => ?_) (fun h8 => ?_)
        ·conv => whnf
         refine ⟨[0,1,2,3,4], [6,7,10,11,12,13,50,51], [0,1,2,3,4], fun vs2 => ?_⟩
         conv => whnf
         refine ⟨fun _ _=>rfl,fun _ _=>rfl,fun _ _=>rfl,fun _ _=>rfl,fun _ _=>rfl,?_⟩
         conv => whnf
         refine ⟨_, _, ?_, ?_, (⟨(3, stp (rw * d2) ((RZ.at (⟨rx, ry, rz, rw, ⟨d0, d1, d2⟩⟩ : RZ) ⟨x1, y1, z1⟩).z) ((RZ.at (⟨rx, ry, rz, rw, ⟨d0, d1, d2⟩⟩ : RZ) ⟨x2, y2, z2⟩).z) s), (by decide : 3 ≤ 3), (nx2 hs).trans (bst_p hab hnz hn)⟩, vs2), (by decide : 3 - 3 < 3 - 2), rfl, rfl⟩
         ·exact ⟨fun _=>rfl,fun _=>rfl,fun _=>rfl,fun _=>rfl,fun _=>rfl,fun _=>rfl,fun _=>rfl,fun _=>rfl,fun _=>rfl,fun _=>rfl,fun _=>rfl,fun _=>rfl,fun _=>rfl,fun _=>rfl,stm _⟩
         ·exact ⟨⟨rfl,rfl,rfl, fun ρ => w2_cells (in_take (t := (RZ.at (⟨rx, ry, rz, rw, ⟨d0, d1, d2⟩⟩ : RZ) ⟨x2, y2, z2⟩).z) hc h7) ρ⟩, ⟨rfl,rfl,rfl, fun ρ => w2_cells (out_new (f := (RZ.at (⟨rx, ry, rz, rw, ⟨d0, d1, d2⟩⟩ : RZ) ⟨x1, y1, z1⟩).z) hc h8) ρ⟩, ⟨rfl,rfl,rfl, fun _=>rfl⟩, ⟨rfl,rfl,rfl, fun _=>rfl⟩, ⟨rfl,rfl,rfl, fun _=>rfl⟩, trivial⟩
        ·conv => whnf
         refine bcase_intro (fun h9 => ?_) (fun h9 => ?_)
         ·conv => whnf
          refine ⟨[0,1,2,3,4], [6,7,10,11,12,13,50,51], [0,1,2,3,4], fun vs2 => ?_⟩
          conv => whnf
          refine ⟨fun _ _=>rfl,fun _ _=>rfl,fun _ _=>rfl,fun _ _=>rfl,fun _ _=>rfl,?_⟩
          conv => whnf
          refine ⟨_, _, ?_, ?_, (⟨(3, stp (rw * d2) ((RZ.at (⟨rx, ry, rz, rw, ⟨d0, d1, d2⟩⟩ : RZ) ⟨x1, y1, z1⟩).z) ((RZ.at (⟨rx, ry, rz, rw, ⟨d0, d1, d2⟩⟩ : RZ) ⟨x2, y2, z2⟩).z) s), (by decide : 3 ≤ 3), (nx2 hs).trans (bst_p hab hnz hn)⟩, vs2), (by decide : 3 - 3 < 3 - 2), rfl, rfl⟩
          ·exact ⟨fun _=>rfl,fun _=>rfl,fun _=>rfl,fun _=>rfl,fun _=>rfl,fun _=>rfl,fun _=>rfl,fun _=>rfl,fun _=>rfl,fun _=>rfl,fun _=>rfl,fun _=>rfl,fun _=>rfl,fun _=>rfl,stm _⟩
          ·exact ⟨⟨rfl,rfl,rfl, fun ρ => w2_cells (in_take (t := (RZ.at (⟨rx, ry, rz, rw, ⟨d0, d1, d2⟩⟩ : RZ) ⟨x2, y2, z2⟩).z) hc h7) ρ⟩, ⟨rfl,rfl,rfl, fun ρ => w2_cells (out_take (f := (RZ.at (⟨rx, ry, rz, rw, ⟨d0, d1, d2⟩⟩ : RZ) ⟨x1, y1, z1⟩).z) hc h8 h9) ρ⟩, ⟨rfl,rfl,rfl, fun _=>rfl⟩, ⟨rfl,rfl,rfl, fun _=>rfl⟩, ⟨rfl,rfl,rfl, fun _=>rfl⟩, trivial⟩
         ·conv => whnf
          refine ⟨[0,1,2,3,4], [6,7,10,11,12,13,50,51], [0,1,2,3,4], fun vs2 => ?_⟩
          conv => whnf
          refine ⟨fun _ _=>rfl,fun _ _=>rfl,fun _ _=>rfl,fun _ _=>rfl,fun _ _=>rfl,?_⟩
          conv => whnf
          refine ⟨_, _, ?_, ?_, (⟨(3, stp (rw * d2) ((RZ.at (⟨rx, ry, rz, rw, ⟨d0, d1, d2⟩⟩ : RZ) ⟨x1, y1, z1⟩).z) ((RZ.at (⟨rx, ry, rz, rw, ⟨d0, d1, d2⟩⟩ : RZ) ⟨x2, y2, z2⟩).z) s), (by decide : 3 ≤ 3), (nx2 hs).trans (bst_p hab hnz hn)⟩, vs2), (by decide : 3 - 3 < 3 - 2), rfl, rfl⟩
          ·exact ⟨fun _=>rfl,fun _=>rfl,fun _=>rfl,fun _=>rfl,fun _=>rfl,fun _=>rfl,fun _=>rfl,fun _=>rfl,fun _=>rfl,fun _=>rfl,fun _=>rfl,fun _=>rfl,fun _=>rfl,fun ρ => sbool_e (isSome_f h8) ρ, stm _⟩
          ·exact ⟨⟨rfl,rfl,rfl, fun ρ => w2_cells (in_take (t := (RZ.at (⟨rx, ry, rz, rw, ⟨d0, d1, d2⟩⟩ : RZ) ⟨x2, y2, z2⟩).z) hc h7) ρ⟩, ⟨rfl,rfl,rfl, fun ρ => w2_cells (out_keep (f := (RZ.at (⟨rx, ry, rz, rw, ⟨d0, d1, d2⟩⟩ : RZ) ⟨x1, y1, z1⟩).z) hc h8 h9) ρ⟩, ⟨rfl,rfl,rfl, fun _=>rfl⟩, ⟨rfl,rfl,rfl, fun _=>rfl⟩, ⟨rfl,rfl,rfl, fun _=>rfl⟩, trivial⟩
       ·conv => whnf
        refine bcase_intro (fun h8 => ?_) (fun h8 => ?_)
        ·conv => whnf
         refine ⟨[0,1,2,3,4], [6,7,10,11,12,13,50,51], [0,1,2,3,4], fun vs2 => ?_⟩
         conv => whnf
         refine ⟨fun _ _=>rfl,fun _ _=>rfl,fun _ _=>rfl,fun _ _=>rfl,fun _ _=>rfl,?_⟩
         conv => whnf
         refine ⟨_, _, ?_, ?_, (⟨(3, stp (rw * d2) ((RZ.at (⟨rx, ry, rz, rw, ⟨d0, d1, d2⟩⟩ : RZ) ⟨x1, y1, z1⟩).z) ((RZ.at (⟨rx, ry, rz, rw, ⟨d0, d1, d2⟩⟩ : RZ) ⟨x2, y2, z2⟩).z) s), (by decide : 3 ≤ 3), (nx2 hs).trans (bst_p hab hnz hn)⟩, vs2), (by decide : 3 - 3 < 3 - 2), rfl, rfl⟩
         ·exact ⟨fun _=>rfl,fun _=>rfl,fun _=>rfl,fun _=>rfl,fun _=>rfl,fun _=>rfl,fun _=>rfl,fun _=>rfl,fun _=>rfl,fun _=>rfl,fun _=>rfl,fun _=>rfl,fun _=>rfl,fun _=>rfl,stm _⟩
         ·exact ⟨⟨rfl,rfl,rfl, fun ρ => w2_cells (in_keep (t := (RZ.at (⟨rx, ry, rz, rw, ⟨d0, d1, d2⟩⟩ : RZ) ⟨x2, y2, z2⟩).z) hc h7) ρ⟩, ⟨rfl,rfl,rfl, fun ρ => w2_cells (out_new (f := (RZ.at (⟨rx, ry, rz, rw, ⟨d0, d1, d2⟩⟩ : RZ) ⟨x1, y1, z1⟩).z) hc h8) ρ⟩, ⟨rfl,rfl,rfl, fun _=>rfl⟩, ⟨rfl,rfl,rfl, fun _=>rfl⟩, ⟨rfl,rfl,rfl, fun _=>rfl⟩, trivial⟩
        ·conv => whnf
         refine bcase_intro (fun h9 => ?_) (fun h9 => ?_)
         ·conv => whnf
          refine ⟨[0,1,2,3,4], [6,7,10,11,12,13,50,51], [0,1,2,3,4], fun vs2 => ?_⟩
          conv => whnf
          refine ⟨fun _ _=>rfl,fun _ _=>rfl,fun _ _=>rfl,fun _ _=>rfl,fun _ _=>rfl,?_⟩
          conv => whnf
          refine ⟨_, _, ?_, ?_, (⟨(3, stp (rw * d2) ((RZ.at (⟨rx, ry, rz, rw, ⟨d0, d1, d2⟩⟩ : RZ) ⟨x1, y1, z1⟩).z) ((RZ.at (⟨rx, ry, rz, rw, ⟨d0, d1, d2⟩⟩ : RZ) ⟨x2, y2, z2⟩).z) s), (by decide : 3 ≤ 3), (nx2 hs).trans (bst_p hab hnz hn)⟩, vs2), (by decide : 3 - 3 < 3 - 2), rfl, rfl⟩
          ·exact ⟨fun _=>rfl,fun _=>rfl,fun _=>rfl,fun _=>rfl,fun _=>rfl,fun _=>rfl,fun _=>rfl,fun _=>rfl,fun _=>rfl,fun _=>rfl,fun _=>rfl,fun _=>rfl,fun _=>rfl,fun _=>rfl,stm _⟩
          ·exact ⟨⟨rfl,rfl,rfl, fun ρ => w2_cells (in_keep (t := (RZ.at (⟨rx, ry, rz, rw, ⟨d0, d1, d2⟩⟩ : RZ) ⟨x2, y2, z2⟩).z) hc h7) ρ⟩, ⟨rfl,rfl,rfl, fun ρ => w2_cells (out_take (f := (RZ.at (⟨rx, ry, rz, rw, ⟨d0, d1, d2⟩⟩ : RZ) ⟨x1, y1, z1⟩).z) hc h8 h9) ρ⟩, ⟨rfl,rfl,rfl, fun _=>rfl⟩, ⟨rfl,rfl,rfl, fun _=>rfl⟩, ⟨rfl,rfl,rfl, fun _=>rfl⟩, trivial⟩
         ·conv => whnf
          refine ⟨[0,1,2,3,4], [6,7,10,11,12,13,50,51], [0,1,2,3,4], fun vs2 => ?_⟩
          conv => whnf
          refine ⟨fun _ _=>rfl,fun _ _=>rfl,fun _ _=>rfl,fun _ _=>rfl,fun _ _=>rfl,?_⟩
          conv => whnf
          refine ⟨_, _, ?_, ?_, (⟨(3, stp (rw * d2) ((RZ.at (⟨rx, ry, rz, rw, ⟨d0, d1, d2⟩⟩ : RZ) ⟨x1, y1, z1⟩).z) ((RZ.at (⟨rx, ry, rz, rw, ⟨d0, d1, d2⟩⟩ : RZ) ⟨x2, y2, z2⟩).z) s), (by decide : 3 ≤ 3), (nx2 hs).trans (bst_p hab hnz hn)⟩, vs2), (by decide : 3 - 3 < 3 - 2), rfl, rfl⟩
          ·exact ⟨fun _=>rfl,fun _=>rfl,fun _=>rfl,fun _=>rfl,fun _=>rfl,fun _=>rfl,fun _=>rfl,fun _=>rfl,fun _=>rfl,fun _=>rfl,fun _=>rfl,fun _=>rfl,fun _=>rfl,fun ρ => sbool_e (isSome_f h8) ρ, stm _⟩
          ·exact ⟨⟨rfl,rfl,rfl, fun ρ => w2_cells (in_keep (t := (RZ.at (⟨rx, ry, rz, rw, ⟨d0, d1, d2⟩⟩ : RZ) ⟨x2, y2, z2⟩).z) hc h7) ρ⟩, ⟨rfl,rfl,rfl, fun ρ => w2_cells (out_keep (f := (RZ.at (⟨rx, ry, rz, rw, ⟨d0, d1, d2⟩⟩ : RZ) ⟨x1, y1, z1⟩).z) hc h8 h9) ρ⟩, ⟨rfl,rfl,rfl, fun _=>rfl⟩, ⟨rfl,rfl,rfl, fun _=>rfl⟩, ⟨rfl,rfl,rfl, fun _=>rfl⟩, trivial⟩
  ·obtain ⟨i, u, rfl⟩ := out_is hperm hs
   conv => whnf
   refine bcase_intro (fun h9 => ?_) (fun h9 => ?_)
   ·have h9 : u < i := of_decide_eq_true (cmp_gt.symm.trans h9)
    conv => whnf
    exact fun ρ => box_no _ ((box_end hperm hs).trans (if_pos h9)) _ _ _ _ ρ
   have h9 : ¬ u < i := of_decide_eq_false (cmp_gt.symm.trans h9)
   conv => whnf
   refine ⟨?_, ?_, trivial⟩
   ·conv => whnf
    refine ⟨?_, ?_, trivial⟩
    ·conv => whnf
     refine ⟨?_, trivial⟩
     ·conv => whnf
      refine ⟨?_, trivial⟩
      ·conv => whnf
       refine ⟨?_, trivial⟩
       ·conv => whnf
        conv => whnf
        exact fun ρ => box_yes _ ((box_end hperm hs).trans (if_neg h9)) _ _ _ _ ρ
    ·conv => whnf
     refine ⟨?_, trivial⟩
     ·conv => whnf
      refine ⟨?_, trivial⟩
      ·conv => whnf
       refine ⟨?_, trivial⟩
       ·conv => whnf
        conv => whnf
        exact fun ρ => box_yes _ ((box_end hperm hs).trans (if_neg h9)) _ _ _ _ ρ
   ·conv => whnf
    refine ⟨?_, trivial⟩
    ·conv => whnf
     refine ⟨?_, trivial⟩
     ·conv => whnf
      refine ⟨?_, trivial⟩
      ·conv => whnf
       refine ⟨?_, trivial⟩
       ·conv => whnf
        conv => whnf
        exact fun ρ => box_yes _ ((box_end hperm hs).trans (if_neg h9)) _ _ _ _ ρ
noncomputable def dBox : Dn
 | [.agg [.int rx hrx, .int ry hry, .int rz hrz, .int rw hrw, .int d0 hd0, .int d1 hd1, .int d2 hd2], .agg [.int x1 hx1, .int y1 hy1, .int z1 hz1], .agg [.int x2 hx2, .int y2 hy2, .int z2 hz2]] => some (none, (boxV (⟨rx, ry, rz, rw, ⟨d0, d1, d2⟩⟩ : RZ) ⟨x1, y1, z1⟩ ⟨x2, y2, z2⟩ (box_bits hrx hry hrz hrw hd0 hd1 hd2 hx1 hy1 hz1 hx2 hy2 hz2)))
 | _ => none
theorem spBoxY : SpOk Tryz.prog 17 dBox := ⟨⟨_, Tryz.func17, by kernel_rfl, by kernel_rfl⟩, fun args p v hd => by
 unfold dBox at hd
 split at hd
 ·rename_i rx hrx ry hry rz hrz rw hrw d0 hd0 d1 hd1 d2 hd2 x1 hx1 y1 hy1 z1 hz1 x2 hx2 y2 hy2 z2 hz2
  cases hd
  exact ⟨fun _ _=>rfl,fun _ ρ w => pure_okH (envN_ok baseC_ok .nil 0 fun i => i == 25) mixed (mix_ok .nil (envN_ok baseC_ok .nil 0 fun i => i == 25) mixed noF_ok 0) ⟨Tryz.func17, by kernel_rfl, by kernel_rfl⟩ (fun _ _=>rfl) (fun _ _=>rfl) (vcBox hrx hry hrz hrw hd0 hd1 hd2 hx1 hy1 hz1 hx2 hy2 hz2) ρ w⟩
 ·cases hd⟩
end Go.Proofs.YtefgchmbdijjdaaGreatDoor
