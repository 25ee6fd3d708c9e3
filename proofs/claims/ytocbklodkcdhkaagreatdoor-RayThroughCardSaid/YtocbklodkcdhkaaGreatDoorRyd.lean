/- Plain laws of rays: corners in another order, multiples. Plain laws of rays: triangles divided at a point. Plain laws: the part of a ray in a box. Plain law of RayHits: a crossing lies in each box that holds the triangle. Plain laws of RayThrough: a ray and the opposite one together cross what their line passes. Plain laws of RayThrough and RayInside: sums over the surface of a set of cubes, by pairs of sides. Plain laws of RayThrough: a line passes an even number of triangles of a set of cubes, also if its corners are moved. -/
import Derived.Test.YtocbklodkcdhkaaGreatDoorRyb
import Derived.Test.YtocbklodkcdhkaaGreatDoorRyc
import Derived.Test.YtocbklodkcdhkaaGreatDoorTrd
namespace Go.Proofs.YtocbklodkcdhkaaGreatDoor
open Go.RowKit
set_option maxRecDepth 100000

theorem V3.ext' {a b : V3} (h1 : a.x = b.x) (h2 : a.y = b.y) (h3 : a.z = b.z) : a = b := by cases a; cases b; simp_all
theorem sgL_c (x : Int) (l : List Int) : sgL (x :: l) = if x.sign = 0 then sgL l else x.sign := rfl
theorem sgL_neg : ∀ l : List Int, sgL (l.map fun x => -x) = -sgL l
 | [] => rfl
 | x :: l => by
  rw [List.map_cons, sgL_c, sgL_c, Int.sign_neg, sgL_neg l]
  by_cases h : x.sign = 0
  ·rw [if_pos h, if_pos (by omega)]
  ·rw [if_neg h, if_neg (by omega)]
theorem sgV_neg {n m : Int} {v u : V3} (h0 : m = -n) (h1 : u.x = -v.x) (h2 : u.y = -v.y) (h3 : u.z = -v.z) : sgV m u = -sgV n v := by
 have := sgL_neg [n, v.x, v.y, v.z]
 unfold sgV
 rw [h0, h1, h2, h3]
 exact this
theorem side_rev (d a b : V3) : sideZ d b a = -sideZ d a b := by
 unfold sideZ
 apply sgV_neg <;> simp only [V3.dot, V3.cross, V3.sub] <;> grind
theorem pass_iff (d a b c : V3) : passZ d a b c = true ↔ sideZ d a b ≠ 0 ∧ sideZ d b c = sideZ d a b ∧ sideZ d c a = sideZ d a b := by
 unfold passZ; simp only [Bool.and_eq_true, decide_eq_true_eq]
theorem pass_rot (d a b c : V3) : passZ d b c a = passZ d a b c := by
 rw [Bool.eq_iff_iff, pass_iff, pass_iff]
 constructor
 ·rintro ⟨h1, h2, h3⟩; exact ⟨fun e => h1 (by omega), by omega, by omega⟩
 ·rintro ⟨h1, h2, h3⟩; exact ⟨fun e => h1 (by omega), by omega, by omega⟩
theorem pass_rev (d a b c : V3) : passZ d b a c = passZ d a b c := by
 rw [Bool.eq_iff_iff, pass_iff, pass_iff, side_rev d a b, side_rev d c a, side_rev d b c]
 constructor
 ·rintro ⟨h1, h2, h3⟩; exact ⟨fun e => h1 (by omega), by omega, by omega⟩
 ·rintro ⟨h1, h2, h3⟩; exact ⟨fun e => h1 (by omega), by omega, by omega⟩
theorem cross_noperm {r : RZ} (p q s : V3) (h : permZ r = false) : crossB r p q s = false := by unfold crossB; rw [h]; rfl
/-! scaling -/
section
variable {a : Int} (ha : 0 < a)
include ha
end
end Go.Proofs.YtocbklodkcdhkaaGreatDoor

namespace Go.Proofs.YtocbklodkcdhkaaGreatDoor
open Go.RowKit
set_option maxRecDepth 100000

def fM (M n : Int) (v : V3) : Int := ((n * M + v.x) * M + v.y) * M + v.z
theorem sign_big {M a b : Int} (hb : b.natAbs < M.natAbs) (hM : 0 < M) : (a * M + b).sign = if a.sign = 0 then b.sign else a.sign := by
 rcases Int.lt_trichotomy a 0 with h | h | h
 ·have h1 : a * M ≤ -M := by
   have := Int.mul_le_mul_of_nonneg_right (show a ≤ -1 by omega) (show 0 ≤ M by omega)
   omega
  rw [Int.sign_eq_neg_one_of_neg h, Int.sign_eq_neg_one_of_neg (by omega)]; rfl
 ·subst h; simp
 ·have h1 : M ≤ a * M := by
   have := Int.mul_le_mul_of_nonneg_right (show 1 ≤ a by omega) (show 0 ≤ M by omega)
   omega
  rw [Int.sign_eq_one_of_pos h, Int.sign_eq_one_of_pos (by omega)]; rfl
def bigM (M : Int) (v : V3) : Prop := 0 < M ∧ v.x.natAbs < M.natAbs ∧ v.y.natAbs < M.natAbs ∧ v.z.natAbs < M.natAbs
theorem sgV_fM {M n : Int} {v : V3} (h : bigM M v) : sgV n v = (fM M n v).sign := by
 obtain ⟨hM, h1, h2, h3⟩ := h
 unfold sgV fM
 rw [sign_big h3 hM, sign_big h2 hM, sign_big h1 hM, sgL_c, sgL_c, sgL_c, sgL_c]
 by_cases e1 : n.sign = 0
 ·rw [if_pos e1, if_pos e1]
  by_cases e2 : v.x.sign = 0
  ·rw [if_pos e2, if_pos e2]
   by_cases e3 : v.y.sign = 0
   ·rw [if_pos e3, if_pos e3]
    by_cases e4 : v.z.sign = 0
    ·rw [if_pos e4, e4]; rfl
    ·rw [if_neg e4]
   ·rw [if_neg e3, if_neg e3]
  ·rw [if_neg e2, if_neg e2, if_neg e2]
 ·rw [if_neg e1, if_neg e1, if_neg e1, if_neg e1]
def sM (M : Int) (d A B : V3) : Int := fM M (d.dot (A.cross B)) (d.cross (B.sub A))
def sumA (v : V3) : Nat := v.x.natAbs + v.y.natAbs + v.z.natAbs
def bigMs (M : Int) (d : V3) (l : List V3) : Prop := ∀ a ∈ l, ∀ b ∈ l, bigM M (d.cross (b.sub a))
theorem exists_big (d : V3) (l : List V3) : ∃ M, bigMs M d l := by
 have : ∀ l' : List (V3 × V3), ∃ N : Nat, 0 < N ∧ ∀ p ∈ l', sumA (d.cross (p.2.sub p.1)) < N := by
  intro l'
  induction l' with
  | nil => exact ⟨1, by decide, fun _ h => nomatch h⟩
  | cons p l' ih =>
   obtain ⟨N, hN, h⟩ := ih
   refine ⟨N + sumA (d.cross (p.2.sub p.1)) + 1, by omega, fun q hq => ?_⟩
   rcases List.mem_cons.1 hq with rfl | hq
   ·omega
   ·have := h q hq; omega
 obtain ⟨N, hN, h⟩ := this (l.flatMap fun a => l.map fun b => (a, b))
 refine ⟨(N : Int), fun a ha b hb => ?_⟩
 have := h (a, b) (List.mem_flatMap.2 ⟨a, ha, List.mem_map.2 ⟨b, hb, rfl⟩⟩)
 unfold sumA at this
 simp only at this
 refine ⟨by omega, ?_, ?_, ?_⟩ <;> omega
theorem side_sM {M : Int} {d : V3} {l : List V3} (h : bigMs M d l) {A B : V3} (ha : A ∈ l) (hb : B ∈ l) : sideZ d A B = (sM M d A B).sign := sgV_fM (h A ha B hb)
theorem sM_zero {M : Int} {d : V3} {l : List V3} (h : bigMs M d l) {A B : V3} (ha : A ∈ l) (hb : B ∈ l) (h0 : sM M d A B = 0) : (d.cross (B.sub A)).x = 0 ∧ (d.cross (B.sub A)).y = 0 ∧ (d.cross (B.sub A)).z = 0 := by
 obtain ⟨hM, h1, h2, h3⟩ := h A ha B hb
 unfold sM fM at h0
 have e3 := sign_big (a := (d.dot (A.cross B) * M + (d.cross (B.sub A)).x) * M + (d.cross (B.sub A)).y) h3 hM
 have e2 := sign_big (a := d.dot (A.cross B) * M + (d.cross (B.sub A)).x) h2 hM
 have e1 := sign_big (a := d.dot (A.cross B)) h1 hM
 generalize (d.cross (B.sub A)).x = vx at *
 generalize (d.cross (B.sub A)).y = vy at *
 generalize (d.cross (B.sub A)).z = vz at *
 generalize d.dot (A.cross B) = n at *
 rw [h0] at e3
 have k0 : (0 : Int).sign = 0 := rfl
 rw [k0] at e3
 have f1 : ((n * M + vx) * M + vy).sign = 0 := by
  by_cases h : ((n * M + vx) * M + vy).sign = 0
  ·exact h
  ·rw [if_neg h] at e3; exact e3.symm
 rw [if_pos f1] at e3
 have f2 : (n * M + vx).sign = 0 := by
  by_cases h : (n * M + vx).sign = 0
  ·exact h
  ·rw [if_neg h, f1] at e2; exact e2.symm
 rw [if_pos f2, f1] at e2
 have f3 : n.sign = 0 := by
  by_cases h : n.sign = 0
  ·exact h
  ·rw [if_neg h, f2] at e1; exact e1.symm
 rw [if_pos f3, f2] at e1
 exact ⟨Int.sign_eq_zero_iff_zero.1 e1.symm, Int.sign_eq_zero_iff_zero.1 e2.symm, Int.sign_eq_zero_iff_zero.1 e3.symm⟩
theorem pass_M {M : Int} {d : V3} {l : List V3} (h : bigMs M d l) {A B C : V3} (ha : A ∈ l) (hb : B ∈ l) (hc : C ∈ l) : passZ d A B C = true ↔ (0 < sM M d A B ∧ 0 < sM M d B C ∧ 0 < sM M d C A) ∨ (sM M d A B < 0 ∧ sM M d B C < 0 ∧ sM M d C A < 0) := by
 rw [pass_iff, side_sM h ha hb, side_sM h hb hc, side_sM h hc ha]
 generalize sM M d A B = x
 generalize sM M d B C = y
 generalize sM M d C A = z
 have sg : ∀ x : Int, (x < 0 ∧ x.sign = -1) ∨ (x = 0 ∧ x.sign = 0) ∨ (0 < x ∧ x.sign = 1) := fun x => by
  rcases Int.lt_trichotomy x 0 with h | h | h
  ·exact .inl ⟨h, Int.sign_eq_neg_one_of_neg h⟩
  ·subst h; exact .inr (.inl ⟨rfl, rfl⟩)
  ·exact .inr (.inr ⟨h, Int.sign_eq_one_of_pos h⟩)
 have h1 := sg x; have h2 := sg y; have h3 := sg z
 generalize x.sign = sx at *
 generalize y.sign = sy at *
 generalize z.sign = sz at *
 omega
structure Mid (K a b c : Int) (o p q s : V3) : Prop where
 ha : 0 ≤ a
 hb : 0 ≤ b
 hc : 0 ≤ c
 hK : K = a + b + c
 hp : 0 < K
 x : K * o.x = a * p.x + b * q.x + c * s.x
 y : K * o.y = a * p.y + b * q.y + c * s.y
 z : K * o.z = a * p.z + b * q.z + c * s.z
section
variable {r : RZ} {p q s p' q' s' : V3} {K g : Int} (hK : 0 < K) (hx : K * (normZ p' q' s').x = g * (normZ p q s).x) (hy : K * (normZ p' q' s').y = g * (normZ p q s).y) (hz : K * (normZ p' q' s').z = g * (normZ p q s).z)
 (hh : K * highZ r p' q' s' = g * highZ r p q s)
include hx hy hz
include hK
include hh
end
section
variable {K a b c : Int} {o p q s : V3} (h : Mid K a b c o p q s)
include h
end
theorem sM_anti (M : Int) (d A B : V3) : sM M d B A = -sM M d A B := by
 simp only [sM, fM, V3.dot, V3.cross, V3.sub]; grind
def bN (b : Bool) : Nat := if b = true then 1 else 0
section
variable {K a b c : Int} {o p q s : V3} (h : Mid K a b c o p q s) (r : RZ)
include h
end
end Go.Proofs.YtocbklodkcdhkaaGreatDoor

namespace Go.Proofs.YtocbklodkcdhkaaGreatDoor
open Go.RowKit
set_option maxRecDepth 100000

def bst (w d a b : Int) (s : Rat × Option Rat) : Option (Rat × Option Rat) :=
 if b < a then none else
 if d = 0 then (if 0 < a ∨ b < 0 then none else some s) else
 some (if s.1 < (if d < 0 then (b : Rat) / ((w * d : Int) : Rat) else (a : Rat) / ((w * d : Int) : Rat)) then (if d < 0 then (b : Rat) / ((w * d : Int) : Rat) else (a : Rat) / ((w * d : Int) : Rat)) else s.1,
  match s.2 with
  | none => some (if d < 0 then (a : Rat) / ((w * d : Int) : Rat) else (b : Rat) / ((w * d : Int) : Rat))
  | some u => if (if d < 0 then (a : Rat) / ((w * d : Int) : Rat) else (b : Rat) / ((w * d : Int) : Rat)) < u then some (if d < 0 then (a : Rat) / ((w * d : Int) : Rat) else (b : Rat) / ((w * d : Int) : Rat)) else some u)
structure Good (P : Rat → Prop) (s : Rat × Option Rat) (C : List Rat) : Prop where
 pos : 0 ≤ s.1
 mem : s.1 ∈ C
 mem2 : ∀ u, s.2 = some u → u ∈ C
 char : ∀ t, 0 ≤ t → (P t ↔ s.1 ≤ t ∧ ∀ u, s.2 = some u → t ≤ u)
def boxS (r : RZ) (lo hi : V3) : Option (Rat × Option Rat) :=
 (bst r.w r.d.x (r.at lo).x (r.at hi).x (0, none)).bind fun s => (bst r.w r.d.y (r.at lo).y (r.at hi).y s).bind fun s => bst r.w r.d.z (r.at lo).z (r.at hi).z s
def boxE : Option (Rat × Option Rat) → Option (Rat × Rat)
 | some (i, some o) => if o < i then none else some (i, o)
 | _ => none
def boxR (r : RZ) (lo hi : V3) : Option (Rat × Rat) := if permZ r = true then boxE (boxS r lo hi) else none
noncomputable def bB (r : RZ) (lo hi : V3) : Bool := opq (boxR r lo hi).isSome
structure BoxB (r : RZ) (lo hi : V3) : Prop where
 ax : Sm 300 (r.at lo).x
 ay : Sm 300 (r.at lo).y
 az : Sm 300 (r.at lo).z
 bx : Sm 300 (r.at hi).x
 by_ : Sm 300 (r.at hi).y
 bz : Sm 300 (r.at hi).z
 cx : Sm 300 (r.w * r.d.x)
 cy : Sm 300 (r.w * r.d.y)
 cz : Sm 300 (r.w * r.d.z)
end Go.Proofs.YtocbklodkcdhkaaGreatDoor

namespace Go.Proofs.YtocbklodkcdhkaaGreatDoor
open Go.RowKit
set_option maxRecDepth 100000

theorem sgL_three : ∀ l : List Int, sgL l = 0 ∨ sgL l = 1 ∨ sgL l = -1
 | [] => .inl rfl
 | x :: l => by
  rw [sgL_c]
  split
  ·exact sgL_three l
  ·rcases Int.lt_trichotomy x 0 with h | h | h
   ·exact .inr (.inr (Int.sign_eq_neg_one_of_neg h))
   ·subst h; exact .inl rfl
   ·exact .inr (.inl (Int.sign_eq_one_of_pos h))
def wtZ (d A B : V3) : Int := d.dot (A.cross B)
theorem wt_sum (r : RZ) (p q s : V3) : wtZ r.d (r.at q) (r.at s) + wtZ r.d (r.at s) (r.at p) + wtZ r.d (r.at p) (r.at q) = r.w * r.w * slopeZ r p q s := by
 unfold wtZ slopeZ normZ RZ.at V3.dot V3.cross V3.sub; grind
structure InB (lo hi p : V3) : Prop where
 x1 : lo.x ≤ p.x
 x2 : p.x ≤ hi.x
 y1 : lo.y ≤ p.y
 y2 : p.y ≤ hi.y
 z1 : lo.z ≤ p.z
 z2 : p.z ≤ hi.z
end Go.Proofs.YtocbklodkcdhkaaGreatDoor

namespace Go.Proofs.YtocbklodkcdhkaaGreatDoor
open Go.RowKit
set_option maxRecDepth 100000

def backR (r : RZ) : RZ := ⟨r.x, r.y, r.z, r.w, ⟨-r.d.x, -r.d.y, -r.d.z⟩⟩
theorem sM_sum (M : Int) (d A B C : V3) : sM M d A B + sM M d B C + sM M d C A = (wtZ d A B + wtZ d B C + wtZ d C A) * M * M * M := by
 unfold sM fM wtZ V3.dot V3.cross V3.sub; grind
theorem pass_slope {r : RZ} {p q s : V3} (h : passZ r.d (r.at p) (r.at q) (r.at s) = true) : slopeZ r p q s ≠ 0 := by
 obtain ⟨M, hM⟩ := exists_big r.d [r.at p, r.at q, r.at s]
 have h := (pass_M hM (by simp) (by simp) (by simp)).1 h
 have hs := sM_sum M r.d (r.at p) (r.at q) (r.at s)
 have hw2 := wt_sum r p q s
 intro e
 rw [e] at hw2
 have e2 : wtZ r.d (r.at p) (r.at q) + wtZ r.d (r.at q) (r.at s) + wtZ r.d (r.at s) (r.at p) = 0 := by
  rw [Int.mul_zero] at hw2; omega
 rw [e2] at hs
 simp only [Int.zero_mul] at hs
 omega
theorem side_back (d a b : V3) : sideZ ⟨-d.x, -d.y, -d.z⟩ a b = -sideZ d a b := by
 unfold sideZ
 apply sgV_neg <;> simp only [V3.dot, V3.cross, V3.sub] <;> grind
theorem pass_back (r : RZ) (p q s : V3) : passZ (backR r).d ((backR r).at p) ((backR r).at q) ((backR r).at s) = passZ r.d (r.at p) (r.at q) (r.at s) := by
 show passZ ⟨-r.d.x, -r.d.y, -r.d.z⟩ (r.at p) (r.at q) (r.at s) = _
 rw [Bool.eq_iff_iff, pass_iff, pass_iff, side_back, side_back, side_back]
 constructor
 ·rintro ⟨h1, h2, h3⟩; exact ⟨fun e => h1 (by omega), by omega, by omega⟩
 ·rintro ⟨h1, h2, h3⟩; exact ⟨fun e => h1 (by omega), by omega, by omega⟩
theorem slope_back (r : RZ) (p q s : V3) : slopeZ (backR r) p q s = -slopeZ r p q s := by
 unfold slopeZ backR V3.dot; grind
theorem perm_back (r : RZ) : permZ (backR r) = permZ r := by
 unfold permZ backR V3.isZ
 simp only [Int.neg_eq_zero]
theorem back_crosses {r : RZ} (h : permZ r = true) (p q s : V3) : (if crossB r p q s = true then 1 else 0) + (if crossB (backR r) p q s = true then 1 else 0) = (if passZ r.d (r.at p) (r.at q) (r.at s) = true then 1 else 0 : Nat) := by
 by_cases hp : passZ r.d (r.at p) (r.at q) (r.at s) = true
 ·have hs := pass_slope hp
  have hz : (normZ p q s).isZ = false := by
   cases e : (normZ p q s).isZ with
   | false => rfl
   | true =>
    exfalso; apply hs
    unfold V3.isZ at e
    rw [Bool.and_eq_true, Bool.and_eq_true, decide_eq_true_eq, decide_eq_true_eq, decide_eq_true_eq] at e
    unfold slopeZ V3.dot
    rw [e.1, e.2.1, e.2.2]; simp
  have hg : sgV (highZ r p q s) (normZ p q s).neg ≠ 0 := by
   intro h3
   have h4 := sgL_zero (l := [_, _, _, _]) h3
   have hx := h4 _ (List.mem_cons_of_mem _ List.mem_cons_self)
   have hy := h4 _ (List.mem_cons_of_mem _ (List.mem_cons_of_mem _ List.mem_cons_self))
   have hzz := h4 _ (List.mem_cons_of_mem _ (List.mem_cons_of_mem _ (List.mem_cons_of_mem _ List.mem_cons_self)))
   simp only [V3.neg] at hx hy hzz
   unfold V3.isZ at hz
   rw [decide_eq_true (by omega : (normZ p q s).x = 0), decide_eq_true (by omega : (normZ p q s).y = 0), decide_eq_true (by omega : (normZ p q s).z = 0)] at hz
   cases hz
  have hg3 := sgL_three [highZ r p q s, (normZ p q s).neg.x, (normZ p q s).neg.y, (normZ p q s).neg.z]
  have hg3 : sgV (highZ r p q s) (normZ p q s).neg = 0 ∨ sgV (highZ r p q s) (normZ p q s).neg = 1 ∨ sgV (highZ r p q s) (normZ p q s).neg = -1 := hg3
  have e1 : crossB r p q s = decide (sgV (highZ r p q s) (normZ p q s).neg = (slopeZ r p q s).sign) := by
   unfold crossB; rw [h, hz, hp]; simp
  have e2 : crossB (backR r) p q s = decide (sgV (highZ r p q s) (normZ p q s).neg = -(slopeZ r p q s).sign) := by
   unfold crossB; rw [perm_back, h, hz, pass_back, hp, slope_back, Int.sign_neg]
   simp only [Bool.true_and, Bool.not_false]
   rfl
  rw [e1, e2, hp]
  have sg : (slopeZ r p q s).sign = 1 ∨ (slopeZ r p q s).sign = -1 := by
   rcases Int.lt_trichotomy (slopeZ r p q s) 0 with h1 | h1 | h1
   ·exact .inr (Int.sign_eq_neg_one_of_neg h1)
   ·exact absurd h1 hs
   ·exact .inl (Int.sign_eq_one_of_pos h1)
  generalize (slopeZ r p q s).sign = a at sg
  generalize sgV (highZ r p q s) (normZ p q s).neg = b at hg hg3
  simp only [decide_eq_true_eq]
  rcases sg with rfl | rfl <;> rcases hg3 with rfl | rfl | rfl <;> simp_all
 ·have e : passZ r.d (r.at p) (r.at q) (r.at s) = false := by simpa using hp
  have e1 : crossB r p q s = false := by unfold crossB; rw [e]; simp
  have e2 : crossB (backR r) p q s = false := by unfold crossB; rw [pass_back, e]; simp
  rw [e1, e2, e]; rfl
end Go.Proofs.YtocbklodkcdhkaaGreatDoor

namespace Go.Proofs.YtocbklodkcdhkaaGreatDoor
open Go.RowKit
set_option maxRecDepth 100000

def gP (x y z : Nat) : V3 := ⟨2 * (x : Int), 2 * (y : Int), 2 * (z : Int)⟩
def v3B (a b : V3) : Bool := decide (a.x = b.x) && (decide (a.y = b.y) && decide (a.z = b.z))
theorem v3B_eq {a b : V3} (h : v3B a b = true) : a = b := by
 unfold v3B at h
 rw [Bool.and_eq_true, Bool.and_eq_true, decide_eq_true_eq, decide_eq_true_eq, decide_eq_true_eq] at h
 exact V3.ext' h.1 h.2.1 h.2.2
theorem crn_all : (List.range 27).all (fun k => (List.range 8).all fun n => v3B (crn (voxP pt0 2 k) 2 n).v (gP (k % 3 + n % 2) (k / 3 % 3 + n / 2 % 2) (k / 9 + n / 4))) = true := by decide +kernel
theorem crn_v {k n : Nat} (hk : k < 27) (hn : n < 8) : (crn (voxP pt0 2 k) 2 n).v = gP (k % 3 + n % 2) (k / 3 % 3 + n / 2 % 2) (k / 9 + n / 4) := by
 have h := List.all_eq_true.1 crn_all k (List.mem_range.2 hk)
 have h := List.all_eq_true.1 h n (List.mem_range.2 hn)
 exact v3B_eq h
def nbr (k f : Nat) : Option Nat := match f with
 | 0 => if k < 9 then none else some (k - 9)
 | 1 => if k < 18 then some (k + 9) else none
 | 2 => if k / 3 % 3 = 0 then none else some (k - 3)
 | 3 => if k / 3 % 3 = 2 then none else some (k + 3)
 | 4 => if k % 3 = 0 then none else some (k - 1)
 | _ => if k % 3 = 2 then none else some (k + 1)
def nbOk (k f : Nat) : Bool := match nbr k f with
 | none => !insB (nbU (vxX k) f) (nbV (vxY k) f) (nbW (vxZ k) f)
 | some j => insB (nbU (vxX k) f) (nbV (vxY k) f) (nbW (vxZ k) f) && decide (ixF (nbU (vxX k) f) (nbV (vxY k) f) (nbW (vxZ k) f) = (j : Int))
theorem nb_all : (List.range 27).all (fun k => (List.range 6).all fun f => nbOk k f) = true := by decide +kernel
def bs (b : Int) (k : Nat) : Bool := !bit0 b k
theorem face_nb (b : Int) {k f : Nat} (hk : k < 27) (hf : f < 6) : faceB b (vxX k) (vxY k) (vxZ k) f = match nbr k f with | none => true | some j => !bs b j := by
 have h := List.all_eq_true.1 (List.all_eq_true.1 nb_all k (List.mem_range.2 hk)) f (List.mem_range.2 hf)
 unfold nbOk at h
 unfold faceB
 cases e : nbr k f with
 | none => rw [e] at h; simp only at h ⊢; rw [h]; rfl
 | some j =>
  rw [e] at h
  simp only at h ⊢
  rw [Bool.and_eq_true, decide_eq_true_eq] at h
  rw [h.1, h.2]; unfold bs; simp
section
variable (N : V3 → V3 → V3 → Nat)
def nT (t : TR) : Nat := N t.a.v t.b.v t.c.v
def sumN : List TR → Nat
 | [] => 0
 | t :: l => nT N t + sumN l
theorem sumN_app : ∀ l m : List TR, sumN N (l ++ m) = sumN N l + sumN N m
 | [], m => (Nat.zero_add _).symm
 | t :: l, m => by show nT N t + sumN N (l ++ m) = nT N t + sumN N l + sumN N m; rw [sumN_app l m]; omega
def nQ (a b c d : V3) : Nat := N a b c + N a c d
def nFc (f x y z : Nat) : Nat := match f with
 | 0 => nQ N (gP x y z) (gP x (y + 1) z) (gP (x + 1) (y + 1) z) (gP (x + 1) y z)
 | 1 => nQ N (gP x y (z + 1)) (gP x (y + 1) (z + 1)) (gP (x + 1) (y + 1) (z + 1)) (gP (x + 1) y (z + 1))
 | 2 => nQ N (gP x y z) (gP (x + 1) y z) (gP (x + 1) y (z + 1)) (gP x y (z + 1))
 | 3 => nQ N (gP x (y + 1) z) (gP (x + 1) (y + 1) z) (gP (x + 1) (y + 1) (z + 1)) (gP x (y + 1) (z + 1))
 | 4 => nQ N (gP x y z) (gP x y (z + 1)) (gP x (y + 1) (z + 1)) (gP x (y + 1) z)
 | _ => nQ N (gP (x + 1) y z) (gP (x + 1) y (z + 1)) (gP (x + 1) (y + 1) (z + 1)) (gP (x + 1) (y + 1) z)
def nKc (k f : Nat) : Nat := nFc N f (k % 3) (k / 3 % 3) (k / 9)
def exB (b : Int) (k f : Nat) : Bool := match nbr k f with
 | none => true
 | some j => !bs b j
def sumK (h : Nat → Nat) : Nat → Nat
 | 0 => 0
 | k + 1 => sumK h k + h k
variable (hrot : ∀ a b c, N b c a = N a b c) (hrev : ∀ a b c, N b a c = N a b c)
include hrot hrev
theorem nQ_rev (a b c d : V3) : nQ N a d c b = nQ N a b c d := by
 have h : ∀ a b c, N a c b = N a b c := fun a b c => (hrot b a c).trans (hrev a b c)
 unfold nQ
 rw [h a c d, h a b c, Nat.add_comm]
theorem sum_faces (b : Int) {k : Nat} (hk : k < 27) : sumN N (facesL b (cubeL (voxP pt0 2 k) 2) (vxX k) (vxY k) (vxZ k) 6) = sumK (fun f => if exB b k f = true then nKc N k f else 0) 6 := by
 have c := fun n hn => crn_v (k := k) (n := n) hk hn
 have q := nQ_rev N hrot hrev
 have step : ∀ f, f < 6 → ∀ C, nT N (triD C (2 * f)) + nT N (triD C (2 * f + 1)) = nKc N k f → sumN N (if faceB b (vxX k) (vxY k) (vxZ k) f = true then [triD C (2 * f), triD C (2 * f + 1)] else []) = if exB b k f = true then nKc N k f else 0 := fun f hf C e => by
  rw [face_nb b hk hf]
  show sumN N (if exB b k f = true then _ else _) = _
  by_cases h : exB b k f = true
  ·rw [if_pos h, if_pos h, ← e]; rfl
  ·rw [if_neg h, if_neg h]; rfl
 unfold facesL facesL facesL facesL facesL facesL facesL
 simp only [sumN_app, sumK]
 rw [step 0 (by decide), step 1 (by decide), step 2 (by decide), step 3 (by decide), step 4 (by decide), step 5 (by decide)]
 ·rfl
 ·show nQ N (crn (voxP pt0 2 k) 2 1).v (crn (voxP pt0 2 k) 2 3).v (crn (voxP pt0 2 k) 2 7).v (crn (voxP pt0 2 k) 2 5).v = _
  rw [c 1 (by decide), c 3 (by decide), c 7 (by decide), c 5 (by decide), q]; rfl
 ·show nQ N (crn (voxP pt0 2 k) 2 0).v (crn (voxP pt0 2 k) 2 4).v (crn (voxP pt0 2 k) 2 6).v (crn (voxP pt0 2 k) 2 2).v = _
  rw [c 0 (by decide), c 4 (by decide), c 6 (by decide), c 2 (by decide)]; rfl
 ·show nQ N (crn (voxP pt0 2 k) 2 2).v (crn (voxP pt0 2 k) 2 6).v (crn (voxP pt0 2 k) 2 7).v (crn (voxP pt0 2 k) 2 3).v = _
  rw [c 2 (by decide), c 6 (by decide), c 7 (by decide), c 3 (by decide), q]; rfl
 ·show nQ N (crn (voxP pt0 2 k) 2 0).v (crn (voxP pt0 2 k) 2 1).v (crn (voxP pt0 2 k) 2 5).v (crn (voxP pt0 2 k) 2 4).v = _
  rw [c 0 (by decide), c 1 (by decide), c 5 (by decide), c 4 (by decide)]; rfl
 ·show nQ N (crn (voxP pt0 2 k) 2 4).v (crn (voxP pt0 2 k) 2 5).v (crn (voxP pt0 2 k) 2 7).v (crn (voxP pt0 2 k) 2 6).v = _
  rw [c 4 (by decide), c 5 (by decide), c 7 (by decide), c 6 (by decide), q]; rfl
 ·show nQ N (crn (voxP pt0 2 k) 2 0).v (crn (voxP pt0 2 k) 2 2).v (crn (voxP pt0 2 k) 2 3).v (crn (voxP pt0 2 k) 2 1).v = _
  rw [c 0 (by decide), c 2 (by decide), c 3 (by decide), c 1 (by decide)]; rfl
theorem sum_vox (b : Int) : ∀ n, n ≤ 27 → sumN N (voxL b 2 pt0 n) = sumK (fun k => if bs b k = true then sumK (fun f => if exB b k f = true then nKc N k f else 0) 6 else 0) n
 | 0, _ => rfl
 | n + 1, hn => by
  unfold voxL
  rw [sumN_app, sum_vox b n (by omega)]
  show _ = sumK _ n + (if bs b n = true then sumK (fun f => if exB b n f = true then nKc N n f else 0) 6 else 0)
  congr 1
  have hf := sum_faces N hrot hrev b (show n < 27 by omega)
  unfold bs
  cases bit0 b n with
  | true => rfl
  | false => exact hf
end
theorem line3 (p q s : Bool) (w0 w1 w2 w3 : Nat) : ((if p = true then w0 + (if (!q) = true then w1 else 0) else 0) + (if q = true then (if (!p) = true then w1 else 0) + (if (!s) = true then w2 else 0) else 0) + (if s = true then (if (!q) = true then w2 else 0) + w3 else 0)) % 2 =
  ((if p = true then w0 + w1 else 0) + (if q = true then w1 + w2 else 0) + (if s = true then w2 + w3 else 0)) % 2 := by
 cases p <;> cases q <;> cases s <;> simp <;> omega
def dirE (N : V3 → V3 → V3 → Nat) (b : Int) (f : Nat) (k : Nat) : Nat := if bs b k = true then (if exB b k f = true then nKc N k f else 0) + (if exB b k (f + 1) = true then nKc N k (f + 1) else 0) else 0
def dirA (N : V3 → V3 → V3 → Nat) (b : Int) (f : Nat) (k : Nat) : Nat := if bs b k = true then nKc N k f + nKc N k (f + 1) else 0
theorem line_x (N : V3 → V3 → V3 → Nat) (b : Int) : ∀ j, j < 9 → (dirE N b 4 (3 * j) + dirE N b 4 (3 * j + 1) + dirE N b 4 (3 * j + 2)) % 2 = (dirA N b 4 (3 * j) + dirA N b 4 (3 * j + 1) + dirA N b 4 (3 * j + 2)) % 2 := by
 intro j hj
 have h : j = 0 ∨ j = 1 ∨ j = 2 ∨ j = 3 ∨ j = 4 ∨ j = 5 ∨ j = 6 ∨ j = 7 ∨ j = 8 := by omega
 rcases h with rfl | rfl | rfl | rfl | rfl | rfl | rfl | rfl | rfl <;> exact line3 _ _ _ _ _ _ _
theorem line_y (N : V3 → V3 → V3 → Nat) (b : Int) : ∀ j i, j < 3 → i < 3 → (dirE N b 2 (9 * j + i) + dirE N b 2 (9 * j + i + 3) + dirE N b 2 (9 * j + i + 6)) % 2 = (dirA N b 2 (9 * j + i) + dirA N b 2 (9 * j + i + 3) + dirA N b 2 (9 * j + i + 6)) % 2 := by
 intro j i hj hi
 have h : j = 0 ∨ j = 1 ∨ j = 2 := by omega
 have h' : i = 0 ∨ i = 1 ∨ i = 2 := by omega
 rcases h with rfl | rfl | rfl <;> rcases h' with rfl | rfl | rfl <;> exact line3 _ _ _ _ _ _ _
theorem line_z (N : V3 → V3 → V3 → Nat) (b : Int) : ∀ j, j < 9 → (dirE N b 0 j + dirE N b 0 (j + 9) + dirE N b 0 (j + 18)) % 2 = (dirA N b 0 j + dirA N b 0 (j + 9) + dirA N b 0 (j + 18)) % 2 := by
 intro j hj
 have h : j = 0 ∨ j = 1 ∨ j = 2 ∨ j = 3 ∨ j = 4 ∨ j = 5 ∨ j = 6 ∨ j = 7 ∨ j = 8 := by omega
 rcases h with rfl | rfl | rfl | rfl | rfl | rfl | rfl | rfl | rfl <;> exact line3 _ _ _ _ _ _ _
theorem sumK_add (f g : Nat → Nat) : ∀ n, sumK (fun k => f k + g k) n = sumK f n + sumK g n
 | 0 => rfl
 | n + 1 => by unfold sumK; rw [sumK_add f g n]; omega
theorem sumK_congr {f g : Nat → Nat} : ∀ n, (∀ k, k < n → f k = g k) → sumK f n = sumK g n
 | 0, _ => rfl
 | n + 1, h => by unfold sumK; rw [sumK_congr n fun k hk => h k (by omega), h n (by omega)]
theorem sumK_mod {f g : Nat → Nat} : ∀ n, (∀ k, k < n → f k % 2 = g k % 2) → sumK f n % 2 = sumK g n % 2
 | 0, _ => rfl
 | n + 1, h => by unfold sumK; have := sumK_mod n fun k hk => h k (by omega); have := h n (by omega); omega
theorem dir_x (N : V3 → V3 → V3 → Nat) (b : Int) : sumK (dirE N b 4) 27 % 2 = sumK (dirA N b 4) 27 % 2 := by
 have h := line_x N b
 have h0 := h 0 (by decide); have h1 := h 1 (by decide); have h2 := h 2 (by decide); have h3 := h 3 (by decide); have h4 := h 4 (by decide)
 have h5 := h 5 (by decide); have h6 := h 6 (by decide); have h7 := h 7 (by decide); have h8 := h 8 (by decide)
 clear h
 simp only [sumK, Nat.reduceMul, Nat.reduceAdd, Nat.zero_add] at *
 omega
theorem dir_y (N : V3 → V3 → V3 → Nat) (b : Int) : sumK (dirE N b 2) 27 % 2 = sumK (dirA N b 2) 27 % 2 := by
 have h := line_y N b
 have h0 := h 0 0 (by decide) (by decide); have h1 := h 0 1 (by decide) (by decide); have h2 := h 0 2 (by decide) (by decide); have h3 := h 1 0 (by decide) (by decide); have h4 := h 1 1 (by decide) (by decide)
 have h5 := h 1 2 (by decide) (by decide); have h6 := h 2 0 (by decide) (by decide); have h7 := h 2 1 (by decide) (by decide); have h8 := h 2 2 (by decide) (by decide)
 clear h
 simp only [sumK, Nat.reduceMul, Nat.reduceAdd, Nat.zero_add] at *
 omega
theorem dir_z (N : V3 → V3 → V3 → Nat) (b : Int) : sumK (dirE N b 0) 27 % 2 = sumK (dirA N b 0) 27 % 2 := by
 have h := line_z N b
 have h0 := h 0 (by decide); have h1 := h 1 (by decide); have h2 := h 2 (by decide); have h3 := h 3 (by decide); have h4 := h 4 (by decide)
 have h5 := h 5 (by decide); have h6 := h 6 (by decide); have h7 := h 7 (by decide); have h8 := h 8 (by decide)
 clear h
 simp only [sumK, Nat.reduceAdd, Nat.zero_add] at *
 omega
theorem vox_par (N : V3 → V3 → V3 → Nat) (hrot : ∀ a b c, N b c a = N a b c) (hrev : ∀ a b c, N b a c = N a b c) (b : Int) :
  sumN N (voxL b 2 pt0 27) % 2 = sumK (fun k => if bs b k = true then sumK (nKc N k) 6 else 0) 27 % 2 := by
 have e1 : sumN N (voxL b 2 pt0 27) = sumK (dirE N b 0) 27 + sumK (dirE N b 2) 27 + sumK (dirE N b 4) 27 := by
  rw [sum_vox N hrot hrev b 27 (Nat.le_refl _), ← sumK_add, ← sumK_add]
  refine sumK_congr 27 fun k _ => ?_
  unfold dirE
  by_cases h : bs b k = true
  ·rw [if_pos h, if_pos h, if_pos h, if_pos h]; simp only [sumK, Nat.reduceAdd]; omega
  ·rw [if_neg h, if_neg h, if_neg h, if_neg h]
 have e2 : sumK (fun k => if bs b k = true then sumK (nKc N k) 6 else 0) 27 = sumK (dirA N b 0) 27 + sumK (dirA N b 2) 27 + sumK (dirA N b 4) 27 := by
  rw [← sumK_add, ← sumK_add]
  refine sumK_congr 27 fun k _ => ?_
  unfold dirA
  by_cases h : bs b k = true
  ·rw [if_pos h, if_pos h, if_pos h, if_pos h]; simp only [sumK, Nat.reduceAdd]; omega
  ·rw [if_neg h, if_neg h, if_neg h, if_neg h]
 have hx := dir_x N b
 have hy := dir_y N b
 have hz := dir_z N b
 rw [e1, e2]; omega
end Go.Proofs.YtocbklodkcdhkaaGreatDoor

namespace Go.Proofs.YtocbklodkcdhkaaGreatDoor
open Go.RowKit
set_option maxRecDepth 100000

def yM (M : Int) (d e A : V3) : Int := fM M (d.dot (e.cross A)) (e.cross d)
theorem y_id (M : Int) (d e A B C : V3) : yM M d e A * sM M d B C + yM M d e B * sM M d C A + yM M d e C * sM M d A B = 0 := by
 unfold yM sM fM V3.dot V3.cross V3.sub; grind
def cE (a b s : Int) : Nat := if (a < 0 ∧ 0 < b ∧ 0 < s) ∨ (0 < a ∧ b < 0 ∧ s < 0) then 1 else 0
def s3 (a : Int) : Fin 3 := if a < 0 then 0 else if a = 0 then 1 else 2
theorem s3_n {a : Int} : a < 0 ↔ s3 a = 0 := by
 unfold s3; split
 ·simp [*]
 ·split <;> simp [*]
theorem s3_z {a : Int} : a = 0 ↔ s3 a = 1 := by
 unfold s3; split
 ·constructor
  ·omega
  ·intro h; cases h
 ·split <;> simp [*]
theorem s3_p {a : Int} : 0 < a ↔ s3 a = 2 := by
 unfold s3; split
 ·constructor
  ·omega
  ·intro h; cases h
 ·split
  ·constructor
   ·omega
   ·intro h; cases h
  ·constructor
   ·intro _; rfl
   ·omega
def m3 (a b : Fin 3) : Fin 3 := if a = 1 ∨ b = 1 then 1 else if a = b then 2 else 0
theorem s3_mul (a b : Int) : s3 (a * b) = m3 (s3 a) (s3 b) := by
 rcases Int.lt_trichotomy a 0 with h | h | h
 ·rcases Int.lt_trichotomy b 0 with g | g | g
  ·rw [s3_p.1 (Int.mul_pos_of_neg_of_neg h g), s3_n.1 h, s3_n.1 g]; rfl
  ·rw [s3_z.1 (by rw [g, Int.mul_zero]), s3_n.1 h, s3_z.1 g]; rfl
  ·rw [s3_n.1 (Int.mul_neg_of_neg_of_pos h g), s3_n.1 h, s3_p.1 g]; rfl
 ·rw [s3_z.1 (by rw [h, Int.zero_mul]), s3_z.1 h]; rfl
 ·rcases Int.lt_trichotomy b 0 with g | g | g
  ·rw [s3_n.1 (Int.mul_neg_of_pos_of_neg h g), s3_p.1 h, s3_n.1 g]; rfl
  ·rw [s3_z.1 (by rw [g, Int.mul_zero]), s3_p.1 h, s3_z.1 g]; rfl
  ·rw [s3_p.1 (Int.mul_pos h g), s3_p.1 h, s3_p.1 g]; rfl
def z3 (u v w : Fin 3) : Bool := (u == 1 && v == 1 && w == 1) || ((u == 0 || v == 0 || w == 0) && (u == 2 || v == 2 || w == 2))
theorem z3_of {u v w : Int} (h : u + v + w = 0) : z3 (s3 u) (s3 v) (s3 w) = true := by
 rcases Int.lt_trichotomy u 0 with hu | hu | hu <;> rcases Int.lt_trichotomy v 0 with hv | hv | hv <;> rcases Int.lt_trichotomy w 0 with hw | hw | hw <;>
  first
  | omega
  | (simp only [s3_n] at hu hv hw; rw [hu, hv, hw]; rfl)
  | (simp only [s3_n, s3_z, s3_p] at hu hv hw; rw [hu, hv, hw]; rfl)
def p3 (x y z : Fin 3) : Nat := if (x = 2 ∧ y = 2 ∧ z = 2) ∨ (x = 0 ∧ y = 0 ∧ z = 0) then 1 else 0
def c3 (a b s : Fin 3) : Nat := if (a = 0 ∧ b = 2 ∧ s = 2) ∨ (a = 2 ∧ b = 0 ∧ s = 0) then 1 else 0
theorem par3 : ∀ a b c x y z : Fin 3, a ≠ 1 → b ≠ 1 → c ≠ 1 → (x = 1 → a = b) → (y = 1 → b = c) → (z = 1 → c = a) → z3 (m3 a y) (m3 b z) (m3 c x) = true → p3 x y z % 2 = (c3 a b x + c3 b c y + c3 c a z) % 2 := by decide +kernel
theorem cE_3 (a b s : Int) : cE a b s = c3 (s3 a) (s3 b) (s3 s) := by unfold cE c3; simp only [s3_n, s3_p]
theorem cE_comm (a b s : Int) : cE b a (-s) = cE a b s := by
 unfold cE
 congr 1
 exact propext ⟨fun h => by omega, fun h => by omega⟩
def pN3 (x y z : Int) : Nat := if (0 < x ∧ 0 < y ∧ 0 < z) ∨ (x < 0 ∧ y < 0 ∧ z < 0) then 1 else 0
theorem tri_par {a b c x y z : Int} (ha : a ≠ 0) (hb : b ≠ 0) (hc : c ≠ 0) (hx : x = 0 → a = b) (hy : y = 0 → b = c) (hz : z = 0 → c = a) (h : a * y + b * z + c * x = 0) :
  pN3 x y z % 2 = (cE a b x + cE b c y + cE c a z) % 2 := by
 have e : pN3 x y z = p3 (s3 x) (s3 y) (s3 z) := by unfold pN3 p3; simp only [s3_n, s3_p]
 rw [e, cE_3, cE_3, cE_3]
 refine par3 _ _ _ _ _ _ (fun k => ha (s3_z.2 k)) (fun k => hb (s3_z.2 k)) (fun k => hc (s3_z.2 k)) (fun k => congrArg s3 (hx (s3_z.2 k))) (fun k => congrArg s3 (hy (s3_z.2 k))) (fun k => congrArg s3 (hz (s3_z.2 k))) ?_
 rw [← s3_mul, ← s3_mul, ← s3_mul]
 exact z3_of h
theorem fM_zero {M n : Int} {v : V3} (h : bigM M v) (h0 : fM M n v = 0) : v.x = 0 ∧ v.y = 0 ∧ v.z = 0 := by
 obtain ⟨hM, h1, h2, h3⟩ := h
 unfold fM at h0
 have z : ∀ a b : Int, b.natAbs < M.natAbs → a * M + b = 0 → a = 0 ∧ b = 0 := fun a b hb e => by
  have e2 := sign_big (a := a) hb hM
  rw [e] at e2
  by_cases h : a.sign = 0
  ·have ha := Int.sign_eq_zero_iff_zero.1 h
   subst ha
   rw [Int.zero_mul] at e
   omega
  ·rw [if_neg h] at e2; exact absurd e2.symm h
 obtain ⟨f1, f2⟩ := z _ _ h3 h0
 obtain ⟨f3, f4⟩ := z _ _ h2 f1
 exact ⟨(z _ _ h1 f3).2, f4, f2⟩
def dirU (d : V3) : V3 := if d.x = 0 ∧ d.y = 0 then ⟨1, 0, 0⟩ else ⟨0, 0, 1⟩
theorem dirU_ok {d : V3} (h : d.isZ = false) : ¬ (((dirU d).cross d).x = 0 ∧ ((dirU d).cross d).y = 0 ∧ ((dirU d).cross d).z = 0) := by
 unfold dirU
 split
 ·rename_i e
  rintro ⟨-, h2, -⟩
  have hz : d.z = 0 := by simp only [V3.cross] at h2; omega
  unfold V3.isZ at h
  rw [e.1, e.2, hz] at h
  cases h
 ·rename_i e
  rintro ⟨h1, h2, -⟩
  simp only [V3.cross] at h1 h2
  exact e ⟨by omega, by omega⟩
section
variable {M : Int} {d : V3} {l : List V3} (hM : bigMs M d (⟨0, 0, 0⟩ :: dirU d :: l)) (hd : d.isZ = false)
include hM hd
theorem y_nz (A : V3) : yM M d (dirU d) A ≠ 0 := by
 intro h0
 have hb := hM (dirU d) (List.mem_cons_of_mem _ List.mem_cons_self) ⟨0, 0, 0⟩ List.mem_cons_self
 have e : d.cross (V3.sub ⟨0, 0, 0⟩ (dirU d)) = (dirU d).cross d := by
  apply V3.ext' <;> simp only [V3.cross, V3.sub] <;> grind
 rw [e] at hb
 exact dirU_ok hd (fM_zero hb h0)
omit hd in
theorem y_side {A B : V3} (ha : A ∈ l) (hb : B ∈ l) (h : sM M d A B = 0) : yM M d (dirU d) A = yM M d (dirU d) B := by
 obtain ⟨k1, k2, k3⟩ := sM_zero hM (List.mem_cons_of_mem _ (List.mem_cons_of_mem _ ha)) (List.mem_cons_of_mem _ (List.mem_cons_of_mem _ hb)) h
 have e : d.dot ((dirU d).cross A) = d.dot ((dirU d).cross B) := by
  generalize dirU d = u
  simp only [V3.cross, V3.sub, V3.dot] at *
  clear hM h
  grind
 unfold yM; rw [e]
def eM (M : Int) (d A B : V3) : Nat := cE (yM M d (dirU d) A) (yM M d (dirU d) B) (sM M d A B)
omit hM hd in
theorem eM_comm (M : Int) (d A B : V3) : eM M d B A = eM M d A B := by
 unfold eM; rw [sM_anti M d A B, cE_comm]
theorem pass_par {A B C : V3} (ha : A ∈ l) (hb : B ∈ l) (hc : C ∈ l) : bN (passZ d A B C) % 2 = (eM M d A B + eM M d B C + eM M d C A) % 2 := by
 have t := tri_par (y_nz hM hd A) (y_nz hM hd B) (y_nz hM hd C) (y_side hM ha hb) (y_side hM hb hc) (y_side hM hc ha) (y_id M d (dirU d) A B C)
 have p := pass_M hM (List.mem_cons_of_mem _ (List.mem_cons_of_mem _ ha)) (List.mem_cons_of_mem _ (List.mem_cons_of_mem _ hb)) (List.mem_cons_of_mem _ (List.mem_cons_of_mem _ hc))
 have e : bN (passZ d A B C) = pN3 (sM M d A B) (sM M d B C) (sM M d C A) := by
  unfold bN pN3
  simp only [p]
 rw [e]; exact t
end
theorem add_m2 {a b c d : Nat} (h : a % 2 = b % 2) (h' : c % 2 = d % 2) : (a + c) % 2 = (b + d) % 2 := by omega
theorem cube_even {d : V3} (hd : d.isZ = false) (a b c e f g h i : V3) :
  (bN (passZ d a c e) + bN (passZ d a e b) + (bN (passZ d f h i) + bN (passZ d f i g)) + (bN (passZ d a b g) + bN (passZ d a g f)) + (bN (passZ d c e i) + bN (passZ d c i h)) + (bN (passZ d a f h) + bN (passZ d a h c)) + (bN (passZ d b g i) + bN (passZ d b i e))) % 2 = 0 := by
 obtain ⟨M, hM⟩ := exists_big d (⟨0, 0, 0⟩ :: dirU d :: [a, b, c, e, f, g, h, i])
 have p := fun A B C (ha : A ∈ [a, b, c, e, f, g, h, i]) (hb : B ∈ [a, b, c, e, f, g, h, i]) (hc : C ∈ [a, b, c, e, f, g, h, i]) => pass_par hM hd ha hb hc
 have p1 := p a c e (by simp) (by simp) (by simp)
 have p2 := p a e b (by simp) (by simp) (by simp)
 have p3 := p f h i (by simp) (by simp) (by simp)
 have p4 := p f i g (by simp) (by simp) (by simp)
 have p5 := p a b g (by simp) (by simp) (by simp)
 have p6 := p a g f (by simp) (by simp) (by simp)
 have p7 := p c e i (by simp) (by simp) (by simp)
 have p8 := p c i h (by simp) (by simp) (by simp)
 have p9 := p a f h (by simp) (by simp) (by simp)
 have pa := p a h c (by simp) (by simp) (by simp)
 have pb := p b g i (by simp) (by simp) (by simp)
 have pc := p b i e (by simp) (by simp) (by simp)
 clear p hM
 have s := fun A B => eM_comm M d A B
 have sac := s a c
 have sae := s a e
 have sbe := s b e
 have sab := s a b
 have shi := s h i
 have sfi := s f i
 have sgi := s g i
 have sfg := s f g
 have sag := s a g
 have sei := s e i
 have sci := s c i
 have sch := s c h
 have saf := s a f
 have sah := s a h
 have sbi := s b i
 clear s
 have q := add_m2 p1 (add_m2 p2 (add_m2 p3 (add_m2 p4 (add_m2 p5 (add_m2 p6 (add_m2 p7 (add_m2 p8 (add_m2 p9 (add_m2 pa (add_m2 pb pc))))))))))
 clear p1 p2 p3 p4 p5 p6 p7 p8 p9 pa pb pc
 simp only [sac, sae, sbe, sab, shi, sfi, sgi, sfg, sag, sei, sci, sch, saf, sah, sbi] at q
 omega
theorem thru_even {r : RZ} (hd : r.d.isZ = false) (mv : V3 → V3) (b : Int) : sumN (fun p q s => bN (passZ r.d (r.at (mv p)) (r.at (mv q)) (r.at (mv s)))) (voxL b 2 pt0 27) % 2 = 0 := by
 have k0 : ∀ n, sumK (fun _ => 0) n = 0 := fun n => by
  induction n with
  | zero => rfl
  | succ n ih => unfold sumK; rw [ih]
 rw [vox_par (fun p q s => bN (passZ r.d (r.at (mv p)) (r.at (mv q)) (r.at (mv s)))) (fun a b c => by rw [pass_rot]) (fun a b c => by rw [pass_rev]) b]
 rw [sumK_mod (g := fun _ => 0) 27 fun k _ => ?_, k0]
 show (if bs b k = true then _ else _) % 2 = 0
 split
 ·simp only [sumK, nKc, nFc, nQ]
  generalize k % 3 = x
  generalize k / 3 % 3 = y
  generalize k / 9 = z
  have := cube_even hd (r.at (mv (gP x y z))) (r.at (mv (gP (x + 1) y z))) (r.at (mv (gP x (y + 1) z))) (r.at (mv (gP (x + 1) (y + 1) z))) (r.at (mv (gP x y (z + 1)))) (r.at (mv (gP (x + 1) y (z + 1)))) (r.at (mv (gP x (y + 1) (z + 1)))) (r.at (mv (gP (x + 1) (y + 1) (z + 1))))
  omega
 ·rfl
end Go.Proofs.YtocbklodkcdhkaaGreatDoor
