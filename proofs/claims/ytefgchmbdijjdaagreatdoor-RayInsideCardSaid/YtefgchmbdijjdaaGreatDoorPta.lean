/- Plain laws of rays: sides of edges as numbers. Plain laws of RayThrough and RayInside: sums over the surface of a set of cubes, by pairs of sides. Plain laws of RayInside: a ray that begins in a cube crosses an odd number of its twelve triangles, any other an even number. Plain laws of RayInside: the sides of a cube as intervals. -/
import Derived.Test.YtefgchmbdijjdaaGreatDoorTurn
import Derived.Test.YtefgchmbdijjdaaGreatDoorRyc
import Derived.Test.YtefgchmbdijjdaaGreatDoorTrd
namespace Go.Proofs.YtefgchmbdijjdaaGreatDoor
open Go.RowKit
set_option maxRecDepth 100000

def fM (M n : Int) (v : V3) : Int := ((n * M + v.x) * M + v.y) * M + v.z
theorem sign_big {M a b : Int} (hb : b.natAbs < M.natAbs) (hM : 0 < M) : (a * M + b).sign = if a.sign = 0 then b.sign else a.sign := by
 rcases Int.lt_trichotomy a 0 with h | h | h
 ·have h1 : a * M ≤ -M := by
   have := Int.mul_le_mul_of_nonneg_right (show a ≤ -1 by omega) (show 0 ≤ M by omega)
   omega
  rw [Int.sign_eq_neg_one_of_neg h, Int.sign_eq_neg_one_of_neg (by omega)]; rfl
 ·subst h; simp
 ·have h1 : M ≤ a * M := by
   have := Int.mul_le_mul_of_nonneg_right (show 1 ≤ a by omega) (show 0 ≤ M by omega)
   omega
  rw [Int.sign_eq_one_of_pos h, Int.sign_eq_one_of_pos (by omega)]; rfl
def bigM (M : Int) (v : V3) : Prop := 0 < M ∧ v.x.natAbs < M.natAbs ∧ v.y.natAbs < M.natAbs ∧ v.z.natAbs < M.natAbs
theorem sgV_fM {M n : Int} {v : V3} (h : bigM M v) : sgV n v = (fM M n v).sign := by
 obtain ⟨hM, h1, h2, h3⟩ := h
 unfold sgV fM
 rw [sign_big h3 hM, sign_big h2 hM, sign_big h1 hM, sgL_c, sgL_c, sgL_c, sgL_c]
 by_cases e1 : n.sign = 0
 ·rw [if_pos e1, if_pos e1]
  by_cases e2 : v.x.sign = 0
  ·rw [if_pos e2, if_pos e2]
   by_cases e3 : v.y.sign = 0
   ·rw [if_pos e3, if_pos e3]
    by_cases e4 : v.z.sign = 0
    ·rw [if_pos e4, e4]; rfl
    ·rw [if_neg e4]
   ·rw [if_neg e3, if_neg e3]
  ·rw [if_neg e2, if_neg e2, if_neg e2]
 ·rw [if_neg e1, if_neg e1, if_neg e1, if_neg e1]
def sM (M : Int) (d A B : V3) : Int := fM M (d.dot (A.cross B)) (d.cross (B.sub A))
def sumA (v : V3) : Nat := v.x.natAbs + v.y.natAbs + v.z.natAbs
def bigMs (M : Int) (d : V3) (l : List V3) : Prop := ∀ a ∈ l, ∀ b ∈ l, bigM M (d.cross (b.sub a))
theorem exists_big (d : V3) (l : List V3) : ∃ M, bigMs M d l := by
 have : ∀ l' : List (V3 × V3), ∃ N : Nat, 0 < N ∧ ∀ p ∈ l', sumA (d.cross (p.2.sub p.1)) < N := by
  intro l'
  induction l' with
  | nil => exact ⟨1, by decide, fun _ h => nomatch h⟩
  | cons p l' ih =>
   obtain ⟨N, hN, h⟩ := ih
   refine ⟨N + sumA (d.cross (p.2.sub p.1)) + 1, by omega, fun q hq => ?_⟩
   rcases List.mem_cons.1 hq with rfl | hq
   ·omega
   ·have := h q hq; omega
 obtain ⟨N, hN, h⟩ := this (l.flatMap fun a => l.map fun b => (a, b))
 refine ⟨(N : Int), fun a ha b hb => ?_⟩
 have := h (a, b) (List.mem_flatMap.2 ⟨a, ha, List.mem_map.2 ⟨b, hb, rfl⟩⟩)
 unfold sumA at this
 simp only at this
 refine ⟨by omega, ?_, ?_, ?_⟩ <;> omega
theorem side_sM {M : Int} {d : V3} {l : List V3} (h : bigMs M d l) {A B : V3} (ha : A ∈ l) (hb : B ∈ l) : sideZ d A B = (sM M d A B).sign := sgV_fM (h A ha B hb)
theorem sM_zero {M : Int} {d : V3} {l : List V3} (h : bigMs M d l) {A B : V3} (ha : A ∈ l) (hb : B ∈ l) (h0 : sM M d A B = 0) : (d.cross (B.sub A)).x = 0 ∧ (d.cross (B.sub A)).y = 0 ∧ (d.cross (B.sub A)).z = 0 := by
 obtain ⟨hM, h1, h2, h3⟩ := h A ha B hb
 unfold sM fM at h0
 have e3 := sign_big (a := (d.dot (A.cross B) * M + (d.cross (B.sub A)).x) * M + (d.cross (B.sub A)).y) h3 hM
 have e2 := sign_big (a := d.dot (A.cross B) * M + (d.cross (B.sub A)).x) h2 hM
 have e1 := sign_big (a := d.dot (A.cross B)) h1 hM
 generalize (d.cross (B.sub A)).x = vx at *
 generalize (d.cross (B.sub A)).y = vy at *
 generalize (d.cross (B.sub A)).z = vz at *
 generalize d.dot (A.cross B) = n at *
 rw [h0] at e3
 have k0 : (0 : Int).sign = 0 := rfl
 rw [k0] at e3
 have f1 : ((n * M + vx) * M + vy).sign = 0 := by
  by_cases h : ((n * M + vx) * M + vy).sign = 0
  ·exact h
  ·rw [if_neg h] at e3; exact e3.symm
 rw [if_pos f1] at e3
 have f2 : (n * M + vx).sign = 0 := by
  by_cases h : (n * M + vx).sign = 0
  ·exact h
  ·rw [if_neg h, f1] at e2; exact e2.symm
 rw [if_pos f2, f1] at e2
 have f3 : n.sign = 0 := by
  by_cases h : n.sign = 0
  ·exact h
  ·rw [if_neg h, f2] at e1; exact e1.symm
 rw [if_pos f3, f2] at e1
 exact ⟨Int.sign_eq_zero_iff_zero.1 e1.symm, Int.sign_eq_zero_iff_zero.1 e2.symm, Int.sign_eq_zero_iff_zero.1 e3.symm⟩
theorem pass_M {M : Int} {d : V3} {l : List V3} (h : bigMs M d l) {A B C : V3} (ha : A ∈ l) (hb : B ∈ l) (hc : C ∈ l) : passZ d A B C = true ↔ (0 < sM M d A B ∧ 0 < sM M d B C ∧ 0 < sM M d C A) ∨ (sM M d A B < 0 ∧ sM M d B C < 0 ∧ sM M d C A < 0) := by
 rw [pass_iff, side_sM h ha hb, side_sM h hb hc, side_sM h hc ha]
 generalize sM M d A B = x
 generalize sM M d B C = y
 generalize sM M d C A = z
 have sg : ∀ x : Int, (x < 0 ∧ x.sign = -1) ∨ (x = 0 ∧ x.sign = 0) ∨ (0 < x ∧ x.sign = 1) := fun x => by
  rcases Int.lt_trichotomy x 0 with h | h | h
  ·exact .inl ⟨h, Int.sign_eq_neg_one_of_neg h⟩
  ·subst h; exact .inr (.inl ⟨rfl, rfl⟩)
  ·exact .inr (.inr ⟨h, Int.sign_eq_one_of_pos h⟩)
 have h1 := sg x; have h2 := sg y; have h3 := sg z
 generalize x.sign = sx at *
 generalize y.sign = sy at *
 generalize z.sign = sz at *
 omega
theorem sM_anti (M : Int) (d A B : V3) : sM M d B A = -sM M d A B := by
 simp only [sM, fM, V3.dot, V3.cross, V3.sub]; grind
def bN (b : Bool) : Nat := if b = true then 1 else 0
theorem sgL_three : ∀ l : List Int, sgL l = 0 ∨ sgL l = 1 ∨ sgL l = -1
 | [] => .inl rfl
 | x :: l => by
  rw [sgL_c]
  split
  ·exact sgL_three l
  ·rcases Int.lt_trichotomy x 0 with h | h | h
   ·exact .inr (.inr (Int.sign_eq_neg_one_of_neg h))
   ·subst h; exact .inl rfl
   ·exact .inr (.inl (Int.sign_eq_one_of_pos h))
end Go.Proofs.YtefgchmbdijjdaaGreatDoor

namespace Go.Proofs.YtefgchmbdijjdaaGreatDoor
open Go.RowKit
set_option maxRecDepth 100000

def gP (x y z : Nat) : V3 := ⟨2 * (x : Int), 2 * (y : Int), 2 * (z : Int)⟩
def v3B (a b : V3) : Bool := decide (a.x = b.x) && (decide (a.y = b.y) && decide (a.z = b.z))
theorem v3B_eq {a b : V3} (h : v3B a b = true) : a = b := by
 unfold v3B at h
 rw [Bool.and_eq_true, Bool.and_eq_true, decide_eq_true_eq, decide_eq_true_eq, decide_eq_true_eq] at h
 exact V3.ext' h.1 h.2.1 h.2.2
theorem crn_all : (List.range 27).all (fun k => (List.range 8).all fun n => v3B (crn (voxP pt0 2 k) 2 n).v (gP (k % 3 + n % 2) (k / 3 % 3 + n / 2 % 2) (k / 9 + n / 4))) = true := by decide +kernel
theorem crn_v {k n : Nat} (hk : k < 27) (hn : n < 8) : (crn (voxP pt0 2 k) 2 n).v = gP (k % 3 + n % 2) (k / 3 % 3 + n / 2 % 2) (k / 9 + n / 4) := by
 have h := List.all_eq_true.1 crn_all k (List.mem_range.2 hk)
 have h := List.all_eq_true.1 h n (List.mem_range.2 hn)
 exact v3B_eq h
def nbr (k f : Nat) : Option Nat := match f with
 | 0 => if k < 9 then none else some (k - 9)
 | 1 => if k < 18 then some (k + 9) else none
 | 2 => if k / 3 % 3 = 0 then none else some (k - 3)
 | 3 => if k / 3 % 3 = 2 then none else some (k + 3)
 | 4 => if k % 3 = 0 then none else some (k - 1)
 | _ => if k % 3 = 2 then none else some (k + 1)
def nbOk (k f : Nat) : Bool := match nbr k f with
 | none => !insB (nbU (vxX k) f) (nbV (vxY k) f) (nbW (vxZ k) f)
 | some j => insB (nbU (vxX k) f) (nbV (vxY k) f) (nbW (vxZ k) f) && decide (ixF (nbU (vxX k) f) (nbV (vxY k) f) (nbW (vxZ k) f) = (j : Int))
theorem nb_all : (List.range 27).all (fun k => (List.range 6).all fun f => nbOk k f) = true := by decide +kernel
def bs (b : Int) (k : Nat) : Bool := !bit0 b k
theorem face_nb (b : Int) {k f : Nat} (hk : k < 27) (hf : f < 6) : faceB b (vxX k) (vxY k) (vxZ k) f = match nbr k f with | none => true | some j => !bs b j := by
 have h := List.all_eq_true.1 (List.all_eq_true.1 nb_all k (List.mem_range.2 hk)) f (List.mem_range.2 hf)
 unfold nbOk at h
 unfold faceB
 cases e : nbr k f with
 | none => rw [e] at h; simp only at h ⊢; rw [h]; rfl
 | some j =>
  rw [e] at h
  simp only at h ⊢
  rw [Bool.and_eq_true, decide_eq_true_eq] at h
  rw [h.1, h.2]; unfold bs; simp
section
variable (N : V3 → V3 → V3 → Nat)
def nT (t : TR) : Nat := N t.a.v t.b.v t.c.v
def sumN : List TR → Nat
 | [] => 0
 | t :: l => nT N t + sumN l
theorem sumN_app : ∀ l m : List TR, sumN N (l ++ m) = sumN N l + sumN N m
 | [], m => (Nat.zero_add _).symm
 | t :: l, m => by show nT N t + sumN N (l ++ m) = nT N t + sumN N l + sumN N m; rw [sumN_app l m]; omega
def nQ (a b c d : V3) : Nat := N a b c + N a c d
def nFc (f x y z : Nat) : Nat := match f with
 | 0 => nQ N (gP x y z) (gP x (y + 1) z) (gP (x + 1) (y + 1) z) (gP (x + 1) y z)
 | 1 => nQ N (gP x y (z + 1)) (gP x (y + 1) (z + 1)) (gP (x + 1) (y + 1) (z + 1)) (gP (x + 1) y (z + 1))
 | 2 => nQ N (gP x y z) (gP (x + 1) y z) (gP (x + 1) y (z + 1)) (gP x y (z + 1))
 | 3 => nQ N (gP x (y + 1) z) (gP (x + 1) (y + 1) z) (gP (x + 1) (y + 1) (z + 1)) (gP x (y + 1) (z + 1))
 | 4 => nQ N (gP x y z) (gP x y (z + 1)) (gP x (y + 1) (z + 1)) (gP x (y + 1) z)
 | _ => nQ N (gP (x + 1) y z) (gP (x + 1) y (z + 1)) (gP (x + 1) (y + 1) (z + 1)) (gP (x + 1) (y + 1) z)
def nKc (k f : Nat) : Nat := nFc N f (k % 3) (k / 3 % 3) (k / 9)
def exB (b : Int) (k f : Nat) : Bool := match nbr k f with
 | none => true
 | some j => !bs b j
def sumK (h : Nat → Nat) : Nat → Nat
 | 0 => 0
 | k + 1 => sumK h k + h k
variable (hrot : ∀ a b c, N b c a = N a b c) (hrev : ∀ a b c, N b a c = N a b c)
include hrot hrev
theorem nQ_rev (a b c d : V3) : nQ N a d c b = nQ N a b c d := by
 have h : ∀ a b c, N a c b = N a b c := fun a b c => (hrot b a c).trans (hrev a b c)
 unfold nQ
 rw [h a c d, h a b c, Nat.add_comm]
theorem sum_faces (b : Int) {k : Nat} (hk : k < 27) : sumN N (facesL b (cubeL (voxP pt0 2 k) 2) (vxX k) (vxY k) (vxZ k) 6) = sumK (fun f => if exB b k f = true then nKc N k f else 0) 6 := by
 have c := fun n hn => crn_v (k := k) (n := n) hk hn
 have q := nQ_rev N hrot hrev
 have step : ∀ f, f < 6 → ∀ C, nT N (triD C (2 * f)) + nT N (triD C (2 * f + 1)) = nKc N k f → sumN N (if faceB b (vxX k) (vxY k) (vxZ k) f = true then [triD C (2 * f), triD C (2 * f + 1)] else []) = if exB b k f = true then nKc N k f else 0 := fun f hf C e => by
  rw [face_nb b hk hf]
  show sumN N (if exB b k f = true then _ else _) = _
  by_cases h : exB b k f = true
  ·rw [if_pos h, if_pos h, ← e]; rfl
  ·rw [if_neg h, if_neg h]; rfl
 unfold facesL facesL facesL facesL facesL facesL facesL
 simp only [sumN_app, sumK]
 rw [step 0 (by decide), step 1 (by decide), step 2 (by decide), step 3 (by decide), step 4 (by decide), step 5 (by decide)]
 ·rfl
 ·show nQ N (crn (voxP pt0 2 k) 2 1).v (crn (voxP pt0 2 k) 2 3).v (crn (voxP pt0 2 k) 2 7).v (crn (voxP pt0 2 k) 2 5).v = _
  rw [c 1 (by decide), c 3 (by decide), c 7 (by decide), c 5 (by decide), q]; rfl
 ·show nQ N (crn (voxP pt0 2 k) 2 0).v (crn (voxP pt0 2 k) 2 4).v (crn (voxP pt0 2 k) 2 6).v (crn (voxP pt0 2 k) 2 2).v = _
  rw [c 0 (by decide), c 4 (by decide), c 6 (by decide), c 2 (by decide)]; rfl
 ·show nQ N (crn (voxP pt0 2 k) 2 2).v (crn (voxP pt0 2 k) 2 6).v (crn (voxP pt0 2 k) 2 7).v (crn (voxP pt0 2 k) 2 3).v = _
  rw [c 2 (by decide), c 6 (by decide), c 7 (by decide), c 3 (by decide), q]; rfl
 ·show nQ N (crn (voxP pt0 2 k) 2 0).v (crn (voxP pt0 2 k) 2 1).v (crn (voxP pt0 2 k) 2 5).v (crn (voxP pt0 2 k) 2 4).v = _
  rw [c 0 (by decide), c 1 (by decide), c 5 (by decide), c 4 (by decide)]; rfl
 ·show nQ N (crn (voxP pt0 2 k) 2 4).v (crn (voxP pt0 2 k) 2 5).v (crn (voxP pt0 2 k) 2 7).v (crn (voxP pt0 2 k) 2 6).v = _
  rw [c 4 (by decide), c 5 (by decide), c 7 (by decide), c 6 (by decide), q]; rfl
 ·show nQ N (crn (voxP pt0 2 k) 2 0).v (crn (voxP pt0 2 k) 2 2).v (crn (voxP pt0 2 k) 2 3).v (crn (voxP pt0 2 k) 2 1).v = _
  rw [c 0 (by decide), c 2 (by decide), c 3 (by decide), c 1 (by decide)]; rfl
theorem sum_vox (b : Int) : ∀ n, n ≤ 27 → sumN N (voxL b 2 pt0 n) = sumK (fun k => if bs b k = true then sumK (fun f => if exB b k f = true then nKc N k f else 0) 6 else 0) n
 | 0, _ => rfl
 | n + 1, hn => by
  unfold voxL
  rw [sumN_app, sum_vox b n (by omega)]
  show _ = sumK _ n + (if bs b n = true then sumK (fun f => if exB b n f = true then nKc N n f else 0) 6 else 0)
  congr 1
  have hf := sum_faces N hrot hrev b (show n < 27 by omega)
  unfold bs
  cases bit0 b n with
  | true => rfl
  | false => exact hf
end
theorem line3 (p q s : Bool) (w0 w1 w2 w3 : Nat) : ((if p = true then w0 + (if (!q) = true then w1 else 0) else 0) + (if q = true then (if (!p) = true then w1 else 0) + (if (!s) = true then w2 else 0) else 0) + (if s = true then (if (!q) = true then w2 else 0) + w3 else 0)) % 2 =
  ((if p = true then w0 + w1 else 0) + (if q = true then w1 + w2 else 0) + (if s = true then w2 + w3 else 0)) % 2 := by
 cases p <;> cases q <;> cases s <;> simp <;> omega
def dirE (N : V3 → V3 → V3 → Nat) (b : Int) (f : Nat) (k : Nat) : Nat := if bs b k = true then (if exB b k f = true then nKc N k f else 0) + (if exB b k (f + 1) = true then nKc N k (f + 1) else 0) else 0
def dirA (N : V3 → V3 → V3 → Nat) (b : Int) (f : Nat) (k : Nat) : Nat := if bs b k = true then nKc N k f + nKc N k (f + 1) else 0
theorem line_x (N : V3 → V3 → V3 → Nat) (b : Int) : ∀ j, j < 9 → (dirE N b 4 (3 * j) + dirE N b 4 (3 * j + 1) + dirE N b 4 (3 * j + 2)) % 2 = (dirA N b 4 (3 * j) + dirA N b 4 (3 * j + 1) + dirA N b 4 (3 * j + 2)) % 2 := by
 intro j hj
 have h : j = 0 ∨ j = 1 ∨ j = 2 ∨ j = 3 ∨ j = 4 ∨ j = 5 ∨ j = 6 ∨ j = 7 ∨ j = 8 := by omega
 rcases h with rfl | rfl | rfl | rfl | rfl | rfl | rfl | rfl | rfl <;> exact line3 _ _ _ _ _ _ _
theorem line_y (N : V3 → V3 → V3 → Nat) (b : Int) : ∀ j i, j < 3 → i < 3 → (dirE N b 2 (9 * j + i) + dirE N b 2 (9 * j + i + 3) + dirE N b 2 (9 * j + i + 6)) % 2 = (dirA N b 2 (9 * j + i) + dirA N b 2 (9 * j + i + 3) + dirA N b 2 (9 * j + i + 6)) % 2 := by
 intro j i hj hi
 have h : j = 0 ∨ j = 1 ∨ j = 2 := by omega
 have h' : i = 0 ∨ i = 1 ∨ i = 2 := by omega
 rcases h with rfl | rfl | rfl <;> rcases h' with rfl | rfl | rfl <;> exact line3 _ _ _ _ _ _ _
theorem line_z (N : V3 → V3 → V3 → Nat) (b : Int) : ∀ j, j < 9 → (dirE N b 0 j + dirE N b 0 (j + 9) + dirE N b 0 (j + 18)) % 2 = (dirA N b 0 j + dirA N b 0 (j + 9) + dirA N b 0 (j + 18)) % 2 := by
 intro j hj
 have h : j = 0 ∨ j = 1 ∨ j = 2 ∨ j = 3 ∨ j = 4 ∨ j = 5 ∨ j = 6 ∨ j = 7 ∨ j = 8 := by omega
 rcases h with rfl | rfl | rfl | rfl | rfl | rfl | rfl | rfl | rfl <;> exact line3 _ _ _ _ _ _ _
theorem sumK_add (f g : Nat → Nat) : ∀ n, sumK (fun k => f k + g k) n = sumK f n + sumK g n
 | 0 => rfl
 | n + 1 => by unfold sumK; rw [sumK_add f g n]; omega
theorem sumK_congr {f g : Nat → Nat} : ∀ n, (∀ k, k < n → f k = g k) → sumK f n = sumK g n
 | 0, _ => rfl
 | n + 1, h => by unfold sumK; rw [sumK_congr n fun k hk => h k (by omega), h n (by omega)]
theorem sumK_mod {f g : Nat → Nat} : ∀ n, (∀ k, k < n → f k % 2 = g k % 2) → sumK f n % 2 = sumK g n % 2
 | 0, _ => rfl
 | n + 1, h => by unfold sumK; have := sumK_mod n fun k hk => h k (by omega); have := h n (by omega); omega
theorem dir_x (N : V3 → V3 → V3 → Nat) (b : Int) : sumK (dirE N b 4) 27 % 2 = sumK (dirA N b 4) 27 % 2 := by
 have h := line_x N b
 have h0 := h 0 (by decide); have h1 := h 1 (by decide); have h2 := h 2 (by decide); have h3 := h 3 (by decide); have h4 := h 4 (by decide)
 have h5 := h 5 (by decide); have h6 := h 6 (by decide); have h7 := h 7 (by decide); have h8 := h 8 (by decide)
 clear h
 simp only [sumK, Nat.reduceMul, Nat.reduceAdd, Nat.zero_add] at *
 omega
theorem dir_y (N : V3 → V3 → V3 → Nat) (b : Int) : sumK (dirE N b 2) 27 % 2 = sumK (dirA N b 2) 27 % 2 := by
 have h := line_y N b
 have h0 := h 0 0 (by decide) (by decide); have h1 := h 0 1 (by decide) (by decide); have h2 := h 0 2 (by decide) (by decide); have h3 := h 1 0 (by decide) (by decide); have h4 := h 1 1 (by decide) (by decide)
 have h5 := h 1 2 (by decide) (by decide); have h6 := h 2 0 (by decide) (by decide); have h7 := h 2 1 (by decide) (by decide); have h8 := h 2 2 (by decide) (by decide)
 clear h
 simp only [sumK, Nat.reduceMul, Nat.reduceAdd, Nat.zero_add] at *
 omega
theorem dir_z (N : V3 → V3 → V3 → Nat) (b : Int) : sumK (dirE N b 0) 27 % 2 = sumK (dirA N b 0) 27 % 2 := by
 have h := line_z N b
 have h0 := h 0 (by decide); have h1 := h 1 (by decide); have h2 := h 2 (by decide); have h3 := h 3 (by decide); have h4 := h 4 (by decide)
 have h5 := h 5 (by decide); have h6 := h 6 (by decide); have h7 := h 7 (by decide); have h8 := h 8 (by decide)
 clear h
 simp only [sumK, Nat.reduceAdd, Nat.zero_add] at *
 omega
theorem vox_par (N : V3 → V3 → V3 → Nat) (hrot : ∀ a b c, N b c a = N a b c) (hrev : ∀ a b c, N b a c = N a b c) (b : Int) :
  sumN N (voxL b 2 pt0 27) % 2 = sumK (fun k => if bs b k = true then sumK (nKc N k) 6 else 0) 27 % 2 := by
 have e1 : sumN N (voxL b 2 pt0 27) = sumK (dirE N b 0) 27 + sumK (dirE N b 2) 27 + sumK (dirE N b 4) 27 := by
  rw [sum_vox N hrot hrev b 27 (Nat.le_refl _), ← sumK_add, ← sumK_add]
  refine sumK_congr 27 fun k _ => ?_
  unfold dirE
  by_cases h : bs b k = true
  ·rw [if_pos h, if_pos h, if_pos h, if_pos h]; simp only [sumK, Nat.reduceAdd]; omega
  ·rw [if_neg h, if_neg h, if_neg h, if_neg h]
 have e2 : sumK (fun k => if bs b k = true then sumK (nKc N k) 6 else 0) 27 = sumK (dirA N b 0) 27 + sumK (dirA N b 2) 27 + sumK (dirA N b 4) 27 := by
  rw [← sumK_add, ← sumK_add]
  refine sumK_congr 27 fun k _ => ?_
  unfold dirA
  by_cases h : bs b k = true
  ·rw [if_pos h, if_pos h, if_pos h, if_pos h]; simp only [sumK, Nat.reduceAdd]; omega
  ·rw [if_neg h, if_neg h, if_neg h, if_neg h]
 have hx := dir_x N b
 have hy := dir_y N b
 have hz := dir_z N b
 rw [e1, e2]; omega
end Go.Proofs.YtefgchmbdijjdaaGreatDoor

namespace Go.Proofs.YtefgchmbdijjdaaGreatDoor
open Go.RowKit
set_option maxRecDepth 100000

def opp (a b : Int) : Prop := (a < 0 ∧ 0 < b) ∨ (b < 0 ∧ 0 < a)
instance (a b : Int) : Decidable (opp a b) := by unfold opp; infer_instance
def fc (u d l1 h1 d1 l2 h2 d2 : Int) : Nat := if 0 < u * d ∧ opp (d * l1 - d1 * u) (d * h1 - d1 * u) ∧ opp (d * l2 - d2 * u) (d * h2 - d2 * u) then 1 else 0
theorem opp_neg (a b : Int) : opp (-a) (-b) ↔ opp a b := by unfold opp; omega
theorem opp_swap (a b : Int) : opp b a ↔ opp a b := by unfold opp; omega
theorem fc_n0 (u d l1 h1 d1 l2 h2 d2 : Int) : fc (-u) (-d) l1 h1 d1 l2 h2 d2 = fc u d l1 h1 d1 l2 h2 d2 := by
 unfold fc
 have e0 : -u * -d = u * d := Int.neg_mul_neg u d
 have e : ∀ x y : Int, -d * x - y * -u = -(d * x - y * u) := fun x y => by grind
 rw [e0, e, e, e, e]
 simp only [opp_neg]
theorem fc_n1 (u d l1 h1 d1 l2 h2 d2 : Int) : fc u d (-h1) (-l1) (-d1) l2 h2 d2 = fc u d l1 h1 d1 l2 h2 d2 := by
 unfold fc
 have e : ∀ x : Int, d * -x - -d1 * u = -(d * x - d1 * u) := fun x => by grind
 rw [e, e]
 simp only [opp_neg, opp_swap]
theorem fc_n2 (u d l1 h1 d1 l2 h2 d2 : Int) : fc u d l1 h1 d1 (-h2) (-l2) (-d2) = fc u d l1 h1 d1 l2 h2 d2 := by
 unfold fc
 have e : ∀ x : Int, d * -x - -d2 * u = -(d * x - d2 * u) := fun x => by grind
 rw [e, e]
 simp only [opp_neg, opp_swap]
structure Ax where
 l : Int
 h : Int
 d : Int
def Ax.neg (a : Ax) : Ax := ⟨-a.h, -a.l, -a.d⟩
def Gen (a b : Ax) : Prop := (a.d ≠ 0 ∨ b.d ≠ 0) → (a.l * b.d ≠ b.l * a.d ∧ a.l * b.d ≠ b.h * a.d ∧ a.h * b.d ≠ b.l * a.d ∧ a.h * b.d ≠ b.h * a.d)
structure AxOk (a : Ax) : Prop where
 lt : a.l < a.h
 l0 : a.l ≠ 0
 h0 : a.h ≠ 0
def six (a b c : Ax) : Nat := fc a.l a.d b.l b.h b.d c.l c.h c.d + fc a.h a.d b.l b.h b.d c.l c.h c.d + (fc b.l b.d c.l c.h c.d a.l a.h a.d + fc b.h b.d c.l c.h c.d a.l a.h a.d) + (fc c.l c.d a.l a.h a.d b.l b.h b.d + fc c.h c.d a.l a.h a.d b.l b.h b.d)
def inAx (a : Ax) : Prop := a.l < 0 ∧ 0 < a.h
instance (a : Ax) : Decidable (inAx a) := by unfold inAx; infer_instance
theorem six_rot (a b c : Ax) : six b c a = six a b c := by unfold six; omega
theorem six_neg (a b c : Ax) : six a.neg b c = six a b c := by
 unfold six Ax.neg
 rw [fc_n0, fc_n0, fc_n2, fc_n2, fc_n1, fc_n1]; omega
theorem AxOk.neg {a : Ax} (h : AxOk a) : AxOk a.neg := ⟨by have := h.lt; show -a.h < -a.l; omega, by have := h.h0; show -a.h ≠ 0; omega, by have := h.l0; show -a.l ≠ 0; omega⟩
theorem in_neg (a : Ax) : inAx a.neg ↔ inAx a := by unfold inAx Ax.neg; simp only; omega
theorem Gen.neg {a b : Ax} (h : Gen a b) : Gen a.neg b := by
 intro hd
 unfold Ax.neg at hd
 simp only at hd
 obtain ⟨h1, h2, h3, h4⟩ := h (by omega)
 unfold Ax.neg
 simp only [Int.neg_mul, Int.mul_neg]
 omega
theorem Gen.symm {a b : Ax} (h : Gen a b) : Gen b a := fun hd => by
 obtain ⟨h1, h2, h3, h4⟩ := h hd.symm
 exact ⟨fun e => h1 e.symm, fun e => h3 e.symm, fun e => h2 e.symm, fun e => h4 e.symm⟩
def ivl (e a2 b2 a3 b3 : Int) : Nat := if 0 < e ∧ a2 < e ∧ e < b2 ∧ a3 < e ∧ e < b3 then 1 else 0
theorem iv0 {e a2 b2 a3 b3 : Int} (h : ¬ (0 < e ∧ a2 < e ∧ e < b2 ∧ a3 < e ∧ e < b3)) : ivl e a2 b2 a3 b3 = 0 := if_neg h
theorem iv_a {a b a2 b2 a3 b3 : Int} (h1 : a2 < a) (h2 : a3 < a) (h : a < b) : ivl a a2 b2 a3 b3 = if 0 < a ∧ a < b ∧ a < b2 ∧ a < b3 then 1 else 0 := by
 unfold ivl; congr 1; exact propext ⟨fun h => by omega, fun h => by omega⟩
theorem iv_b {a b a2 b2 a3 b3 : Int} (h1 : b < b2) (h2 : b < b3) (h : a < b) : ivl b a2 b2 a3 b3 = if 0 < b ∧ a < b ∧ a2 < b ∧ a3 < b then 1 else 0 := by
 unfold ivl; congr 1; exact propext ⟨fun h => by omega, fun h => by omega⟩
theorem iv3_max {a1 b1 a2 b2 a3 b3 : Int} (l1 : a1 < b1) (l2 : a2 < b2) (l3 : a3 < b3) (n2 : a2 < a1) (n3 : a3 < a1) (z : a1 ≠ 0) (m12 : b1 ≠ b2) (m13 : b1 ≠ b3) (m23 : b2 ≠ b3) :
  (ivl a1 a2 b2 a3 b3 + ivl b1 a2 b2 a3 b3 + (ivl a2 a3 b3 a1 b1 + ivl b2 a3 b3 a1 b1) + (ivl a3 a1 b1 a2 b2 + ivl b3 a1 b1 a2 b2)) % 2 = if (a1 < 0 ∧ 0 < b1) ∧ (a2 < 0 ∧ 0 < b2) ∧ (a3 < 0 ∧ 0 < b3) then 1 else 0 := by
 rw [iv0 (e := a2) (by omega), iv0 (e := a3) (by omega), iv_a (b := b1) n2 n3 l1]
 have h : (b1 < b2 ∧ b1 < b3) ∨ (b2 < b3 ∧ b2 < b1) ∨ (b3 < b1 ∧ b3 < b2) := by omega
 rcases h with ⟨h1, h2⟩ | ⟨h1, h2⟩ | ⟨h1, h2⟩
 ·rw [iv0 (e := b2) (by omega), iv0 (e := b3) (by omega), iv_b (a := a1) h1 h2 l1]
  split <;> split <;> split <;> omega
 ·rw [iv0 (e := b1) (by omega), iv0 (e := b3) (by omega), iv_b (a := a2) h1 h2 l2]
  split <;> split <;> split <;> omega
 ·rw [iv0 (e := b1) (by omega), iv0 (e := b2) (by omega), iv_b (a := a3) h1 h2 l3]
  split <;> split <;> split <;> omega
theorem iv3 {a1 b1 a2 b2 a3 b3 : Int} (l1 : a1 < b1) (l2 : a2 < b2) (l3 : a3 < b3) (n12 : a1 ≠ a2) (n13 : a1 ≠ a3) (n23 : a2 ≠ a3) (z1 : a1 ≠ 0) (z2 : a2 ≠ 0) (z3 : a3 ≠ 0) (m12 : b1 ≠ b2) (m13 : b1 ≠ b3) (m23 : b2 ≠ b3) :
  (ivl a1 a2 b2 a3 b3 + ivl b1 a2 b2 a3 b3 + (ivl a2 a3 b3 a1 b1 + ivl b2 a3 b3 a1 b1) + (ivl a3 a1 b1 a2 b2 + ivl b3 a1 b1 a2 b2)) % 2 = if (a1 < 0 ∧ 0 < b1) ∧ (a2 < 0 ∧ 0 < b2) ∧ (a3 < 0 ∧ 0 < b3) then 1 else 0 := by
 have h : (a2 < a1 ∧ a3 < a1) ∨ (a3 < a2 ∧ a1 < a2) ∨ (a1 < a3 ∧ a2 < a3) := by omega
 rcases h with ⟨h1, h2⟩ | ⟨h1, h2⟩ | ⟨h1, h2⟩
 ·exact iv3_max l1 l2 l3 h1 h2 z1 m12 m13 m23
 ·have := iv3_max l2 l3 l1 h1 h2 z2 m23 (Ne.symm m12) (Ne.symm m13)
  have e : ((a1 < 0 ∧ 0 < b1) ∧ (a2 < 0 ∧ 0 < b2) ∧ (a3 < 0 ∧ 0 < b3)) = ((a2 < 0 ∧ 0 < b2) ∧ (a3 < 0 ∧ 0 < b3) ∧ (a1 < 0 ∧ 0 < b1)) := propext ⟨fun h => ⟨h.2.1, h.2.2, h.1⟩, fun h => ⟨h.2.2, h.1, h.2.1⟩⟩
  simp only [e]; omega
 ·have := iv3_max l3 l1 l2 h1 h2 z3 (Ne.symm m13) (Ne.symm m23) m12
  have e : ((a1 < 0 ∧ 0 < b1) ∧ (a2 < 0 ∧ 0 < b2) ∧ (a3 < 0 ∧ 0 < b3)) = ((a3 < 0 ∧ 0 < b3) ∧ (a1 < 0 ∧ 0 < b1) ∧ (a2 < 0 ∧ 0 < b2)) := propext ⟨fun h => ⟨h.2.2, h.1, h.2.1⟩, fun h => ⟨h.2.1, h.2.2, h.1⟩⟩
  simp only [e]; omega
theorem mul_lt_iff {k x y : Int} (h : 0 < k) : x * k < y * k ↔ x < y := ⟨fun e => Int.lt_of_mul_lt_mul_right e (Int.le_of_lt h), fun e => Int.mul_lt_mul_of_pos_right e h⟩
theorem pos_iff {k x : Int} (h : 0 < k) : 0 < x * k ↔ 0 < x := by have := mul_lt_iff (x := 0) (y := x) h; rwa [Int.zero_mul] at this
theorem neg_iff' {k x : Int} (h : 0 < k) : x * k < 0 ↔ x < 0 := by have := mul_lt_iff (x := x) (y := 0) h; rwa [Int.zero_mul] at this
theorem opp_pos {d d1 u l1 h1 : Int} (hd : 0 < d) (h : l1 < h1) : opp (d * l1 - d1 * u) (d * h1 - d1 * u) ↔ l1 * d < u * d1 ∧ u * d1 < h1 * d := by
 have := (mul_lt_iff (x := l1) (y := h1) hd).2 h
 rw [Int.mul_comm d l1, Int.mul_comm d h1, Int.mul_comm d1 u]
 unfold opp; omega
theorem fc_ppp {u d l1 h1 d1 l2 h2 d2 : Int} (hd : 0 < d) (hd1 : 0 < d1) (hd2 : 0 < d2) (hl1 : l1 < h1) (hl2 : l2 < h2) : fc u d l1 h1 d1 l2 h2 d2 = ivl (u * d1 * d2) (l1 * d2 * d) (h1 * d2 * d) (l2 * d * d1) (h2 * d * d1) := by
 unfold fc ivl
 congr 1
 have a1 := mul_lt_iff (x := l1 * d) (y := u * d1) hd2
 have a2 := mul_lt_iff (x := u * d1) (y := h1 * d) hd2
 have a3 := mul_lt_iff (x := l2 * d) (y := u * d2) hd1
 have a4 := mul_lt_iff (x := u * d2) (y := h2 * d) hd1
 have a5 := pos_iff (x := u) (Int.mul_pos hd1 hd2)
 have a6 := pos_iff (x := u) hd
 rw [← Int.mul_assoc] at a5
 rw [Int.mul_right_comm l1 d d2] at a1
 rw [Int.mul_right_comm h1 d d2] at a2
 rw [Int.mul_right_comm u d2 d1] at a3 a4
 refine propext ?_
 rw [opp_pos hd hl1, opp_pos hd hl2, a6, a5, a1, a2, a3, a4]
 exact ⟨fun h => ⟨h.1, h.2.1.1, h.2.1.2, h.2.2.1, h.2.2.2⟩, fun h => ⟨h.1, ⟨h.2.1, h.2.2.1⟩, h.2.2.2.1, h.2.2.2.2⟩⟩
theorem fc_d0 (u l1 h1 d1 l2 h2 d2 : Int) : fc u 0 l1 h1 d1 l2 h2 d2 = 0 := by
 unfold fc; rw [Int.mul_zero]; exact if_neg fun h => absurd h.1 (by omega)
theorem opp_z {d u l h : Int} (hd : 0 < d) (hl : l < h) : opp (d * l - 0 * u) (d * h - 0 * u) ↔ (l < 0 ∧ 0 < h) := by
 rw [opp_pos hd hl, Int.mul_zero, neg_iff' hd, pos_iff hd]
theorem ne_mul {k x y : Int} (hk : 0 < k) (h : x ≠ y) : x * k ≠ y * k := fun e => h (Int.eq_of_mul_eq_mul_right (by omega) e)
theorem six_ppp {a b c : Ax} (ha : AxOk a) (hb : AxOk b) (hc : AxOk c) (gab : Gen a b) (gbc : Gen b c) (gac : Gen a c) (pa : 0 < a.d) (pb : 0 < b.d) (pc : 0 < c.d) : six a b c % 2 = if inAx a ∧ inAx b ∧ inAx c then 1 else 0 := by
 obtain ⟨a1, a0, a0'⟩ := ha
 obtain ⟨b1, b0, b0'⟩ := hb
 obtain ⟨c1, c0, c0'⟩ := hc
 unfold six
 rw [fc_ppp pa pb pc b1 c1, fc_ppp pa pb pc b1 c1, fc_ppp pb pc pa c1 a1, fc_ppp pb pc pa c1 a1, fc_ppp pc pa pb a1 b1, fc_ppp pc pa pb a1 b1]
 obtain ⟨g1, -, -, g4⟩ := gab (.inl (by omega))
 obtain ⟨k1, -, -, k4⟩ := gbc (.inl (by omega))
 obtain ⟨m1, -, -, m4⟩ := gac (.inl (by omega))
 have i1 := iv3 (a1 := a.l * b.d * c.d) (b1 := a.h * b.d * c.d) (a2 := b.l * c.d * a.d) (b2 := b.h * c.d * a.d) (a3 := c.l * a.d * b.d) (b3 := c.h * a.d * b.d)
  ((mul_lt_iff pc).2 ((mul_lt_iff pb).2 a1)) ((mul_lt_iff pa).2 ((mul_lt_iff pc).2 b1)) ((mul_lt_iff pb).2 ((mul_lt_iff pa).2 c1))
  (by rw [Int.mul_right_comm b.l c.d a.d]; exact ne_mul pc g1)
  (by rw [Int.mul_right_comm a.l b.d c.d]; exact ne_mul pb m1)
  (by rw [Int.mul_right_comm c.l a.d b.d]; exact ne_mul pa k1)
  (Int.mul_ne_zero (Int.mul_ne_zero a0 (by omega)) (by omega)) (Int.mul_ne_zero (Int.mul_ne_zero b0 (by omega)) (by omega)) (Int.mul_ne_zero (Int.mul_ne_zero c0 (by omega)) (by omega))
  (by rw [Int.mul_right_comm b.h c.d a.d]; exact ne_mul pc g4)
  (by rw [Int.mul_right_comm a.h b.d c.d]; exact ne_mul pb m4)
  (by rw [Int.mul_right_comm c.h a.d b.d]; exact ne_mul pa k4)
 rw [i1]
 unfold inAx
 simp only [neg_iff' pa, neg_iff' pb, neg_iff' pc, pos_iff pa, pos_iff pb, pos_iff pc]
theorem fc_pp0 {u d l1 h1 d1 l2 h2 : Int} (hd : 0 < d) (hl1 : l1 < h1) (hl2 : l2 < h2) : fc u d l1 h1 d1 l2 h2 0 = if (0 < u ∧ l1 * d < u * d1 ∧ u * d1 < h1 * d) ∧ (l2 < 0 ∧ 0 < h2) then 1 else 0 := by
 unfold fc
 congr 1
 refine propext ?_
 rw [opp_pos hd hl1, opp_z hd hl2, pos_iff hd]
 exact ⟨fun h => ⟨⟨h.1, h.2.1⟩, h.2.2⟩, fun h => ⟨h.1.1, h.1.2, h.2⟩⟩
theorem fc_p0p {u d l1 h1 l2 h2 d2 : Int} (hd : 0 < d) (hl1 : l1 < h1) (hl2 : l2 < h2) : fc u d l1 h1 0 l2 h2 d2 = if (0 < u ∧ l2 * d < u * d2 ∧ u * d2 < h2 * d) ∧ (l1 < 0 ∧ 0 < h1) then 1 else 0 := by
 unfold fc
 congr 1
 refine propext ?_
 rw [opp_z hd hl1, opp_pos hd hl2, pos_iff hd]
 exact ⟨fun h => ⟨⟨h.1, h.2.2⟩, h.2.1⟩, fun h => ⟨h.1.1, h.2, h.1.2⟩⟩
theorem two_iv {la ha lb hb p q : Int} (hp : 0 < p) (hq : 0 < q) (h1 : la < ha) (h2 : lb < hb) (z1 : la ≠ 0) (z2 : lb ≠ 0) (g1 : la * q ≠ lb * p) (g4 : ha * q ≠ hb * p) (C : Prop) [Decidable C] :
  ((if (0 < la ∧ lb * p < la * q ∧ la * q < hb * p) ∧ C then 1 else 0) + (if (0 < ha ∧ lb * p < ha * q ∧ ha * q < hb * p) ∧ C then 1 else 0) + ((if (0 < lb ∧ la * q < lb * p ∧ lb * p < ha * q) ∧ C then 1 else 0) + (if (0 < hb ∧ la * q < hb * p ∧ hb * p < ha * q) ∧ C then 1 else 0)) : Nat) % 2 = if (la < 0 ∧ 0 < ha) ∧ (lb < 0 ∧ 0 < hb) ∧ C then 1 else 0 := by
 have e1 := pos_iff (x := la) hq
 have e2 := pos_iff (x := ha) hq
 have e3 := pos_iff (x := lb) hp
 have e4 := pos_iff (x := hb) hp
 have e5 := neg_iff' (x := la) hq
 have e6 := neg_iff' (x := lb) hp
 have l1 := (mul_lt_iff (x := la) (y := ha) hq).2 h1
 have l2 := (mul_lt_iff (x := lb) (y := hb) hp).2 h2
 simp only [← e1, ← e2, ← e3, ← e4, ← e5, ← e6]
 have n1 : la * q ≠ 0 := Int.mul_ne_zero z1 (by omega)
 have n2 : lb * p ≠ 0 := Int.mul_ne_zero z2 (by omega)
 clear e1 e2 e3 e4 e5 e6
 generalize la * q = A at *
 generalize ha * q = A' at *
 generalize lb * p = B at *
 generalize hb * p = B' at *
 by_cases hC : C
 ·simp only [hC, and_true]
  have h : (B < A ∨ A < B) ∧ (B' < A' ∨ A' < B') := by omega
  obtain ⟨h | h, k | k⟩ := h
  ·rw [if_neg (c := 0 < A' ∧ _ ∧ _) (by omega), if_neg (c := 0 < B ∧ _ ∧ _) (by omega)]
   split <;> split <;> split <;> omega
  ·rw [if_neg (c := 0 < B ∧ _ ∧ _) (by omega), if_neg (c := 0 < B' ∧ _ ∧ _) (by omega)]
   split <;> split <;> split <;> omega
  ·rw [if_neg (c := 0 < A ∧ _ ∧ _) (by omega), if_neg (c := 0 < A' ∧ _ ∧ _) (by omega)]
   split <;> split <;> split <;> omega
  ·rw [if_neg (c := 0 < A ∧ _ ∧ _) (by omega), if_neg (c := 0 < B' ∧ _ ∧ _) (by omega)]
   split <;> split <;> split <;> omega
 ·simp only [hC, and_false, if_false]
theorem six_pp0 {a b c : Ax} (ha : AxOk a) (hb : AxOk b) (hc : AxOk c) (gab : Gen a b) (pa : 0 < a.d) (pb : 0 < b.d) (pc : c.d = 0) : six a b c % 2 = if inAx a ∧ inAx b ∧ inAx c then 1 else 0 := by
 obtain ⟨a1, a0, a0'⟩ := ha
 obtain ⟨b1, b0, b0'⟩ := hb
 obtain ⟨c1, c0, c0'⟩ := hc
 obtain ⟨g1, -, -, g4⟩ := gab (.inl (by omega))
 unfold six
 rw [pc, fc_d0, fc_d0, fc_pp0 pa b1 c1, fc_pp0 pa b1 c1, fc_p0p pb c1 a1, fc_p0p pb c1 a1]
 exact two_iv pa pb a1 b1 a0 b0 g1 g4 (c.l < 0 ∧ 0 < c.h)
theorem six_p00 {a b c : Ax} (ha : AxOk a) (hb : AxOk b) (hc : AxOk c) (pa : 0 < a.d) (pb : b.d = 0) (pc : c.d = 0) : six a b c % 2 = if inAx a ∧ inAx b ∧ inAx c then 1 else 0 := by
 obtain ⟨a1, a0, a0'⟩ := ha
 obtain ⟨b1, b0, b0'⟩ := hb
 obtain ⟨c1, c0, c0'⟩ := hc
 unfold six
 rw [pc, pb, fc_d0, fc_d0, fc_d0, fc_d0]
 unfold fc inAx
 simp only [opp_z pa b1, opp_z pa c1, pos_iff pa]
 by_cases h : (b.l < 0 ∧ 0 < b.h) ∧ (c.l < 0 ∧ 0 < c.h)
 ·simp only [h, and_true, and_self]
  split <;> split <;> split <;> omega
 ·rw [if_neg (fun k => h k.2), if_neg (fun k => h k.2), if_neg (fun k => h k.2)]
theorem in_rot (a b c : Ax) : (inAx b ∧ inAx c ∧ inAx a) = (inAx a ∧ inAx b ∧ inAx c) := propext ⟨fun h => ⟨h.2.2, h.1, h.2.1⟩, fun h => ⟨h.2.1, h.2.2, h.1⟩⟩
theorem six_nn {a b c : Ax} (ha : AxOk a) (hb : AxOk b) (hc : AxOk c) (gab : Gen a b) (gbc : Gen b c) (gac : Gen a c) (pa : 0 ≤ a.d) (pb : 0 ≤ b.d) (pc : 0 ≤ c.d) (hz : ¬ (a.d = 0 ∧ b.d = 0 ∧ c.d = 0)) : six a b c % 2 = if inAx a ∧ inAx b ∧ inAx c then 1 else 0 := by
 rcases Int.lt_or_eq_of_le pa with pa | pa <;> rcases Int.lt_or_eq_of_le pb with pb | pb <;> rcases Int.lt_or_eq_of_le pc with pc | pc
 ·exact six_ppp ha hb hc gab gbc gac pa pb pc
 ·exact six_pp0 ha hb hc gab pa pb pc.symm
 ·have h := six_pp0 hc ha hb gac.symm pc pa pb.symm
  rw [six_rot b c a, six_rot a b c] at h
  simpa only [in_rot b c a, in_rot a b c] using h
 ·exact six_p00 ha hb hc pa pb.symm pc.symm
 ·have h := six_pp0 hb hc ha gbc pb pc pa.symm
  rw [six_rot a b c] at h
  simpa only [in_rot a b c] using h
 ·have h := six_p00 hb hc ha pb pc.symm pa.symm
  rw [six_rot a b c] at h
  simpa only [in_rot a b c] using h
 ·have h := six_p00 hc ha hb pc pa.symm pb.symm
  rw [six_rot b c a, six_rot a b c] at h
  simpa only [in_rot b c a, in_rot a b c] using h
 ·exact absurd ⟨pa.symm, pb.symm, pc.symm⟩ hz
theorem six_pn {a b c : Ax} (ha : AxOk a) (hb : AxOk b) (hc : AxOk c) (gab : Gen a b) (gbc : Gen b c) (gac : Gen a c) (pb : 0 ≤ b.d) (pc : 0 ≤ c.d) (hz : ¬ (a.d = 0 ∧ b.d = 0 ∧ c.d = 0)) : six a b c % 2 = if inAx a ∧ inAx b ∧ inAx c then 1 else 0 := by
 rcases Int.le_total 0 a.d with pa | pa
 ·exact six_nn ha hb hc gab gbc gac pa pb pc hz
 ·have := six_nn ha.neg hb hc gab.neg gbc gac.neg (show 0 ≤ -a.d by omega) pb pc (fun e => hz ⟨by have h : -a.d = 0 := e.1; omega, e.2⟩)
  rw [six_neg] at this
  simpa only [in_neg] using this
theorem six_qn {a b c : Ax} (ha : AxOk a) (hb : AxOk b) (hc : AxOk c) (gab : Gen a b) (gbc : Gen b c) (gac : Gen a c) (pc : 0 ≤ c.d) (hz : ¬ (a.d = 0 ∧ b.d = 0 ∧ c.d = 0)) : six a b c % 2 = if inAx a ∧ inAx b ∧ inAx c then 1 else 0 := by
 rcases Int.le_total 0 b.d with pb | pb
 ·exact six_pn ha hb hc gab gbc gac pb pc hz
 ·have := six_pn ha hb.neg hc gab.symm.neg.symm gbc.neg gac (show 0 ≤ -b.d by omega) pc (fun e => hz ⟨e.1, by have h : -b.d = 0 := e.2.1; omega, e.2.2⟩)
  rw [← six_rot a b.neg c, six_neg, six_rot] at this
  simpa only [in_neg] using this
theorem six_par {a b c : Ax} (ha : AxOk a) (hb : AxOk b) (hc : AxOk c) (gab : Gen a b) (gbc : Gen b c) (gac : Gen a c) (hz : ¬ (a.d = 0 ∧ b.d = 0 ∧ c.d = 0)) : six a b c % 2 = if inAx a ∧ inAx b ∧ inAx c then 1 else 0 := by
 rcases Int.le_total 0 c.d with pc | pc
 ·exact six_qn ha hb hc gab gbc gac pc hz
 ·have := six_qn ha hb hc.neg gab gbc.symm.neg.symm gac.symm.neg.symm (show 0 ≤ -c.d by omega) (fun e => hz ⟨e.1, e.2.1, by have h : -c.d = 0 := e.2.2; omega⟩)
  rw [← six_rot a b c.neg, ← six_rot b c.neg a, six_neg, six_rot, six_rot] at this
  simpa only [in_neg] using this
end Go.Proofs.YtefgchmbdijjdaaGreatDoor

namespace Go.Proofs.YtefgchmbdijjdaaGreatDoor
open Go.RowKit
set_option maxRecDepth 100000

def tB (x y z : Int) : Nat := if (0 < x ∧ 0 < y ∧ 0 < z) ∨ (x < 0 ∧ y < 0 ∧ z < 0) then 1 else 0
theorem quad_in {p q : Int} (D : Int) (h : p ≠ q) : tB p (-(q + D)) (-(p - q)) + tB (p - q) (-(p + D)) q = if opp p (p + D) ∧ opp q (q + D) then 1 else 0 := by
 unfold tB opp
 split <;> split <;> split <;> omega
theorem tB_mul {k x y z : Int} (hk : 0 < k) : tB (k * x) (k * y) (k * z) = tB x y z := by
 unfold tB
 simp only [Int.mul_comm k, pos_iff hk, neg_iff' hk]
def ahd (U d : Int) : Bool := decide ((if 0 < U then (1 : Int) else -1) = d.sign)
def pX (M X : Int) : Int := M * M * M * X - M * M
def pY (M Y : Int) : Int := M * M * M * Y - M
def pZ (M Z : Int) : Int := M * M * M * Z - 1
theorem pX_sg {M : Int} (hM : 2 ≤ M) (X : Int) : pX M X ≠ 0 ∧ (0 < pX M X ↔ 0 < X) := by
 have e : pX M X = M * M * (M * X - 1) := by unfold pX; grind
 have hm : 0 < M * M := Int.mul_pos (by omega) (by omega)
 rw [e]
 rcases Int.lt_or_le 0 X with h | h
 ·have h1 : M * 1 ≤ M * X := Int.mul_le_mul_of_nonneg_left (by omega) (by omega)
  have h2 : 0 < M * M * (M * X - 1) := Int.mul_pos hm (by omega)
  omega
 ·have h1 : M * X ≤ M * 0 := Int.mul_le_mul_of_nonneg_left h (by omega)
  have h2 : M * M * (M * X - 1) < 0 := Int.mul_neg_of_pos_of_neg hm (by omega)
  omega
theorem pY_sg {M : Int} (hM : 2 ≤ M) (X : Int) : pY M X ≠ 0 ∧ (0 < pY M X ↔ 0 < X) := by
 have e : pY M X = M * (M * M * X - 1) := by unfold pY; grind
 have hm : 4 ≤ M * M := by have := Int.mul_le_mul_of_nonneg_left hM (show 0 ≤ M by omega); omega
 rw [e]
 rcases Int.lt_or_le 0 X with h | h
 ·have h1 : M * M * 1 ≤ M * M * X := Int.mul_le_mul_of_nonneg_left (by omega) (by omega)
  have h2 : 0 < M * (M * M * X - 1) := Int.mul_pos (by omega) (by omega)
  omega
 ·have h1 : M * M * X ≤ M * M * 0 := Int.mul_le_mul_of_nonneg_left h (by omega)
  have h2 : M * (M * M * X - 1) < 0 := Int.mul_neg_of_pos_of_neg (by omega) (by omega)
  omega
theorem pZ_sg {M : Int} (hM : 2 ≤ M) (X : Int) : pZ M X ≠ 0 ∧ (0 < pZ M X ↔ 0 < X) := by
 unfold pZ
 have hm : 4 ≤ M * M := by have := Int.mul_le_mul_of_nonneg_left hM (show 0 ≤ M by omega); omega
 have hm : 8 ≤ M * M * M := by have := Int.mul_le_mul_of_nonneg_left hM (show 0 ≤ M * M by omega); omega
 rcases Int.lt_or_le 0 X with h | h
 ·have h1 : M * M * M * 1 ≤ M * M * M * X := Int.mul_le_mul_of_nonneg_left (by omega) (by omega)
  omega
 ·have h1 : M * M * M * X ≤ M * M * M * 0 := Int.mul_le_mul_of_nonneg_left h (by omega)
  omega
theorem ahd_fc {u U d : Int} (h0 : u ≠ 0) (h : 0 < u ↔ 0 < U) : ahd U d = decide (0 < u * d) := by
 unfold ahd
 refine decide_eq_decide.2 ?_
 rcases Int.lt_trichotomy d 0 with hd | hd | hd
 ·rw [Int.sign_eq_neg_one_of_neg hd]
  rcases Int.lt_trichotomy u 0 with hu | hu | hu
  ·have := Int.mul_pos_of_neg_of_neg hu hd
   rw [if_neg (by omega)]; exact ⟨fun _ => this, fun _=>rfl⟩
  ·exact absurd hu h0
  ·have := Int.mul_neg_of_pos_of_neg hu hd
   rw [if_pos (by omega)]; exact ⟨fun e => by omega, fun e => by omega⟩
 ·subst hd; rw [Int.mul_zero]
  split
  ·exact ⟨fun e => (by cases e), fun e => (by omega)⟩
  ·exact ⟨fun e => (by cases e), fun e => (by omega)⟩
 ·rw [Int.sign_eq_one_of_pos hd]
  rcases Int.lt_trichotomy u 0 with hu | hu | hu
  ·have := Int.mul_neg_of_neg_of_pos hu hd
   rw [if_neg (by omega)]; exact ⟨fun e => by omega, fun e => by omega⟩
  ·exact absurd hu h0
  ·have := Int.mul_pos hu hd
   rw [if_pos (by omega)]; exact ⟨fun _ => this, fun _=>rfl⟩
theorem mod_nz {M q e : Int} (he : e ≠ 0) (hb : e.natAbs < M.natAbs) : M * q + e ≠ 0 := by
 intro h
 have h1 : M ∣ e := ⟨-q, by rw [Int.mul_neg]; omega⟩
 have := Int.natAbs_dvd_natAbs.2 h1
 have := Nat.le_of_dvd (by omega) this
 omega
section
variable {M a b U V : Int} (hM : 0 < M) (ha : a.natAbs < M.natAbs) (hb : b.natAbs < M.natAbs)
include hM ha hb
theorem gen_xy (h : a ≠ 0 ∨ b ≠ 0) : pX M U * b ≠ pY M V * a := by
 unfold pX pY
 intro e
 by_cases h0 : a = 0
 ·subst h0
  have hb0 : b ≠ 0 := by omega
  rw [Int.mul_zero] at e
  have e1 : M * M * (M * (U * b) + -b) = 0 := by clear hb ha; grind
  exact mod_nz (e := -b) (by omega) (by omega) ((Int.mul_eq_zero.1 e1).resolve_left (Int.mul_ne_zero (by omega) (by omega)))
 ·have e1 : M * (M * (M * U * b - b - M * V * a) + a) = 0 := by clear hb ha; grind
  exact mod_nz (e := a) h0 ha ((Int.mul_eq_zero.1 e1).resolve_left (by omega))
theorem gen_yz (h : a ≠ 0 ∨ b ≠ 0) : pY M U * b ≠ pZ M V * a := by
 unfold pY pZ
 intro e
 by_cases h0 : a = 0
 ·subst h0
  have hb0 : b ≠ 0 := by omega
  rw [Int.mul_zero] at e
  have e1 : M * (M * (M * (U * b)) + -b) = 0 := by clear hb ha; grind
  exact mod_nz (e := -b) (by omega) (by omega) ((Int.mul_eq_zero.1 e1).resolve_left (by omega))
 ·have e1 : M * (M * M * U * b - b - M * M * V * a) + a = 0 := by clear hb ha; grind
  exact mod_nz (e := a) h0 ha e1
theorem gen_xz (h : a ≠ 0 ∨ b ≠ 0) : pX M U * b ≠ pZ M V * a := by
 unfold pX pZ
 intro e
 by_cases h0 : a = 0
 ·subst h0
  have hb0 : b ≠ 0 := by omega
  rw [Int.mul_zero] at e
  have e1 : M * M * (M * (U * b) + -b) = 0 := by clear hb ha; grind
  exact mod_nz (e := -b) (by omega) (by omega) ((Int.mul_eq_zero.1 e1).resolve_left (Int.mul_ne_zero (by omega) (by omega)))
 ·have e1 : M * (M * M * U * b - M * b - M * M * V * a) + a = 0 := by clear hb ha; grind
  exact mod_nz (e := a) h0 ha e1
end
theorem dia_x {M d1 d2 d3 U Y Z : Int} (h : d1 ≠ 0) (hb : d1.natAbs < M.natAbs) : d1 * pY M Y - d2 * pX M U ≠ d1 * pZ M Z - d3 * pX M U := by
 intro e
 unfold pX pY pZ at e
 exact mod_nz (M := M) (q := M * M * (d1 * Y - d2 * U) - d1 + M * d2 - M * M * (d1 * Z - d3 * U) - M * d3) (e := d1) h hb (by clear hb; grind)
theorem dia_y {M d1 d2 d3 V X Z : Int} (h : d2 ≠ 0) (hb : d2.natAbs < M.natAbs) : d2 * pZ M Z - d3 * pY M V ≠ d2 * pX M X - d1 * pY M V := by
 intro e
 unfold pX pY pZ at e
 exact mod_nz (M := M) (q := M * M * (d2 * Z - d3 * V) + d3 - M * M * (d2 * X - d1 * V) + M * d2 - d1) (e := -d2) (by omega) (by omega) (by clear hb; grind)
theorem dia_z {M d1 d2 d3 W X Y : Int} (h : d3 ≠ 0) (hb3 : d3.natAbs < M.natAbs) (hb : (d1 - d2).natAbs < M.natAbs) (hM : 0 < M) : d3 * pX M X - d1 * pZ M W ≠ d3 * pY M Y - d2 * pZ M W := by
 intro e
 unfold pX pY pZ at e
 by_cases h0 : d1 = d2
 ·subst h0
  have e1 : M * (M * (M * (d3 * X - d3 * Y) - d3) + d3) = 0 := by clear hb hb3; grind
  exact mod_nz (e := d3) h hb3 ((Int.mul_eq_zero.1 e1).resolve_left (by omega))
 ·exact mod_nz (M := M) (q := M * M * (d3 * X - d1 * W) - M * d3 - M * M * (d3 * Y - d2 * W) + d3) (e := d1 - d2) (by omega) hb (by clear hb hb3; grind)
theorem bn_and {a b : Bool} : bN (a && b) = if a = true then bN b else 0 := by cases a <;> rfl
theorem crossB_face {r : RZ} {p q s n : V3} (hp : permZ r = true) (hn : normZ p q s = n) (hz : n.isZ = false) {A : Bool} (hA : decide (sgV (n.dot (r.at p)) n.neg = (n.dot r.d).sign) = A) : crossB r p q s = (A && passZ r.d (r.at p) (r.at q) (r.at s)) := by
 unfold crossB highZ slopeZ
 rw [hp, hn, hz, hA]
 cases A <;> simp
theorem ahd_eq {H d : Int} {U e : Int} {v : V3} (h1 : H = -4 * U) (h2 : e = -4 * d) (h3 : sgL [v.x, v.y, v.z] = 1) : decide (sgV H v = e.sign) = ahd U d := by
 subst h1 h2
 have hs : (-4 * d).sign = -d.sign := by rw [Int.sign_mul]; show -1 * d.sign = _; omega
 unfold ahd sgV
 rw [sgL_c, hs, h3]
 refine decide_eq_decide.2 ?_
 rcases Int.lt_trichotomy U 0 with h | h | h
 ·rw [Int.sign_eq_one_of_pos (show 0 < -4 * U by omega), if_neg (by omega), if_neg (by omega)]; omega
 ·subst h
  have h0 : (-4 * (0 : Int)).sign = 0 := rfl
  rw [if_pos h0, if_neg (by omega)]; omega
 ·rw [Int.sign_eq_neg_one_of_neg (show -4 * U < 0 by omega), if_neg (by omega), if_pos h]; omega
theorem pass_tB {M : Int} {d : V3} {l : List V3} (h : bigMs M d l) {A B C : V3} (ha : A ∈ l) (hb : B ∈ l) (hc : C ∈ l) : bN (passZ d A B C) = tB (sM M d A B) (sM M d B C) (sM M d C A) := by
 unfold bN tB
 simp only [pass_M h ha hb hc]
theorem side_fc {k p q D u d l1 h1 d1 l2 h2 d2 U : Int} {b1 b2 : Bool} (hk : 0 < k) (hu : u ≠ 0) (hU : 0 < u ↔ 0 < U) (hdia : d ≠ 0 → p ≠ q) (ep : d * l1 - d1 * u = p) (eq : d * l2 - d2 * u = q) (ep' : d * h1 - d1 * u = p + D) (eq' : d * h2 - d2 * u = q + D)
  (e1 : bN b1 = tB (k * p) (k * -(q + D)) (k * -(p - q))) (e2 : bN b2 = tB (k * (p - q)) (k * -(p + D)) (k * q)) : bN (ahd U d && b1) + bN (ahd U d && b2) = fc u d l1 h1 d1 l2 h2 d2 := by
 rw [bn_and, bn_and, e1, e2, tB_mul hk, tB_mul hk, ahd_fc hu hU]
 unfold fc
 rw [ep, eq, ep', eq']
 by_cases h : 0 < u * d
 ·have hd : d ≠ 0 := fun e => by rw [e, Int.mul_zero] at h; omega
  rw [if_pos (decide_eq_true h), if_pos (decide_eq_true h), quad_in D (hdia hd)]
  congr 1
  exact propext ⟨fun k => ⟨h, k⟩, fun k => k.2⟩
 ·rw [if_neg (by simpa using h), if_neg (by simpa using h), if_neg (fun k => h k.1)]
section
variable {M : Int} {d : V3} (U Y Z k : Int)
theorem sx1 : sM M d ⟨U, Y, Z⟩ ⟨U, Y, Z + k⟩ = k * (d.x * pY M Y - d.y * pX M U) := by unfold sM fM V3.dot V3.cross V3.sub pY pX; grind
theorem sx2 : sM M d ⟨U, Y, Z + k⟩ ⟨U, Y + k, Z + k⟩ = k * -((d.x * pZ M Z - d.z * pX M U) + d.x * (M * M * M * k)) := by unfold sM fM V3.dot V3.cross V3.sub pZ pX; grind
theorem sx3 : sM M d ⟨U, Y, Z⟩ ⟨U, Y + k, Z + k⟩ = k * ((d.x * pY M Y - d.y * pX M U) - (d.x * pZ M Z - d.z * pX M U)) := by unfold sM fM V3.dot V3.cross V3.sub pZ pX pY; grind
theorem sx4 : sM M d ⟨U, Y + k, Z + k⟩ ⟨U, Y + k, Z⟩ = k * -((d.x * pY M Y - d.y * pX M U) + d.x * (M * M * M * k)) := by unfold sM fM V3.dot V3.cross V3.sub pX pY; grind
theorem sx5 : sM M d ⟨U, Y + k, Z⟩ ⟨U, Y, Z⟩ = k * (d.x * pZ M Z - d.z * pX M U) := by unfold sM fM V3.dot V3.cross V3.sub pX pZ; grind
theorem sy1 : sM M d ⟨U, Y, Z⟩ ⟨U + k, Y, Z⟩ = k * (d.y * pZ M Z - d.z * pY M Y) := by unfold sM fM V3.dot V3.cross V3.sub pY pZ; grind
theorem sy2 : sM M d ⟨U + k, Y, Z⟩ ⟨U + k, Y, Z + k⟩ = k * -((d.y * pX M U - d.x * pY M Y) + d.y * (M * M * M * k)) := by unfold sM fM V3.dot V3.cross V3.sub pY pX; grind
theorem sy3 : sM M d ⟨U, Y, Z⟩ ⟨U + k, Y, Z + k⟩ = k * ((d.y * pZ M Z - d.z * pY M Y) - (d.y * pX M U - d.x * pY M Y)) := by unfold sM fM V3.dot V3.cross V3.sub pZ pX pY; grind
theorem sy4 : sM M d ⟨U + k, Y, Z + k⟩ ⟨U, Y, Z + k⟩ = k * -((d.y * pZ M Z - d.z * pY M Y) + d.y * (M * M * M * k)) := by unfold sM fM V3.dot V3.cross V3.sub pZ pY; grind
theorem sy5 : sM M d ⟨U, Y, Z + k⟩ ⟨U, Y, Z⟩ = k * (d.y * pX M U - d.x * pY M Y) := by unfold sM fM V3.dot V3.cross V3.sub pX pY; grind
theorem sz1 : sM M d ⟨U, Y, Z⟩ ⟨U, Y + k, Z⟩ = k * (d.z * pX M U - d.x * pZ M Z) := by unfold sM fM V3.dot V3.cross V3.sub pX pZ; grind
theorem sz2 : sM M d ⟨U, Y + k, Z⟩ ⟨U + k, Y + k, Z⟩ = k * -((d.z * pY M Y - d.y * pZ M Z) + d.z * (M * M * M * k)) := by unfold sM fM V3.dot V3.cross V3.sub pY pZ; grind
theorem sz3 : sM M d ⟨U, Y, Z⟩ ⟨U + k, Y + k, Z⟩ = k * ((d.z * pX M U - d.x * pZ M Z) - (d.z * pY M Y - d.y * pZ M Z)) := by unfold sM fM V3.dot V3.cross V3.sub pZ pX pY; grind
theorem sz4 : sM M d ⟨U + k, Y + k, Z⟩ ⟨U + k, Y, Z⟩ = k * -((d.z * pX M U - d.x * pZ M Z) + d.z * (M * M * M * k)) := by unfold sM fM V3.dot V3.cross V3.sub pZ pX; grind
theorem sz5 : sM M d ⟨U + k, Y, Z⟩ ⟨U, Y, Z⟩ = k * (d.z * pY M Y - d.y * pZ M Z) := by unfold sM fM V3.dot V3.cross V3.sub pZ pY; grind
end
theorem at_g (r : RZ) (x y z i j k : Nat) : r.at (gP (x + i) (y + j) (z + k)) = ⟨(r.at (gP x y z)).x + (i : Int) * (2 * r.w), (r.at (gP x y z)).y + (j : Int) * (2 * r.w), (r.at (gP x y z)).z + (k : Int) * (2 * r.w)⟩ := by
 apply V3.ext' <;> simp only [RZ.at, gP, Int.natCast_add] <;> grind
def crN' (r : RZ) (a b c : V3) : Nat := bN (crossB r a b c)
structure BigC (M : Int) (d : V3) (l : List V3) : Prop where
 big : bigMs M d l
 m2 : 2 ≤ M
 x : d.x.natAbs < M.natAbs
 y : d.y.natAbs < M.natAbs
 z : d.z.natAbs < M.natAbs
 xy : (d.x - d.y).natAbs < M.natAbs
theorem exists_bigC {d : V3} (hd : d.isZ = false) (l : List V3) : ∃ M, BigC M d l := by
 obtain ⟨M, hM⟩ := exists_big d (⟨0, 0, 0⟩ :: ⟨0, 0, 1⟩ :: ⟨1, 0, 0⟩ :: ⟨1, 1, 0⟩ :: l)
 obtain ⟨h0, h1, h2, -⟩ := hM ⟨0, 0, 0⟩ (by simp) ⟨0, 0, 1⟩ (by simp)
 obtain ⟨-, -, h3, -⟩ := hM ⟨0, 0, 0⟩ (by simp) ⟨1, 0, 0⟩ (by simp)
 obtain ⟨-, -, -, h4⟩ := hM ⟨0, 0, 0⟩ (by simp) ⟨1, 1, 0⟩ (by simp)
 simp only [V3.cross, V3.sub] at h1 h2 h3 h4
 have hz : ¬ (d.x = 0 ∧ d.y = 0 ∧ d.z = 0) := fun e => by
  unfold V3.isZ at hd; rw [e.1, e.2.1, e.2.2] at hd; cases hd
 refine ⟨M, fun a ha b hb => hM a (by simp [ha]) b (by simp [hb]), ?_, ?_, ?_, ?_, ?_⟩ <;> omega
section
variable {r : RZ} (hp : permZ r = true) {M : Int} {l : List V3} (hM : BigC M r.d l) {x y z : Nat} (hl : ∀ i j k : Nat, i < 2 → j < 2 → k < 2 → r.at (gP (x + i) (y + j) (z + k)) ∈ l)
include hp hM hl
theorem face_z : nQ (crN' r) (gP x y z) (gP x (y + 1) z) (gP (x + 1) (y + 1) z) (gP (x + 1) y z) = fc (pZ M (r.at (gP x y z)).z) r.d.z (pX M (r.at (gP x y z)).x) (pX M ((r.at (gP x y z)).x + 2 * r.w)) r.d.x (pY M (r.at (gP x y z)).y) (pY M ((r.at (gP x y z)).y + 2 * r.w)) r.d.y := by
 have hw := perm_w hp
 have s := pZ_sg hM.m2 (r.at (gP x y z)).z
 have e000 := at_g r x y z 0 0 0
 have m000 : r.at (gP x y z) ∈ l := hl 0 0 0 (by decide) (by decide) (by decide)
 have e010 := at_g r x y z 0 1 0
 have m010 : r.at (gP x (y + 1) z) ∈ l := hl 0 1 0 (by decide) (by decide) (by decide)
 have e110 := at_g r x y z 1 1 0
 have m110 : r.at (gP (x + 1) (y + 1) z) ∈ l := hl 1 1 0 (by decide) (by decide) (by decide)
 have e100 := at_g r x y z 1 0 0
 have m100 : r.at (gP (x + 1) y z) ∈ l := hl 1 0 0 (by decide) (by decide) (by decide)
 have n1 : normZ (gP x y z) (gP x (y + 1) z) (gP (x + 1) (y + 1) z) = ⟨0, 0, -4⟩ := by
  apply V3.ext' <;> simp only [normZ, V3.cross, V3.sub, gP, Int.natCast_add] <;> grind
 have n2 : normZ (gP x y z) (gP (x + 1) (y + 1) z) (gP (x + 1) y z) = ⟨0, 0, -4⟩ := by
  apply V3.ext' <;> simp only [normZ, V3.cross, V3.sub, gP, Int.natCast_add] <;> grind
 have hA : decide (sgV ((⟨0, 0, -4⟩ : V3).dot (r.at (gP x y z))) (⟨0, 0, -4⟩ : V3).neg = ((⟨0, 0, -4⟩ : V3).dot r.d).sign) = ahd (r.at (gP x y z)).z r.d.z := ahd_eq (by simp only [V3.dot]; omega) (by simp only [V3.dot]; omega) rfl
 unfold nQ crN'
 rw [crossB_face hp n1 rfl hA, crossB_face hp n2 rfl hA]
 refine side_fc (k := 2 * r.w) (p := r.d.z * pX M (r.at (gP x y z)).x - r.d.x * pZ M (r.at (gP x y z)).z) (q := r.d.z * pY M (r.at (gP x y z)).y - r.d.y * pZ M (r.at (gP x y z)).z) (D := r.d.z * (M * M * M * (2 * r.w))) (by omega) s.1 s.2 (fun h => dia_z h hM.z hM.xy (by have := hM.m2; omega)) rfl rfl (by unfold pX; grind) (by unfold pY; grind) ?_ ?_
 ·rw [pass_tB hM.big m000 m010 m110]
  simp only [Nat.add_zero, Int.natCast_zero, Int.zero_mul, Int.add_zero, Int.natCast_one, Int.one_mul] at e010 e110 ⊢
  rw [sM_anti M r.d (r.at (gP x y z)) (r.at (gP (x + 1) (y + 1) z)), e010, e110]
  have t1 := sz1 (M := M) (d := r.d) (r.at (gP x y z)).x (r.at (gP x y z)).y (r.at (gP x y z)).z (2 * r.w)
  have t2 := sz2 (M := M) (d := r.d) (r.at (gP x y z)).x (r.at (gP x y z)).y (r.at (gP x y z)).z (2 * r.w)
  have t3 := sz3 (M := M) (d := r.d) (r.at (gP x y z)).x (r.at (gP x y z)).y (r.at (gP x y z)).z (2 * r.w)
  rw [← t2, Int.mul_neg, ← t3, ← t1]
 ·rw [pass_tB hM.big m000 m110 m100]
  simp only [Nat.add_zero, Int.natCast_zero, Int.zero_mul, Int.add_zero, Int.natCast_one, Int.one_mul] at e110 e100 ⊢
  rw [e110, e100]
  have t3 := sz3 (M := M) (d := r.d) (r.at (gP x y z)).x (r.at (gP x y z)).y (r.at (gP x y z)).z (2 * r.w)
  have t4 := sz4 (M := M) (d := r.d) (r.at (gP x y z)).x (r.at (gP x y z)).y (r.at (gP x y z)).z (2 * r.w)
  have t5 := sz5 (M := M) (d := r.d) (r.at (gP x y z)).x (r.at (gP x y z)).y (r.at (gP x y z)).z (2 * r.w)
  rw [← t3, ← t4, ← t5]
theorem face_y : nQ (crN' r) (gP x y z) (gP (x + 1) y z) (gP (x + 1) y (z + 1)) (gP x y (z + 1)) = fc (pY M (r.at (gP x y z)).y) r.d.y (pZ M (r.at (gP x y z)).z) (pZ M ((r.at (gP x y z)).z + 2 * r.w)) r.d.z (pX M (r.at (gP x y z)).x) (pX M ((r.at (gP x y z)).x + 2 * r.w)) r.d.x := by
 have hw := perm_w hp
 have s := pY_sg hM.m2 (r.at (gP x y z)).y
 have e000 := at_g r x y z 0 0 0
 have m000 : r.at (gP x y z) ∈ l := hl 0 0 0 (by decide) (by decide) (by decide)
 have e100 := at_g r x y z 1 0 0
 have m100 : r.at (gP (x + 1) y z) ∈ l := hl 1 0 0 (by decide) (by decide) (by decide)
 have e101 := at_g r x y z 1 0 1
 have m101 : r.at (gP (x + 1) y (z + 1)) ∈ l := hl 1 0 1 (by decide) (by decide) (by decide)
 have e001 := at_g r x y z 0 0 1
 have m001 : r.at (gP x y (z + 1)) ∈ l := hl 0 0 1 (by decide) (by decide) (by decide)
 have n1 : normZ (gP x y z) (gP (x + 1) y z) (gP (x + 1) y (z + 1)) = ⟨0, -4, 0⟩ := by
  apply V3.ext' <;> simp only [normZ, V3.cross, V3.sub, gP, Int.natCast_add] <;> grind
 have n2 : normZ (gP x y z) (gP (x + 1) y (z + 1)) (gP x y (z + 1)) = ⟨0, -4, 0⟩ := by
  apply V3.ext' <;> simp only [normZ, V3.cross, V3.sub, gP, Int.natCast_add] <;> grind
 have hA : decide (sgV ((⟨0, -4, 0⟩ : V3).dot (r.at (gP x y z))) (⟨0, -4, 0⟩ : V3).neg = ((⟨0, -4, 0⟩ : V3).dot r.d).sign) = ahd (r.at (gP x y z)).y r.d.y := ahd_eq (by simp only [V3.dot]; omega) (by simp only [V3.dot]; omega) rfl
 unfold nQ crN'
 rw [crossB_face hp n1 rfl hA, crossB_face hp n2 rfl hA]
 refine side_fc (k := 2 * r.w) (p := r.d.y * pZ M (r.at (gP x y z)).z - r.d.z * pY M (r.at (gP x y z)).y) (q := r.d.y * pX M (r.at (gP x y z)).x - r.d.x * pY M (r.at (gP x y z)).y) (D := r.d.y * (M * M * M * (2 * r.w))) (by omega) s.1 s.2 (fun h => dia_y h hM.y) rfl rfl (by unfold pZ; grind) (by unfold pX; grind) ?_ ?_
 ·rw [pass_tB hM.big m000 m100 m101]
  simp only [Nat.add_zero, Int.natCast_zero, Int.zero_mul, Int.add_zero, Int.natCast_one, Int.one_mul] at e100 e101 ⊢
  rw [sM_anti M r.d (r.at (gP x y z)) (r.at (gP (x + 1) y (z + 1))), e100, e101]
  have t1 := sy1 (M := M) (d := r.d) (r.at (gP x y z)).x (r.at (gP x y z)).y (r.at (gP x y z)).z (2 * r.w)
  have t2 := sy2 (M := M) (d := r.d) (r.at (gP x y z)).x (r.at (gP x y z)).y (r.at (gP x y z)).z (2 * r.w)
  have t3 := sy3 (M := M) (d := r.d) (r.at (gP x y z)).x (r.at (gP x y z)).y (r.at (gP x y z)).z (2 * r.w)
  rw [← t2, Int.mul_neg, ← t3, ← t1]
 ·rw [pass_tB hM.big m000 m101 m001]
  simp only [Nat.add_zero, Int.natCast_zero, Int.zero_mul, Int.add_zero, Int.natCast_one, Int.one_mul] at e101 e001 ⊢
  rw [e101, e001]
  have t3 := sy3 (M := M) (d := r.d) (r.at (gP x y z)).x (r.at (gP x y z)).y (r.at (gP x y z)).z (2 * r.w)
  have t4 := sy4 (M := M) (d := r.d) (r.at (gP x y z)).x (r.at (gP x y z)).y (r.at (gP x y z)).z (2 * r.w)
  have t5 := sy5 (M := M) (d := r.d) (r.at (gP x y z)).x (r.at (gP x y z)).y (r.at (gP x y z)).z (2 * r.w)
  rw [← t3, ← t4, ← t5]
theorem face_x : nQ (crN' r) (gP x y z) (gP x y (z + 1)) (gP x (y + 1) (z + 1)) (gP x (y + 1) z) = fc (pX M (r.at (gP x y z)).x) r.d.x (pY M (r.at (gP x y z)).y) (pY M ((r.at (gP x y z)).y + 2 * r.w)) r.d.y (pZ M (r.at (gP x y z)).z) (pZ M ((r.at (gP x y z)).z + 2 * r.w)) r.d.z := by
 have hw := perm_w hp
 have s := pX_sg hM.m2 (r.at (gP x y z)).x
 have e000 := at_g r x y z 0 0 0
 have m000 : r.at (gP x y z) ∈ l := hl 0 0 0 (by decide) (by decide) (by decide)
 have e001 := at_g r x y z 0 0 1
 have m001 : r.at (gP x y (z + 1)) ∈ l := hl 0 0 1 (by decide) (by decide) (by decide)
 have e011 := at_g r x y z 0 1 1
 have m011 : r.at (gP x (y + 1) (z + 1)) ∈ l := hl 0 1 1 (by decide) (by decide) (by decide)
 have e010 := at_g r x y z 0 1 0
 have m010 : r.at (gP x (y + 1) z) ∈ l := hl 0 1 0 (by decide) (by decide) (by decide)
 have n1 : normZ (gP x y z) (gP x y (z + 1)) (gP x (y + 1) (z + 1)) = ⟨-4, 0, 0⟩ := by
  apply V3.ext' <;> simp only [normZ, V3.cross, V3.sub, gP, Int.natCast_add] <;> grind
 have n2 : normZ (gP x y z) (gP x (y + 1) (z + 1)) (gP x (y + 1) z) = ⟨-4, 0, 0⟩ := by
  apply V3.ext' <;> simp only [normZ, V3.cross, V3.sub, gP, Int.natCast_add] <;> grind
 have hA : decide (sgV ((⟨-4, 0, 0⟩ : V3).dot (r.at (gP x y z))) (⟨-4, 0, 0⟩ : V3).neg = ((⟨-4, 0, 0⟩ : V3).dot r.d).sign) = ahd (r.at (gP x y z)).x r.d.x := ahd_eq (by simp only [V3.dot]; omega) (by simp only [V3.dot]; omega) rfl
 unfold nQ crN'
 rw [crossB_face hp n1 rfl hA, crossB_face hp n2 rfl hA]
 refine side_fc (k := 2 * r.w) (p := r.d.x * pY M (r.at (gP x y z)).y - r.d.y * pX M (r.at (gP x y z)).x) (q := r.d.x * pZ M (r.at (gP x y z)).z - r.d.z * pX M (r.at (gP x y z)).x) (D := r.d.x * (M * M * M * (2 * r.w))) (by omega) s.1 s.2 (fun h => dia_x h hM.x) rfl rfl (by unfold pY; grind) (by unfold pZ; grind) ?_ ?_
 ·rw [pass_tB hM.big m000 m001 m011]
  simp only [Nat.add_zero, Int.natCast_zero, Int.zero_mul, Int.add_zero, Int.natCast_one, Int.one_mul] at e001 e011 ⊢
  rw [sM_anti M r.d (r.at (gP x y z)) (r.at (gP x (y + 1) (z + 1))), e001, e011]
  have t1 := sx1 (M := M) (d := r.d) (r.at (gP x y z)).x (r.at (gP x y z)).y (r.at (gP x y z)).z (2 * r.w)
  have t2 := sx2 (M := M) (d := r.d) (r.at (gP x y z)).x (r.at (gP x y z)).y (r.at (gP x y z)).z (2 * r.w)
  have t3 := sx3 (M := M) (d := r.d) (r.at (gP x y z)).x (r.at (gP x y z)).y (r.at (gP x y z)).z (2 * r.w)
  rw [← t2, Int.mul_neg, ← t3, ← t1]
 ·rw [pass_tB hM.big m000 m011 m010]
  simp only [Nat.add_zero, Int.natCast_zero, Int.zero_mul, Int.add_zero, Int.natCast_one, Int.one_mul] at e011 e010 ⊢
  rw [e011, e010]
  have t3 := sx3 (M := M) (d := r.d) (r.at (gP x y z)).x (r.at (gP x y z)).y (r.at (gP x y z)).z (2 * r.w)
  have t4 := sx4 (M := M) (d := r.d) (r.at (gP x y z)).x (r.at (gP x y z)).y (r.at (gP x y z)).z (2 * r.w)
  have t5 := sx5 (M := M) (d := r.d) (r.at (gP x y z)).x (r.at (gP x y z)).y (r.at (gP x y z)).z (2 * r.w)
  rw [← t3, ← t4, ← t5]
end
def axX (M : Int) (r : RZ) (v : V3) : Ax := ⟨pX M (r.at v).x, pX M ((r.at v).x + 2 * r.w), r.d.x⟩
def axY (M : Int) (r : RZ) (v : V3) : Ax := ⟨pY M (r.at v).y, pY M ((r.at v).y + 2 * r.w), r.d.y⟩
def axZ (M : Int) (r : RZ) (v : V3) : Ax := ⟨pZ M (r.at v).z, pZ M ((r.at v).z + 2 * r.w), r.d.z⟩
def inC (r : RZ) (U : Int) : Prop := U ≤ 0 ∧ 0 < U + 2 * r.w
instance (r : RZ) (U : Int) : Decidable (inC r U) := by unfold inC; infer_instance
theorem grid_mem {r : RZ} {x y z : Nat} : ∀ i j k : Nat, i < 3 → j < 3 → k < 3 → r.at (gP (x + i) (y + j) (z + k)) ∈ (List.range 27).map fun n => r.at (gP (x + n % 3) (y + n / 3 % 3) (z + n / 9)) := fun i j k hi hj hk =>
 List.mem_map.2 ⟨i + 3 * j + 9 * k, List.mem_range.2 (by omega), by rw [show (i + 3 * j + 9 * k) % 3 = i by omega, show (i + 3 * j + 9 * k) / 3 % 3 = j by omega, show (i + 3 * j + 9 * k) / 9 = k by omega]⟩
theorem cube_in {r : RZ} (hp : permZ r = true) (x y z : Nat) : sumK (fun f => nFc (crN' r) f x y z) 6 % 2 = if inC r (r.at (gP x y z)).x ∧ inC r (r.at (gP x y z)).y ∧ inC r (r.at (gP x y z)).z then 1 else 0 := by
 have hw := perm_w hp
 have hd : r.d.isZ = false := by unfold permZ at hp; rw [Bool.and_eq_true, Bool.not_eq_true'] at hp; exact hp.2
 obtain ⟨M, hM⟩ := exists_bigC hd ((List.range 27).map fun n => r.at (gP (x + n % 3) (y + n / 3 % 3) (z + n / 9)))
 have hm := grid_mem (r := r) (x := x) (y := y) (z := z)
 have fz0 := face_z hp hM (x := x) (y := y) (z := z) fun i j k hi hj hk => hm i j k (by omega) (by omega) (by omega)
 have fz1 := face_z hp hM (x := x) (y := y) (z := z + 1) fun i j k hi hj hk => by rw [Nat.add_assoc, Nat.add_comm 1 k]; exact hm i j (k + 1) (by omega) (by omega) (by omega)
 have fy0 := face_y hp hM (x := x) (y := y) (z := z) fun i j k hi hj hk => hm i j k (by omega) (by omega) (by omega)
 have fy1 := face_y hp hM (x := x) (y := y + 1) (z := z) fun i j k hi hj hk => by rw [Nat.add_assoc, Nat.add_comm 1 j]; exact hm i (j + 1) k (by omega) (by omega) (by omega)
 have fx0 := face_x hp hM (x := x) (y := y) (z := z) fun i j k hi hj hk => hm i j k (by omega) (by omega) (by omega)
 have fx1 := face_x hp hM (x := x + 1) (y := y) (z := z) fun i j k hi hj hk => by rw [Nat.add_assoc, Nat.add_comm 1 i]; exact hm (i + 1) j k (by omega) (by omega) (by omega)
 have ez := at_g r x y z 0 0 1
 have ey := at_g r x y z 0 1 0
 have ex := at_g r x y z 1 0 0
 simp only [Nat.add_zero, Int.natCast_zero, Int.zero_mul, Int.add_zero, Int.natCast_one, Int.one_mul] at ez ey ex
 rw [ez] at fz1
 rw [ey] at fy1
 rw [ex] at fx1
 have h6 : sumK (fun f => nFc (crN' r) f x y z) 6 = six (axX M r (gP x y z)) (axY M r (gP x y z)) (axZ M r (gP x y z)) := by
  simp only [sumK, nFc, six, axX, axY, axZ]
  rw [fz0, fz1, fy0, fy1, fx0, fx1]
  simp only
  omega
 have M0 : 0 < M := by have := hM.m2; omega
 have sx := pX_sg hM.m2 (r.at (gP x y z)).x
 have sx' := pX_sg hM.m2 ((r.at (gP x y z)).x + 2 * r.w)
 have sy := pY_sg hM.m2 (r.at (gP x y z)).y
 have sy' := pY_sg hM.m2 ((r.at (gP x y z)).y + 2 * r.w)
 have sz := pZ_sg hM.m2 (r.at (gP x y z)).z
 have sz' := pZ_sg hM.m2 ((r.at (gP x y z)).z + 2 * r.w)
 have hMMM : 0 < M * M * M * (2 * r.w) := Int.mul_pos (Int.mul_pos (Int.mul_pos M0 M0) M0) (by omega)
 have okX : AxOk (axX M r (gP x y z)) := ⟨by show pX M _ < pX M _; unfold pX; rw [Int.mul_add]; omega, sx.1, sx'.1⟩
 have okY : AxOk (axY M r (gP x y z)) := ⟨by show pY M _ < pY M _; unfold pY; rw [Int.mul_add]; omega, sy.1, sy'.1⟩
 have okZ : AxOk (axZ M r (gP x y z)) := ⟨by show pZ M _ < pZ M _; unfold pZ; rw [Int.mul_add]; omega, sz.1, sz'.1⟩
 have gxy : Gen (axX M r (gP x y z)) (axY M r (gP x y z)) := fun h => ⟨gen_xy M0 hM.x hM.y h, gen_xy M0 hM.x hM.y h, gen_xy M0 hM.x hM.y h, gen_xy M0 hM.x hM.y h⟩
 have gyz : Gen (axY M r (gP x y z)) (axZ M r (gP x y z)) := fun h => ⟨gen_yz M0 hM.y hM.z h, gen_yz M0 hM.y hM.z h, gen_yz M0 hM.y hM.z h, gen_yz M0 hM.y hM.z h⟩
 have gxz : Gen (axX M r (gP x y z)) (axZ M r (gP x y z)) := fun h => ⟨gen_xz M0 hM.x hM.z h, gen_xz M0 hM.x hM.z h, gen_xz M0 hM.x hM.z h, gen_xz M0 hM.x hM.z h⟩
 have hz : ¬ (r.d.x = 0 ∧ r.d.y = 0 ∧ r.d.z = 0) := fun e => by
  unfold V3.isZ at hd; rw [e.1, e.2.1, e.2.2] at hd; cases hd
 have law := six_par okX okY okZ gxy gyz gxz hz
 rw [h6, law]
 have ix : inAx (axX M r (gP x y z)) ↔ inC r (r.at (gP x y z)).x := by
  show (pX M _ < 0 ∧ 0 < pX M _) ↔ _
  unfold inC; omega
 have iy : inAx (axY M r (gP x y z)) ↔ inC r (r.at (gP x y z)).y := by
  show (pY M _ < 0 ∧ 0 < pY M _) ↔ _
  unfold inC; omega
 have iz : inAx (axZ M r (gP x y z)) ↔ inC r (r.at (gP x y z)).z := by
  show (pZ M _ < 0 ∧ 0 < pZ M _) ↔ _
  unfold inC; omega
 simp only [ix, iy, iz]
theorem sumK_one {f : Nat → Nat} {K : Nat} {P : Prop} [Decidable P] : ∀ n, (∀ k, k < n → f k % 2 = if k = K ∧ P then 1 else 0) → sumK f n % 2 = if K < n ∧ P then 1 else 0
 | 0, _ => by rw [if_neg (by omega)]; rfl
 | n + 1, h => by
  have ih := sumK_one n fun k hk => h k (by omega)
  have h := h n (by omega)
  unfold sumK
  by_cases hP : P
  ·simp only [hP, and_true] at ih h ⊢
   by_cases e : n = K
   ·rw [if_pos e] at h; rw [if_neg (by omega)] at ih; rw [if_pos (by omega)]; omega
   ·rw [if_neg e] at h
    by_cases e2 : K < n
    ·rw [if_pos e2] at ih; rw [if_pos (by omega)]; omega
    ·rw [if_neg e2] at ih; rw [if_neg (by omega)]; omega
  ·simp only [hP, and_false, if_false] at ih h ⊢; omega
def cellZ (w n : Int) : Int := if n < 0 then -1 else n / (2 * w)
theorem inC_cell {r : RZ} (hw : 0 < r.w) (k : Nat) (n : Int) : inC r (2 * (k : Int) * r.w - n) ↔ cellZ r.w n = k := by
 unfold inC cellZ
 have e : 2 * (k : Int) * r.w = (k : Int) * (2 * r.w) := by grind
 rw [e]
 generalize hW : 2 * r.w = W
 have hk : 0 ≤ (k : Int) * W := Int.mul_nonneg (by omega) (by omega)
 by_cases h : n < 0
 ·rw [if_pos h]; omega
 ·rw [if_neg h]
  have : n / W = (k : Int) ↔ (k : Int) * W ≤ n ∧ n < ((k : Int) + 1) * W := by
   constructor
   ·intro e1
    rw [← e1]
    exact ⟨Int.ediv_mul_le n (by omega), Int.lt_ediv_add_one_mul_self n (by omega)⟩
   ·rintro ⟨h1, h2⟩
    have a1 := (Int.le_ediv_iff_mul_le (by omega : 0 < W)).2 h1
    have a2 := (Int.ediv_lt_iff_lt_mul (by omega : 0 < W)).2 h2
    omega
  rw [this, Int.add_mul, Int.one_mul]; omega
def wantB (b : Int) (r : RZ) : Bool := decide (0 ≤ cellZ r.w r.x ∧ 0 ≤ cellZ r.w r.y ∧ 0 ≤ cellZ r.w r.z ∧ cellZ r.w r.x < 3 ∧ cellZ r.w r.y < 3 ∧ cellZ r.w r.z < 3) && bs b ((cellZ r.w r.z * 3 + cellZ r.w r.y) * 3 + cellZ r.w r.x).toNat
theorem inside_par {r : RZ} (hp : permZ r = true) (b : Int) : sumN (crN' r) (voxL b 2 pt0 27) % 2 = if wantB b r = true then 1 else 0 := by
 have hw := perm_w hp
 rw [vox_par (crN' r) (fun a b c => by unfold crN'; rw [crossB_rot]) (fun a b c => by unfold crN'; rw [crossB_rev]) b]
 rw [sumK_one (K := ((cellZ r.w r.z * 3 + cellZ r.w r.y) * 3 + cellZ r.w r.x).toNat) (P := wantB b r = true) 27 fun k hk => ?_]
 ·by_cases h : wantB b r = true
  ·have h' := h
   unfold wantB at h'
   rw [Bool.and_eq_true, decide_eq_true_eq] at h'
   rw [if_pos h, if_pos ⟨by omega, h⟩]
  ·rw [if_neg h, if_neg fun e => h e.2]
 ·show (if bs b k = true then sumK (fun f => nFc (crN' r) f (k % 3) (k / 3 % 3) (k / 9)) 6 else 0) % 2 = _
  have c := cube_in hp (k % 3) (k / 3 % 3) (k / 9)
  have ex : (r.at (gP (k % 3) (k / 3 % 3) (k / 9))).x = 2 * ((k % 3 : Nat) : Int) * r.w - r.x := rfl
  have ey : (r.at (gP (k % 3) (k / 3 % 3) (k / 9))).y = 2 * ((k / 3 % 3 : Nat) : Int) * r.w - r.y := rfl
  have ez : (r.at (gP (k % 3) (k / 3 % 3) (k / 9))).z = 2 * ((k / 9 : Nat) : Int) * r.w - r.z := rfl
  rw [ex, ey, ez] at c
  simp only [inC_cell hw] at c
  by_cases hb : bs b k = true
  ·rw [if_pos hb, c]
   congr 1
   refine propext ⟨fun h => ?_, fun h => ?_⟩
   ·have hk2 : ((cellZ r.w r.z * 3 + cellZ r.w r.y) * 3 + cellZ r.w r.x).toNat = k := by rw [h.1, h.2.1, h.2.2]; omega
    refine ⟨hk2.symm, ?_⟩
    unfold wantB
    rw [hk2, hb, Bool.and_true, decide_eq_true_eq, h.1, h.2.1, h.2.2]
    omega
   ·obtain ⟨h1, h2⟩ := h
    unfold wantB at h2
    rw [Bool.and_eq_true, decide_eq_true_eq] at h2
    omega
  ·rw [if_neg hb, if_neg]
   rintro ⟨h1, h2⟩
   unfold wantB at h2
   rw [Bool.and_eq_true, ← h1] at h2
   exact hb h2.2
theorem sumN_at (R : RI) : ∀ l : List TR, ∀ m : List TR, cntK R (m ++ l) (m.length + l.length) = cntK R (m ++ l) m.length + sumN (crN' R.z3) l
 | [], m => rfl
 | t :: l, m => by
  have ih := sumN_at R l (m ++ [t])
  rw [List.append_assoc, List.length_append] at ih
  have e : m.length + (t :: l).length = m.length + [t].length + l.length := by simp only [List.length_cons, List.length_nil]; omega
  show cntK R (m ++ ([t] ++ l)) _ = cntK R (m ++ ([t] ++ l)) _ + (nT (crN' R.z3) t + sumN (crN' R.z3) l)
  rw [e, ih]
  have s := cntK_s R (m ++ ([t] ++ l)) m.length
  have c : cAt R (m ++ ([t] ++ l)) m.length = crB R t := by
   unfold cAt tAt
   rw [List.getElem?_append_right (Nat.le_refl _), Nat.sub_self]; rfl
  rw [c] at s
  have n : nT (crN' R.z3) t = if crB R t = true then 1 else 0 := rfl
  show cntK R (m ++ ([t] ++ l)) (m.length + 1) + _ = _
  rw [s, n]; omega
theorem cnt_sum (R : RI) (l : List TR) : cntK R l l.length = sumN (crN' R.z3) l := by
 have := sumN_at R l []
 simp only [List.nil_append, List.length_nil, Nat.zero_add] at this
 rw [this]; exact Nat.zero_add _
end Go.Proofs.YtefgchmbdijjdaaGreatDoor
