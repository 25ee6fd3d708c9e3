/- Plain laws of RayHits: the shapes are small, and what each round keeps. -/
import Derived.Test.YtefgchmbdijjdaaGreatDoorHit
import Derived.Test.YtefgchmbdijjdaaGreatDoorRyc
import Derived.Test.YtefgchmbdijjdaaGreatDoorRyd
namespace Go.Proofs.YtefgchmbdijjdaaGreatDoor
open Go.RowKit
set_option maxRecDepth 100000

structure SmP (p : PT) : Prop where
 x : -1000 ≤ p.x ∧ p.x ≤ 1000
 y : -1000 ≤ p.y ∧ p.y ≤ 1000
 z : -1000 ≤ p.z ∧ p.z ≤ 1000
structure SmT (t : TR) : Prop where
 a : SmP t.a
 b : SmP t.b
 c : SmP t.c
theorem quadL_sm {a b c d : PT} (ha : SmP a) (hb : SmP b) (hc : SmP c) (hd : SmP d) : ∀ t ∈ quadL a b c d, SmT t := by
 intro t ht
 simp only [quadL, List.mem_cons, List.not_mem_nil, or_false] at ht
 rcases ht with rfl | rfl
 ·exact ⟨ha, hb, hc⟩
 ·exact ⟨ha, hc, hd⟩
theorem w_id {x : Int} (h : -100000 ≤ x ∧ x ≤ 100000) : IntKind.i64.wrap x = x := wrap_id (by unfold IR; omega)
structure SmQ (p : PT) : Prop where
 x : -100 ≤ p.x ∧ p.x ≤ 100
 y : -100 ≤ p.y ∧ p.y ≤ 100
 z : -100 ≤ p.z ∧ p.z ≤ 100
theorem crn_sm {p : PT} (h : SmQ p) {n : Nat} (hn : n < 8) : SmP (crn p 2 n) := by
 obtain ⟨hx, hy, hz⟩ := h
 have h1 : n % 2 < 2 := Nat.mod_lt _ (by decide)
 have h2 : n / 2 % 2 < 2 := Nat.mod_lt _ (by decide)
 have h3 : n / 4 < 2 := by omega
 refine ⟨?_, ?_, ?_⟩ <;> simp only [crn]
 ·generalize n % 2 = a at *
  rw [w_id (x := (a : Int) * 2) (by omega), w_id (by omega)]; omega
 ·generalize n / 2 % 2 = a at *
  rw [w_id (x := (a : Int) * 2) (by omega), w_id (by omega)]; omega
 ·generalize n / 4 = a at *
  rw [w_id (x := (a : Int) * 2) (by omega), w_id (by omega)]; omega
theorem cubeL_sm {p : PT} (h : SmQ p) : ∀ t ∈ cubeL p 2, SmT t := by
 intro t ht
 have c : ∀ n, n < 8 → SmP (crn p 2 n) := fun n hn => crn_sm h hn
 simp only [cubeL, List.mem_append] at ht
 rcases ht with ((((ht | ht) | ht) | ht) | ht) | ht <;> exact quadL_sm (c _ (by decide)) (c _ (by decide)) (c _ (by decide)) (c _ (by decide)) t ht
theorem triD_sm {l : List TR} (h : ∀ t ∈ l, SmT t) (i : Nat) : SmT (triD l i) := by
 unfold triD
 cases e : l[i]? with
 | none => exact ⟨⟨by decide, by decide, by decide⟩, ⟨by decide, by decide, by decide⟩, ⟨by decide, by decide, by decide⟩⟩
 | some t => exact h t (List.mem_of_getElem? e)
theorem facesL_sm {b x y z : Int} {C : List TR} (h : ∀ t ∈ C, SmT t) : ∀ f, ∀ t ∈ facesL b C x y z f, SmT t
 | 0 => fun t ht => nomatch ht
 | f + 1 => fun t ht => by
  unfold facesL at ht
  rcases List.mem_append.1 ht with ht | ht
  ·exact facesL_sm h f t ht
  ·split at ht
   ·simp only [List.mem_cons, List.not_mem_nil, or_false] at ht
    rcases ht with rfl | rfl <;> exact triD_sm h _
   ·exact nomatch ht
theorem vox_sm {p : PT} (hp : p.x = 0 ∧ p.y = 0 ∧ p.z = 0) {k : Nat} (hk : k < 27) : SmQ (voxP p 2 k) := by
 have e : vxX k = ((k % 3 : Nat) : Int) ∧ vxY k = ((k / 3 % 3 : Nat) : Int) ∧ vxZ k = ((k / 9 : Nat) : Int) := by
  unfold vxX vxY vxZ
  rw [Int.tdiv_eq_ediv_of_nonneg (by omega), Int.tdiv_eq_ediv_of_nonneg (by omega), w_id (x := (k : Int) / 3) (by omega), w_id (x := (k : Int) / 9) (by omega), Int.tmod_eq_emod_of_nonneg (by omega), Int.tmod_eq_emod_of_nonneg (by omega)]
  omega
 refine ⟨?_, ?_, ?_⟩ <;> simp only [voxP]
 ·rw [e.1, hp.1, w_id (x := ((k % 3 : Nat) : Int) * 2) (by omega), w_id (by omega)]; omega
 ·rw [e.2.1, hp.2.1, w_id (x := ((k / 3 % 3 : Nat) : Int) * 2) (by omega), w_id (by omega)]; omega
 ·rw [e.2.2, hp.2.2, w_id (x := ((k / 9 : Nat) : Int) * 2) (by omega), w_id (by omega)]; omega
theorem voxL_sm {b : Int} {p : PT} (hp : p.x = 0 ∧ p.y = 0 ∧ p.z = 0) : ∀ k, k ≤ 27 → ∀ t ∈ voxL b 2 p k, SmT t
 | 0, _ => fun t ht => nomatch ht
 | k + 1, hk => fun t ht => by
  unfold voxL at ht
  rcases List.mem_append.1 ht with ht | ht
  ·exact voxL_sm hp k (by omega) t ht
  ·split at ht
   ·exact nomatch ht
   ·exact facesL_sm (cubeL_sm (vox_sm hp (by omega))) 6 t ht
theorem hgt_sm (L : List ZI) (len x y : Nat) : -100 ≤ hgt L len x y ∧ hgt L len x y ≤ 100 := by
 unfold hgt; split
 ·have h1 := Int.lt_tmod_of_pos (IntKind.i64.wrap ((((L[(y * 7 + x) % len]?).map ZI.x).getD 0).tmod 64 + 64)) (show (0 : Int) < 64 by decide)
  have h2 := Int.tmod_lt_of_pos (IntKind.i64.wrap ((((L[(y * 7 + x) % len]?).map ZI.x).getD 0).tmod 64 + 64)) (show (0 : Int) < 64 by decide)
  omega
 ·decide
theorem hillP_sm (L : List ZI) (len : Nat) {x y : Nat} (hx : x ≤ 10) (hy : y ≤ 10) : SmP (hillP 2 L len x y) := by
 have h := hgt_sm L len x y
 refine ⟨?_, ?_, ?_⟩ <;> simp only [hillP]
 ·rw [w_id (by omega)]; omega
 ·rw [w_id (by omega)]; omega
 ·rw [w_id (by omega)]; omega
theorem hrow_sm (L : List ZI) (len : Nat) {y : Nat} (hy : y ≤ 9) : ∀ x, x ≤ 9 → ∀ t ∈ hrow 2 L len y x, SmT t
 | 0, _ => fun t ht => nomatch ht
 | x + 1, hx => fun t ht => by
  unfold hrow at ht
  rcases List.mem_append.1 ht with ht | ht
  ·exact hrow_sm L len hy x (by omega) t ht
  ·exact quadL_sm (hillP_sm L len (by omega) (by omega)) (hillP_sm L len (by omega) (by omega)) (hillP_sm L len (by omega) (by omega)) (hillP_sm L len (by omega) (by omega)) t ht
theorem hills_sm (L : List ZI) (len : Nat) {M : Nat} (hM : M ≤ 9) : ∀ y, y ≤ 9 → ∀ t ∈ hillsL 2 L len M y, SmT t
 | 0, _ => fun t ht => nomatch ht
 | y + 1, hy => fun t ht => by
  unfold hillsL at ht
  rcases List.mem_append.1 ht with ht | ht
  ·exact hills_sm L len hM y (by omega) t ht
  ·exact hrow_sm L len (by omega) M hM t ht
theorem shp_sm (b : Int) (L : List ZI) (len : Nat) : ∀ t ∈ shpL b L len, SmT t := by
 have h := (hM_eq (IntKind.i64.wrap (b.tmod 4))).2
 unfold shpL; split
 ·exact hills_sm L _ (by omega) _ (by omega)
 ·exact voxL_sm ⟨rfl,rfl,rfl⟩ 27 (Nat.le_refl _)
end Go.Proofs.YtefgchmbdijjdaaGreatDoor
