/- Triangles with the same corners, in plain words: the least corner first, the other two in order. -/
import Derived.Test.YtdjpbccaglkafaaDoorF1
namespace Go.Proofs.YtdjpbccaglkafaaDoor
open Go.RowKit

def eqB (p q : V3) : Bool := decide (p.x = q.x) && (decide (p.y = q.y) && decide (p.z = q.z))
theorem V3.ext' {p q : V3} (h1 : p.x = q.x) (h2 : p.y = q.y) (h3 : p.z = q.z) : p = q := by cases p; cases q; simp_all
theorem less_iff {p q : V3} : lessZ p q = true ↔ p.x < q.x ∨ (p.x = q.x ∧ (p.y < q.y ∨ (p.y = q.y ∧ p.z < q.z))) := by
  unfold lessZ
  by_cases h1 : p.x = q.x <;> by_cases h2 : p.y = q.y <;> by_cases h3 : p.z = q.z <;> simp [h1, h2, h3] <;> omega
theorem less_no {p q : V3} : lessZ p q = false ↔ ¬ (p.x < q.x ∨ (p.x = q.x ∧ (p.y < q.y ∨ (p.y = q.y ∧ p.z < q.z)))) := by
  rw [← less_iff]; simp
theorem eqB_iff {p q : V3} : eqB p q = true ↔ p = q := by
  unfold eqB
  simp only [Bool.and_eq_true, decide_eq_true_eq]
  exact ⟨fun h => V3.ext' h.1 h.2.1 h.2.2, fun h => by subst h; exact ⟨rfl, rfl, rfl⟩⟩
theorem lz_asym {p q : V3} (h : p ≠ q) : lessZ p q = !lessZ q p := by
  cases h1 : lessZ p q <;> cases h2 : lessZ q p <;> first | rfl | skip
  · rw [less_no] at h1 h2; exact absurd (V3.ext' (by omega) (by omega) (by omega)) h
  · rw [less_iff] at h1 h2; omega
theorem lz_trans {p q r : V3} (h1 : lessZ p q = true) (h2 : lessZ q r = true) : lessZ p r = true := by rw [less_iff] at *; omega
theorem lz_irr (p : V3) : lessZ p p = false := by rw [less_no]; omega
/-- corners in cyclic order, the least one first -/
def rotZ (a b c : V3) : V3 × V3 × V3 := cond (lessZ b a) (cond (lessZ c b) (c, a, b) (b, c, a)) (cond (lessZ c a) (c, a, b) (a, b, c))
def swZ (t : V3 × V3 × V3) : V3 × V3 × V3 := (t.1, t.2.2, t.2.1)
/-- what the map's key is -/
def keyZ (t : V3 × V3 × V3) : V3 × V3 × V3 := cond (lessZ t.2.2 t.2.1) (swZ t) t
structure Dst (a b c : V3) : Prop where
  ab : a ≠ b
  bc : b ≠ c
  ca : c ≠ a
theorem Dst.rot {a b c : V3} (h : Dst a b c) : Dst b c a := ⟨h.bc, h.ca, h.ab⟩
theorem Dst.sw {a b c : V3} (h : Dst a b c) : Dst a c b := ⟨h.ca.symm, h.bc.symm, h.ab.symm⟩
theorem no_ring {a b c : V3} (h1 : lessZ a b = true) (h2 : lessZ b c = true) (h3 : lessZ c a = true) : False := by
  have := lz_trans (lz_trans h1 h2) h3
  rw [lz_irr] at this; cases this
theorem rot_eq {a b c : V3} (h : Dst a b c) : rotZ b c a = rotZ a b c := by
  unfold rotZ
  rw [lz_asym h.ab, lz_asym h.ca.symm]
  cases x : lessZ b a <;> cases y : lessZ c b <;> cases z : lessZ c a <;> first | rfl | skip
  · exact (no_ring z (by rw [lz_asym h.ab, x]; rfl) (by rw [lz_asym h.bc, y]; rfl)).elim
  · exact (no_ring y x (by rw [lz_asym h.ca.symm, z]; rfl)).elim
theorem rot_mem (a b c : V3) : rotZ a b c = (a, b, c) ∨ rotZ a b c = (b, c, a) ∨ rotZ a b c = (c, a, b) := by
  unfold rotZ
  cases lessZ b a <;> cases lessZ c b <;> cases lessZ c a <;> simp
theorem rot_sw {a b c : V3} (h : Dst a b c) : rotZ a c b = swZ (rotZ a b c) := by
  unfold rotZ swZ
  rw [lz_asym h.bc]
  cases x : lessZ b a <;> cases y : lessZ c b <;> cases z : lessZ c a <;> first | rfl | skip
  · exact (no_ring z (by rw [lz_asym h.ab, x]; rfl) (by rw [lz_asym h.bc, y]; rfl)).elim
  · exact (no_ring x (by rw [lz_asym h.ca.symm, z]; rfl) y).elim
/-- how two triangles have the same corners -/
def alZ (a b c d e f : V3) : Int :=
  cond (eqB a d && (eqB b e && eqB c f)) 1 (cond (eqB a d && (eqB b f && eqB c e)) 2
    (cond (eqB a e && (eqB b f && eqB c d)) 1 (cond (eqB a e && (eqB b d && eqB c f)) 2
      (cond (eqB a f && (eqB b d && eqB c e)) 1 (cond (eqB a f && (eqB b e && eqB c d)) 2 0)))))
theorem eq3 {a b c d e f : V3} : (eqB a d && (eqB b e && eqB c f)) = true ↔ (a, b, c) = (d, e, f) := by
  simp only [Bool.and_eq_true, eqB_iff, Prod.mk.injEq]
theorem al_b1 : ∀ x1 x2 x3 x4 x5 x6 : Bool, (!(x2 && x3) && (!(x2 && x5) && !(x4 && x5))) = true → ((cond x1 (1 : Int) (cond x2 2 (cond x3 1 (cond x4 2 (cond x5 1 (cond x6 2 0))))) = 1) ↔ (x1 = true ∨ x3 = true ∨ x5 = true)) := by decide
theorem al_b2 : ∀ x1 x2 x3 x4 x5 x6 : Bool, (!(x1 && x2) && (!(x1 && x4) && (!(x1 && x6) && (!(x3 && x4) && (!(x3 && x6) && !(x5 && x6)))))) = true → ((cond x1 (1 : Int) (cond x2 2 (cond x3 1 (cond x4 2 (cond x5 1 (cond x6 2 0))))) = 2) ↔ (x2 = true ∨ x4 = true ∨ x6 = true)) := by decide
theorem excl {X Y : Bool} (h : X = true → Y = true → False) : (!(X && Y)) = true := by
  cases X <;> cases Y <;> first | rfl | exact (h rfl rfl).elim
theorem al_one {a b c d e f : V3} (h : Dst a b c) : alZ a b c d e f = 1 ↔ ((a, b, c) = (d, e, f) ∨ (a, b, c) = (e, f, d) ∨ (a, b, c) = (f, d, e)) := by
  rw [← eq3, ← eq3, ← eq3]
  refine al_b1 _ _ _ _ _ _ ?_
  simp only [Bool.and_eq_true]
  refine ⟨excl fun p q => ?_, excl fun p q => ?_, excl fun p q => ?_⟩ <;> rw [eq3] at p q <;> simp only [Prod.mk.injEq] at p q
  · exact h.ca (p.2.2.trans q.1.symm)
  · exact h.ab (q.1.trans p.2.1.symm)
  · exact h.ca (p.2.2.trans q.1.symm)
theorem al_two {a b c d e f : V3} (h : Dst a b c) : alZ a b c d e f = 2 ↔ ((a, b, c) = (d, f, e) ∨ (a, b, c) = (e, d, f) ∨ (a, b, c) = (f, e, d)) := by
  rw [← eq3, ← eq3, ← eq3]
  refine al_b2 _ _ _ _ _ _ ?_
  simp only [Bool.and_eq_true]
  refine ⟨excl fun p q => ?_, excl fun p q => ?_, excl fun p q => ?_, excl fun p q => ?_, excl fun p q => ?_, excl fun p q => ?_⟩ <;> rw [eq3] at p q <;> simp only [Prod.mk.injEq] at p q
  · exact h.bc (q.2.1.trans p.2.2.symm)
  · exact h.ab (p.1.trans q.2.1.symm)
  · exact h.ca (q.2.2.trans p.1.symm)
  · exact h.bc (q.2.1.trans p.2.2.symm)
  · exact h.ab (q.1.trans p.2.1.symm)
  · exact h.bc (q.2.1.trans p.2.2.symm)
theorem rot_iff {a b c d e f : V3} (g : Dst d e f) : rotZ a b c = rotZ d e f ↔ ((a, b, c) = (d, e, f) ∨ (a, b, c) = (e, f, d) ∨ (a, b, c) = (f, d, e)) := by
  constructor
  · intro k
    rcases rot_mem a b c with k1 | k1 | k1 <;> rcases rot_mem d e f with k2 | k2 | k2 <;> rw [k1, k2] at k <;> simp only [Prod.mk.injEq] at k ⊢ <;> obtain ⟨rfl, rfl, rfl⟩ := k <;> simp
  · rintro (k | k | k) <;> cases k
    · rfl
    · exact rot_eq g
    · exact (rot_eq g.rot).trans (rot_eq g)
theorem sw_iff {a b c d e f : V3} (g : Dst d e f) : rotZ a b c = swZ (rotZ d e f) ↔ ((a, b, c) = (d, f, e) ∨ (a, b, c) = (e, d, f) ∨ (a, b, c) = (f, e, d)) := by
  rw [← rot_sw g, rot_iff g.sw]
  constructor
  · rintro (k | k | k)
    · exact .inl k
    · exact .inr (.inr k)
    · exact .inr (.inl k)
  · rintro (k | k | k)
    · exact .inl k
    · exact .inr (.inr k)
    · exact .inr (.inl k)
theorem rot_dst {a b c : V3} (h : Dst a b c) : (rotZ a b c).2.1 ≠ (rotZ a b c).2.2 := by
  rcases rot_mem a b c with k | k | k <;> rw [k]
  · exact h.bc
  · exact h.ca
  · exact h.ab
theorem key_iff {s t : V3 × V3 × V3} (hs : s.2.1 ≠ s.2.2) (ht : t.2.1 ≠ t.2.2) : keyZ s = keyZ t ↔ s = t ∨ s = swZ t := by
  obtain ⟨a, b, c⟩ := s
  obtain ⟨d, e, f⟩ := t
  unfold keyZ swZ
  simp only at *
  have h1 := lz_asym hs; have h2 := lz_asym ht
  cases x : lessZ c b <;> cases y : lessZ f e <;> simp only [cond_true, cond_false, Prod.mk.injEq] <;> rw [x] at h1 <;> rw [y] at h2
  · constructor
    · exact .inl
    · rintro (k | ⟨rfl, rfl, rfl⟩)
      · exact k
      · rw [h2] at x; cases x
  · constructor
    · exact .inr
    · rintro (⟨rfl, rfl, rfl⟩ | k)
      · rw [x] at y; cases y
      · exact k
  · constructor
    · rintro ⟨rfl, rfl, rfl⟩; exact .inr ⟨rfl, rfl, rfl⟩
    · rintro (⟨rfl, rfl, rfl⟩ | ⟨rfl, rfl, rfl⟩)
      · rw [x] at y; cases y
      · exact ⟨rfl, rfl, rfl⟩
  · constructor
    · rintro ⟨rfl, rfl, rfl⟩; exact .inl ⟨rfl, rfl, rfl⟩
    · rintro (⟨rfl, rfl, rfl⟩ | ⟨rfl, rfl, rfl⟩)
      · exact ⟨rfl, rfl, rfl⟩
      · rw [h2] at x; cases x
/-- the map finds a triangle exactly if the reference does, and says the same of its order -/
theorem known_iff {a b c d e f : V3} (h : Dst a b c) (g : Dst d e f) : (keyZ (rotZ a b c) = keyZ (rotZ d e f) ↔ alZ a b c d e f = 1 ∨ alZ a b c d e f = 2) ∧ (rotZ a b c = rotZ d e f ↔ alZ a b c d e f = 1) := by
  rw [key_iff (rot_dst h) (rot_dst g), rot_iff g, sw_iff g, al_one h, al_two h]
  exact ⟨Iff.rfl, Iff.rfl⟩
end Go.Proofs.YtdjpbccaglkafaaDoor
