/- A segment through a point of a triangle touches it, in plain words. -/
import Derived.Test.YtmooplnklcgfjaaGreatDoorE2
namespace Go.Proofs.YtmooplnklcgfjaaGreatDoor
open Go.RowKit

def lexN (e : V3) : Prop := 0 < e.x ∨ (e.x = 0 ∧ (0 < e.y ∨ (e.y = 0 ∧ 0 ≤ e.z)))
theorem less_lex {p q : V3} : lessZ p q = false ↔ lexN (p.sub q) := by
  rw [less_no]; unfold lexN V3.sub; simp only; omega
theorem lexN_sg {e : V3} : lexN e ↔ (0 < e.x.sign ∨ (e.x.sign = 0 ∧ (0 < e.y.sign ∨ (e.y.sign = 0 ∧ 0 ≤ e.z.sign)))) := by
  unfold lexN
  rcases sg3 e.x with ⟨h, k⟩ | ⟨h, k⟩ | ⟨h, k⟩ <;> rcases sg3 e.y with ⟨h1, k1⟩ | ⟨h1, k1⟩ | ⟨h1, k1⟩ <;> rcases sg3 e.z with ⟨h2, k2⟩ | ⟨h2, k2⟩ | ⟨h2, k2⟩ <;> rw [k, k1, k2] <;> omega
theorem lexN_scl {e : V3} {w : Int} (hw : 0 < w) : lexN (e.scl w) ↔ lexN e := by
  rw [lexN_sg, lexN_sg]
  unfold V3.scl
  simp only [sign_scl hw]
theorem lexN_scl0 {e : V3} {w : Int} (hw : 0 ≤ w) (h : lexN e) : lexN (e.scl w) := by
  rcases Int.lt_or_eq_of_le hw with g | g
  · exact (lexN_scl g).2 h
  · subst g; unfold lexN V3.scl; simp
theorem lexN_add {e f g : V3} (he : lexN e) (hf : lexN f) (hx : g.x = e.x + f.x) (hy : g.y = e.y + f.y) (hz : g.z = e.z + f.z) : lexN g := by
  unfold lexN at *; omega
theorem sq_0 (x : Int) : 0 ≤ x * x := by
  rcases Int.le_total 0 x with h | h
  · exact Int.mul_nonneg h h
  · exact Int.mul_nonneg_of_nonpos_of_nonpos h h
theorem sq_1 {x : Int} (h : x * x = 0) : x = 0 := by rcases Int.mul_eq_zero.1 h with h | h <;> exact h
theorem dd_nn (e : V3) : 0 ≤ e.dot e := by
  have h1 := sq_0 e.x; have h2 := sq_0 e.y; have h3 := sq_0 e.z
  unfold V3.dot; omega
theorem dd_z {e : V3} (h : e.dot e ≤ 0) : e.x = 0 ∧ e.y = 0 ∧ e.z = 0 := by
  have h1 := sq_0 e.x; have h2 := sq_0 e.y; have h3 := sq_0 e.z
  unfold V3.dot at h
  exact ⟨sq_1 (by omega), sq_1 (by omega), sq_1 (by omega)⟩
def zV (e : V3) : Prop := e.x = 0 ∧ e.y = 0 ∧ e.z = 0
/-- along one line: how one vector follows from the other -/
theorem lin {e f : V3} (h : zV (e.cross f)) : f.x * e.dot e = e.dot f * e.x ∧ f.y * e.dot e = e.dot f * e.y ∧ f.z * e.dot e = e.dot f * e.z := by
  obtain ⟨h1, h2, h3⟩ := h
  have k1 : f.x * e.dot e - e.dot f * e.x = e.z * (e.cross f).y - e.y * (e.cross f).z := by unfold V3.dot V3.cross; grind
  have k2 : f.y * e.dot e - e.dot f * e.y = e.x * (e.cross f).z - e.z * (e.cross f).x := by unfold V3.dot V3.cross; grind
  have k3 : f.z * e.dot e - e.dot f * e.z = e.y * (e.cross f).x - e.x * (e.cross f).y := by unfold V3.dot V3.cross; grind
  rw [h1, h2, h3] at *
  rw [Int.mul_zero, Int.mul_zero] at k1 k2 k3
  omega
theorem neg_no {f d t x : Int} (h : f * d = t * x) (hf : 0 ≤ f) (hd : 0 ≤ d) (ht : t < 0) (hx : 0 < x) : False := by
  have h1 := Int.mul_nonneg hf hd
  have h2 := Int.mul_neg_of_neg_of_pos ht hx
  omega
theorem lex_dot {e f : V3} (h : zV (e.cross f)) (he : lexN e) (hf : lexN f) : 0 ≤ e.dot f := by
  refine Decidable.byContradiction fun hn => ?_
  have ht : e.dot f < 0 := by omega
  obtain ⟨l1, l2, l3⟩ := lin h
  have hd := dd_nn e
  have he0 : e.dot e ≠ 0 := fun g => by
    obtain ⟨z1, z2, z3⟩ := dd_z (e := e) (by omega)
    have : e.dot f = 0 := by unfold V3.dot; rw [z1, z2, z3]; simp
    omega
  unfold lexN at he hf
  rcases he with he | ⟨e0, he | ⟨e1, he⟩⟩
  · exact neg_no l1 (by omega) hd ht he
  · rw [e0, Int.mul_zero] at l1
    have f0 := zero_of l1 he0
    exact neg_no l2 (by omega) hd ht he
  · rw [e0, Int.mul_zero] at l1
    rw [e1, Int.mul_zero] at l2
    have f0 := zero_of l1 he0
    have f1 := zero_of l2 he0
    by_cases e2 : e.z = 0
    · exact he0 (by unfold V3.dot; rw [e0, e1, e2]; simp)
    · exact neg_no l3 (by omega) hd ht (by omega)
theorem at_z {e : V3} (h : zV e) (k : Nat) : e.at k = 0 := by
  match k with
  | 0 => exact h.1
  | 1 => exact h.2.1
  | _ + 2 => exact h.2.2
theorem at_lin {w u v : V3} {d t : Int} (h1 : v.x * d = t * u.x) (h2 : v.y * d = t * u.y) (h3 : v.z * d = t * u.z) (k : Nat) : d * (w.cross v).at k = t * (w.cross u).at k := by
  match k with
  | 0 => show d * (w.y * v.z - w.z * v.y) = t * (w.y * u.z - w.z * u.y); grind
  | 1 => show d * (w.z * v.x - w.x * v.z) = t * (w.z * u.x - w.x * u.z); grind
  | _ + 2 => show d * (w.x * v.y - w.y * v.x) = t * (w.x * u.y - w.y * u.x); grind
theorem cross_0 {w u : V3} (h : zV u) : zV (w.cross u) := by
  obtain ⟨h1, h2, h3⟩ := h
  unfold zV V3.cross; rw [h1, h2, h3]; simp
theorem opp {w u v : V3} (h : zV (u.cross v)) (hd : u.dot v ≤ 0) (k : Nat) : ¬ (0 < (w.cross u).at k ∧ 0 < (w.cross v).at k) ∧ ¬ ((w.cross u).at k < 0 ∧ (w.cross v).at k < 0) := by
  obtain ⟨l1, l2, l3⟩ := lin h
  have e := at_lin (w := w) l1 l2 l3 k
  by_cases h0 : u.dot u = 0
  · have z := at_z (cross_0 (w := w) (dd_z (e := u) (by omega))) k
    rw [z]; omega
  · have hp : 0 < u.dot u := by have := dd_nn u; omega
    generalize (w.cross u).at k = X at *
    generalize (w.cross v).at k = Y at *
    refine ⟨fun g => ?_, fun g => ?_⟩
    · have h1 := Int.mul_pos hp g.2
      have h2 := Int.mul_nonneg (by omega : 0 ≤ -u.dot v) (by omega : 0 ≤ X)
      rw [Int.neg_mul] at h2; omega
    · have h1 := Int.mul_neg_of_pos_of_neg hp g.2
      have h2 := Int.mul_nonneg_of_nonpos_of_nonpos hd (by omega : X ≤ 0)
      omega
theorem zV_of {v : V3} (h : axZ v = 3) : zV v := by
  rcases ax_spec v with ⟨-, g⟩ | ⟨g, -⟩ | ⟨g, -⟩ | ⟨g, -⟩
  · exact g
  all_goals omega
theorem isZ_of {v : V3} : v.isZ = true ↔ zV v := by unfold V3.isZ zV; simp
/-- a segment from a point of another one crosses it -/
theorem cross_on {p q r s : V3} (hc : zV ((r.sub p).cross (s.sub p))) (hd : (r.sub p).dot (s.sub p) ≤ 0) (h1 : lessZ p r = false) (h2 : lessZ s p = false) : crossV p q r s = true := by
  have hc0 := hc
  obtain ⟨c1, c2, c3⟩ := hc
  unfold crossV
  split
  · rename_i hax
    have hw := zV_of hax
    have hu : zV ((q.sub p).cross (r.sub p)) := by
      obtain ⟨l1, l2, l3⟩ := lin hc0
      by_cases h0 : (r.sub p).dot (r.sub p) = 0
      · exact cross_0 (dd_z (by omega))
      · have hp := dd_nn (r.sub p)
        have key : ∀ k, ((q.sub p).cross (r.sub p)).at k = 0 := fun k => by
          have e := at_lin (w := q.sub p) l1 l2 l3 k
          have z := at_z hw k
          have z : ((q.sub p).cross (s.sub p)).at k = ((q.sub p).cross (r.sub p)).at k := by
            have : (crZ p q r s).at k = ((q.sub p).cross (s.sub p)).at k - ((q.sub p).cross (r.sub p)).at k := by
              match k with
              | 0 => simp only [crZ, V3.at, V3.cross, V3.sub]; grind
              | 1 => simp only [crZ, V3.at, V3.cross, V3.sub]; grind
              | _ + 2 => simp only [crZ, V3.at, V3.cross, V3.sub]; grind
            omega
          rw [z] at e
          have : ((q.sub p).cross (r.sub p)).at k * ((r.sub p).dot (r.sub p) - (r.sub p).dot (s.sub p)) = 0 := by grind
          exact zero_of this (by omega)
        exact ⟨key 0, key 1, key 2⟩
    have hrs : lessZ s r = false := by rw [less_no] at *; omega
    have m1 : minZ r s = r := min_f hrs
    have m2 : maxZ r s = s := max_f hrs
    unfold parB
    rw [m1, m2]
    obtain ⟨u1, u2, u3⟩ := hu
    have fl : (cond (eqB (minZ p q) (maxZ p q)) (normZ r s (minZ p q)).isZ (normZ (minZ p q) (maxZ p q) r).isZ) = true := by
      cases he : eqB (minZ p q) (maxZ p q)
      · rw [cond_false, isZ_of]
        cases hl : lessZ q p
        · rw [min_f hl, max_f hl]
          exact ⟨u1, u2, u3⟩
        · rw [min_t hl, max_t hl]
          simp only [V3.cross, V3.sub] at u1 u2 u3
          refine ⟨?_, ?_, ?_⟩ <;> simp only [normZ, V3.cross, V3.sub] <;> grind
      · rw [cond_true, isZ_of]
        have e := eqB_iff.1 he
        have : minZ p q = p := by
          cases hl : lessZ q p
          · exact min_f hl
          · rw [min_t hl, max_t hl] at e; rw [min_t hl]; exact e
        rw [this]
        simp only [V3.cross, V3.sub] at c1 c2 c3
        refine ⟨?_, ?_, ?_⟩ <;> simp only [normZ, V3.cross, V3.sub] <;> grind
    rw [fl, Bool.true_and, Bool.and_eq_true, Bool.not_eq_true', Bool.not_eq_true']
    cases hl : lessZ q p
    · rw [min_f hl, max_f hl]
      clear fl hw hc0 hd
      simp only [less_no] at *; omega
    · rw [min_t hl, max_t hl]
      clear fl hw hc0 hd
      simp only [less_no, less_iff] at *; omega
  · rw [npar_iff]
    generalize axZ (crZ p q r s) = k
    rw [← at_o2, ← at_o2, ← at_o2, ← at_o2]
    refine ⟨?_, opp (w := q.sub p) hc0 hd k, ?_⟩
    · have : detZ p q r s = (q.sub p).dot ((r.sub p).cross (s.sub p)) := by simp only [detZ, normZ, V3.dot, V3.cross, V3.sub]; grind
      rw [this]; unfold V3.dot; rw [c1, c2, c3]; simp
    · have z : (crZ r s r p).at k = 0 := by
        refine at_z ⟨?_, ?_, ?_⟩ k <;> simp only [V3.cross, V3.sub] at c1 c2 c3 <;> simp only [crZ, V3.cross, V3.sub] <;> grind
      rw [z]; omega
/-- a point of a triangle, by the weights of the corners -/
structure Hull (w1 w2 w3 : Int) (p a b c : V3) : Prop where
  h1 : 0 ≤ w1
  h2 : 0 ≤ w2
  h3 : 0 ≤ w3
  hs : 0 < w1 + w2 + w3
  ex : (w1 + w2 + w3) * p.x = w1 * a.x + w2 * b.x + w3 * c.x
  ey : (w1 + w2 + w3) * p.y = w1 * a.y + w2 * b.y + w3 * c.y
  ez : (w1 + w2 + w3) * p.z = w1 * a.z + w2 * b.z + w3 * c.z
theorem Hull.rot {w1 w2 w3 : Int} {p a b c : V3} (h : Hull w1 w2 w3 p a b c) : Hull w2 w3 w1 p b c a := by
  obtain ⟨h1, h2, h3, hs, ex, ey, ez⟩ := h
  have e : w2 + w3 + w1 = w1 + w2 + w3 := by omega
  exact ⟨h2, h3, h1, by omega, by rw [e]; omega, by rw [e]; omega, by rw [e]; omega⟩
theorem Hull.sw {w1 w2 w3 : Int} {p a b c : V3} (h : Hull w1 w2 w3 p a b c) : Hull w2 w1 w3 p b a c := by
  obtain ⟨h1, h2, h3, hs, ex, ey, ez⟩ := h
  have e : w2 + w1 + w3 = w1 + w2 + w3 := by omega
  exact ⟨h2, h1, h3, by omega, by rw [e]; omega, by rw [e]; omega, by rw [e]; omega⟩
theorem sq_can {s x : Int} (hs : 0 < s) (h : s * (s * x) ≤ 0) : x ≤ 0 := by
  have := (pos_of hs rfl).2 h
  exact (pos_of hs rfl).2 this
theorem sq_can0 {s x : Int} (hs : 0 < s) (h : s * (s * x) = 0) : x = 0 := by
  rcases Int.mul_eq_zero.1 h with h | h
  · omega
  · rcases Int.mul_eq_zero.1 h with h | h
    · omega
    · exact h
theorem zV_bc {a b c : V3} (h : zV (normZ a b c)) : zV ((b.sub a).cross (c.sub b)) := by
  obtain ⟨h1, h2, h3⟩ := h
  simp only [normZ, V3.cross, V3.sub] at h1 h2 h3
  refine ⟨?_, ?_, ?_⟩ <;> simp only [V3.cross, V3.sub] <;> grind
theorem zV_cc {a b c : V3} (h : zV (normZ a b c)) : zV ((c.sub a).cross (c.sub b)) := by
  obtain ⟨h1, h2, h3⟩ := h
  simp only [normZ, V3.cross, V3.sub] at h1 h2 h3
  refine ⟨?_, ?_, ?_⟩ <;> simp only [V3.cross, V3.sub] <;> grind
/-- a flat triangle, its corners in order -/
theorem flat_on {w1 w2 w3 : Int} {p q a b c : V3} (h : Hull w1 w2 w3 p a b c) (hn : zV (normZ a b c)) (hab : lessZ b a = false) (hbc : lessZ c b = false) : crossV p q a c = true := by
  obtain ⟨h1, h2, h3, hs, ex, ey, ez⟩ := h
  have hac : lessZ c a = false := by rw [less_no] at *; omega
  generalize hS : w1 + w2 + w3 = S at *
  -- S (a - p), S (c - p)
  have ax : S * (a.x - p.x) = -(w2 * (b.x - a.x) + w3 * (c.x - a.x)) := by subst hS; grind
  have ay : S * (a.y - p.y) = -(w2 * (b.y - a.y) + w3 * (c.y - a.y)) := by subst hS; grind
  have az : S * (a.z - p.z) = -(w2 * (b.z - a.z) + w3 * (c.z - a.z)) := by subst hS; grind
  have cx : S * (c.x - p.x) = w1 * (c.x - a.x) + w2 * (c.x - b.x) := by subst hS; grind
  have cy : S * (c.y - p.y) = w1 * (c.y - a.y) + w2 * (c.y - b.y) := by subst hS; grind
  have cz : S * (c.z - p.z) = w1 * (c.z - a.z) + w2 * (c.z - b.z) := by subst hS; grind
  have hn0 := hn
  obtain ⟨n1, n2, n3⟩ := hn
  simp only [normZ, V3.cross, V3.sub] at n1 n2 n3
  have two : ∀ {A B C D n : Int} {x1 x2 y1 y2 z1 z2 u1 u2 : Int}, S * A = -(w2 * x1 + w3 * x2) → S * B = w1 * y2 + w2 * (y2 - y1) → S * C = -(w2 * y1 + w3 * y2) → S * D = w1 * x2 + w2 * (x2 - x1) → x1 * y2 - y1 * x2 = 0 → A * B - C * D = 0 := by
    intro A B C D n x1 x2 y1 y2 z1 z2 u1 u2 e1 e2 e3 e4 e5
    refine sq_can0 hs ?_
    have : S * (S * (A * B - C * D)) = (S * A) * (S * B) - (S * C) * (S * D) := by grind
    rw [this, e1, e2, e3, e4]
    grind
  have hB : lexN (b.sub a) := less_lex.1 hab
  have hC : lexN (c.sub a) := less_lex.1 hac
  have hD : lexN (c.sub b) := less_lex.1 hbc
  refine cross_on ⟨?_, ?_, ?_⟩ ?_ ?_ ?_
  · exact two (n := 0) (z1 := 0) (z2 := 0) (u1 := 0) (u2 := 0) (x1 := b.y - a.y) (x2 := c.y - a.y) (y1 := b.z - a.z) (y2 := c.z - a.z) ay (by rw [show c.z - a.z - (b.z - a.z) = c.z - b.z by omega]; exact cz) az (by rw [show c.y - a.y - (b.y - a.y) = c.y - b.y by omega]; exact cy) n1
  · exact two (n := 0) (z1 := 0) (z2 := 0) (u1 := 0) (u2 := 0) (x1 := b.z - a.z) (x2 := c.z - a.z) (y1 := b.x - a.x) (y2 := c.x - a.x) az (by rw [show c.x - a.x - (b.x - a.x) = c.x - b.x by omega]; exact cx) ax (by rw [show c.z - a.z - (b.z - a.z) = c.z - b.z by omega]; exact cz) n2
  · exact two (n := 0) (z1 := 0) (z2 := 0) (u1 := 0) (u2 := 0) (x1 := b.x - a.x) (x2 := c.x - a.x) (y1 := b.y - a.y) (y2 := c.y - a.y) ax (by rw [show c.y - a.y - (b.y - a.y) = c.y - b.y by omega]; exact cy) ay (by rw [show c.x - a.x - (b.x - a.x) = c.x - b.x by omega]; exact cx) n3
  · refine sq_can hs ?_
    have e : S * (S * (a.sub p).dot (c.sub p)) = -(w2 * w1 * (b.sub a).dot (c.sub a) + w2 * w2 * (b.sub a).dot (c.sub b) + w3 * w1 * (c.sub a).dot (c.sub a) + w3 * w2 * (c.sub a).dot (c.sub b)) := by
      have : S * (S * (a.sub p).dot (c.sub p)) = (S * (a.x - p.x)) * (S * (c.x - p.x)) + (S * (a.y - p.y)) * (S * (c.y - p.y)) + (S * (a.z - p.z)) * (S * (c.z - p.z)) := by unfold V3.dot V3.sub; grind
      rw [this, ax, ay, az, cx, cy, cz]
      unfold V3.dot V3.sub; grind
    rw [e]
    have d1 := lex_dot (e := b.sub a) (f := c.sub a) (by refine ⟨?_, ?_, ?_⟩ <;> simp only [V3.cross, V3.sub] <;> omega) hB hC
    have d2 := lex_dot (e := b.sub a) (f := c.sub b) (zV_bc hn0) hB hD
    have d3 := dd_nn (c.sub a)
    have d4 := lex_dot (e := c.sub a) (f := c.sub b) (zV_cc hn0) hC hD
    have g1 := Int.mul_nonneg (Int.mul_nonneg h2 h1) d1
    have g2 := Int.mul_nonneg (Int.mul_nonneg h2 h2) d2
    have g3 := Int.mul_nonneg (Int.mul_nonneg h3 h1) d3
    have g4 := Int.mul_nonneg (Int.mul_nonneg h3 h2) d4
    omega
  · refine less_lex.2 ((lexN_scl hs).1 (lexN_add (lexN_scl0 h2 hB) (lexN_scl0 h3 hC) ?_ ?_ ?_)) <;> simp only [V3.scl, V3.sub] <;> grind
  · refine less_lex.2 ((lexN_scl hs).1 (lexN_add (lexN_scl0 h1 hC) (lexN_scl0 h2 hD) ?_ ?_ ?_)) <;> simp only [V3.scl, V3.sub] <;> grind
theorem hull_flat {w1 w2 w3 : Int} {p q a b c : V3} (h : Hull w1 w2 w3 p a b c) (hn : axZ (normZ a b c) = 3) (hab : lessZ b a = false) (hbc : lessZ c b = false) : touchV p q a b c = true := by
  have hac : lessZ c a = false := by rw [less_no] at *; omega
  unfold touchV
  rw [if_pos hn, min_f hab, min_f hac, max_f hab, max_f hbc]
  exact flat_on h (zV_of hn) hab hbc
theorem hull_at {w1 w2 w3 : Int} {p a b c : V3} (h : Hull w1 w2 w3 p a b c) (k : Nat) : (w1 + w2 + w3) * (crZ a b a p).at k = w3 * (normZ a b c).at k := by
  obtain ⟨-, -, -, -, ex, ey, ez⟩ := h
  match k with
  | 0 => simp only [V3.at, crZ, normZ, V3.cross, V3.sub]; grind
  | 1 => simp only [V3.at, crZ, normZ, V3.cross, V3.sub]; grind
  | _ + 2 => simp only [V3.at, crZ, normZ, V3.cross, V3.sub]; grind
theorem hull_det0 {w1 w2 w3 : Int} {p a b c : V3} (h : Hull w1 w2 w3 p a b c) : detZ a b c p = 0 := by
  obtain ⟨-, -, -, hs, ex, ey, ez⟩ := h
  have e : (w1 + w2 + w3) * detZ a b c p = 0 := by
    have px : (w1 + w2 + w3) * (p.x - a.x) = w2 * (b.x - a.x) + w3 * (c.x - a.x) := by grind
    have py : (w1 + w2 + w3) * (p.y - a.y) = w2 * (b.y - a.y) + w3 * (c.y - a.y) := by grind
    have pz : (w1 + w2 + w3) * (p.z - a.z) = w2 * (b.z - a.z) + w3 * (c.z - a.z) := by grind
    have : (w1 + w2 + w3) * detZ a b c p = (normZ a b c).x * ((w1 + w2 + w3) * (p.x - a.x)) + (normZ a b c).y * ((w1 + w2 + w3) * (p.y - a.y)) + (normZ a b c).z * ((w1 + w2 + w3) * (p.z - a.z)) := by unfold detZ V3.dot V3.sub; grind
    rw [this, px, py, pz]
    simp only [normZ, V3.cross, V3.sub]; grind
  exact (Int.mul_eq_zero.1 e).resolve_left (by omega)
theorem hull_det {w1 w2 w3 : Int} {p q a b c : V3} (h : Hull w1 w2 w3 p a b c) : (w1 + w2 + w3) * detZ p q a b = w3 * detZ a b c q := by
  have h0 := hull_det0 h
  have k0 := hull_at h 0; have k1 := hull_at h 1; have k2 := hull_at h 2
  have e : detZ p q a b = (q.sub p).dot (crZ a b a p) := by simp only [detZ, crZ, normZ, V3.dot, V3.cross, V3.sub]; grind
  have e2 : detZ a b c q = (q.sub p).dot (normZ a b c) + detZ a b c p := by simp only [detZ, normZ, V3.dot, V3.cross, V3.sub]; grind
  rw [e, e2, h0]
  simp only [V3.at] at k0 k1 k2
  generalize crZ a b a p = u at *
  generalize normZ a b c = n at *
  unfold V3.dot; grind
theorem hull_in {w1 w2 w3 : Int} {p a b c : V3} (h : Hull w1 w2 w3 p a b c) (k : Nat) : inB2 k a b c p = true := by
  unfold inB2
  rw [agree_iff]
  have e1 := hull_at h k
  have e2 := hull_at h.rot k
  have e3 := hull_at h.rot.rot k
  rw [norm_rot] at e2
  rw [norm_rot, norm_rot] at e3
  rw [show w2 + w3 + w1 = w1 + w2 + w3 by omega] at e2
  rw [show w3 + w1 + w2 = w1 + w2 + w3 by omega] at e3
  obtain ⟨h1, h2, h3, hs, -, -, -⟩ := h
  rcases Int.le_total 0 ((normZ a b c).at k) with g | g
  · exact .inl ⟨(pos_of hs e1).1 (Int.mul_nonneg h3 g), (pos_of hs e2).1 (Int.mul_nonneg h1 g), (pos_of hs e3).1 (Int.mul_nonneg h2 g)⟩
  · exact .inr ⟨(pos_of hs e1).2 (Int.mul_nonpos_of_nonneg_of_nonpos h3 g), (pos_of hs e2).2 (Int.mul_nonpos_of_nonneg_of_nonpos h1 g), (pos_of hs e3).2 (Int.mul_nonpos_of_nonneg_of_nonpos h2 g)⟩
/-- a segment from a point of a triangle touches it -/
theorem hull_touch {w1 w2 w3 : Int} {p q a b c : V3} (h : Hull w1 w2 w3 p a b c) : touchV p q a b c = true := by
  by_cases hn : axZ (normZ a b c) = 3
  · have n1 : axZ (normZ b c a) = 3 := by rw [norm_rot]; exact hn
    have n2 : axZ (normZ c a b) = 3 := by rw [norm_rot]; exact n1
    have m0 : axZ (normZ b a c) = 3 := by rw [ax_nneg]; exact hn
    have m1 : axZ (normZ c b a) = 3 := by rw [ax_nneg]; exact n1
    have m2 : axZ (normZ a c b) = 3 := by rw [ax_nneg]; exact n2
    have o : ∀ x y : V3, lessZ x y = false ∨ lessZ y x = false := fun x y => by rw [less_no, less_no]; omega
    have t1 := touch_rot p q a b c
    have t2 := (touch_rot p q b c a).trans t1
    by_cases hab : lessZ b a = false
    · by_cases hbc : lessZ c b = false
      · exact hull_flat h hn hab hbc
      · have hcb := (o c b).resolve_left hbc
        by_cases hac : lessZ c a = false
        · rw [← t2, ← touch_sw]; exact hull_flat h.rot.rot.sw m2 hac hcb
        · rw [← t2]; exact hull_flat h.rot.rot n2 ((o c a).resolve_left hac) hab
    · have hba := (o b a).resolve_left hab
      by_cases hac : lessZ c a = false
      · rw [← touch_sw]; exact hull_flat h.sw m0 hba hac
      · have hca := (o c a).resolve_left hac
        by_cases hbc : lessZ c b = false
        · rw [← t1]; exact hull_flat h.rot n1 hbc hca
        · rw [← t1, ← touch_sw]; exact hull_flat h.rot.sw m1 ((o c b).resolve_left hbc) hba
  · unfold touchV
    rw [if_neg hn, hull_det0 h, Int.sign_zero, Int.zero_mul, if_neg (by omega)]
    split
    · rename_i hq
      have e1 := hull_det (q := q) h
      have e2 := hull_det (q := q) h.rot
      have e3 := hull_det (q := q) h.rot.rot
      rw [det_rot a b c q] at e2
      rw [det_rot b c a q, det_rot a b c q] at e3
      rw [show w2 + w3 + w1 = w1 + w2 + w3 by omega] at e2
      rw [show w3 + w1 + w2 = w1 + w2 + w3 by omega] at e3
      obtain ⟨h1, h2, h3, hs, -, -, -⟩ := h
      rw [agree_iff]
      rcases Int.le_total 0 (detZ a b c q) with g | g
      · exact .inl ⟨(pos_of hs e1).1 (Int.mul_nonneg h3 g), (pos_of hs e2).1 (Int.mul_nonneg h1 g), (pos_of hs e3).1 (Int.mul_nonneg h2 g)⟩
      · exact .inr ⟨(pos_of hs e1).2 (Int.mul_nonpos_of_nonneg_of_nonpos h3 g), (pos_of hs e2).2 (Int.mul_nonpos_of_nonneg_of_nonpos h1 g), (pos_of hs e3).2 (Int.mul_nonpos_of_nonneg_of_nonpos h2 g)⟩
    · unfold planeB
      rw [hull_in h, Bool.or_true, Bool.or_true, Bool.or_true]

/-! ### a segment that is made twice as long -/
def dbl (r p : V3) : V3 := ⟨2 * p.x - r.x, 2 * p.y - r.y, 2 * p.z - r.z⟩
theorem o2_d1 (k : Nat) (r p a : V3) : o2 (pr k r) (pr k (dbl r p)) (pr k a) = 2 * o2 (pr k r) (pr k p) (pr k a) := by
  match k with
  | 0 => simp only [o2, pr, dbl]; grind
  | 1 => simp only [o2, pr, dbl]; grind
  | _ + 2 => simp only [o2, pr, dbl]; grind
theorem o2_d2 (k : Nat) (r p a b : V3) : o2 (pr k a) (pr k b) (pr k (dbl r p)) = 2 * o2 (pr k a) (pr k b) (pr k p) - o2 (pr k a) (pr k b) (pr k r) := by
  match k with
  | 0 => simp only [o2, pr, dbl]; grind
  | 1 => simp only [o2, pr, dbl]; grind
  | _ + 2 => simp only [o2, pr, dbl]; grind
theorem det_d1 (r p a b : V3) : detZ r (dbl r p) a b = 2 * detZ r p a b := by simp only [detZ, normZ, V3.dot, V3.cross, V3.sub, dbl]; grind
theorem det_d2 (r p a b c : V3) : detZ a b c (dbl r p) = 2 * detZ a b c p - detZ a b c r := by simp only [detZ, normZ, V3.dot, V3.cross, V3.sub, dbl]; grind
theorem cr_d (r p a b : V3) : (crZ r (dbl r p) a b).x = 2 * (crZ r p a b).x ∧ (crZ r (dbl r p) a b).y = 2 * (crZ r p a b).y ∧ (crZ r (dbl r p) a b).z = 2 * (crZ r p a b).z := by
  refine ⟨?_, ?_, ?_⟩ <;> simp only [crZ, V3.cross, V3.sub, dbl] <;> grind
theorem ax_d (r p a b : V3) : axZ (crZ r (dbl r p) a b) = axZ (crZ r p a b) := by
  obtain ⟨h1, h2, h3⟩ := cr_d r p a b
  exact ax_congr (by omega) (by omega) (by omega)
theorem par_d {r p a b : V3} (h : parB r p a b = true) : parB r (dbl r p) a b = true := by
  by_cases e : p = r
  · subst e
    have : dbl p p = p := by unfold dbl; apply V3.ext' <;> simp only <;> omega
    rw [this]; exact h
  · unfold parB at *
    generalize minZ a b = lo at *
    generalize maxZ a b = hi at *
    have ne : ¬ (p.x = r.x ∧ p.y = r.y ∧ p.z = r.z) := fun g => e (V3.ext' g.1 g.2.1 g.2.2)
    have ne2 : ∀ {x y : V3}, ¬ (x.x = y.x ∧ x.y = y.y ∧ x.z = y.z) → eqB x y = false := fun g => by
      cases h : eqB _ _
      · rfl
      · rw [eqB_iff] at h; subst h; exact absurd ⟨rfl, rfl, rfl⟩ g
    cases hl : lessZ p r
    · have hq : lessZ (dbl r p) r = false := by
        rw [less_no] at *; simp only [dbl]; omega
      rw [min_f hl, max_f hl, ne2 (by omega), cond_false, Bool.and_eq_true, Bool.and_eq_true, Bool.not_eq_true', Bool.not_eq_true', isZ_of] at h
      rw [min_f hq, max_f hq, ne2 (by simp only [dbl]; omega), cond_false, Bool.and_eq_true, Bool.and_eq_true, Bool.not_eq_true', Bool.not_eq_true', isZ_of]
      obtain ⟨⟨h1, h2, h3⟩, h4, h5⟩ := h
      refine ⟨⟨?_, ?_, ?_⟩, ?_, h5⟩
      · simp only [normZ, V3.cross, V3.sub, dbl] at *; grind
      · simp only [normZ, V3.cross, V3.sub, dbl] at *; grind
      · simp only [normZ, V3.cross, V3.sub, dbl] at *; grind
      · rw [less_no] at *; simp only [dbl]; omega
    · have hq : lessZ (dbl r p) r = true := by
        rw [less_iff] at *; simp only [dbl]; omega
      rw [min_t hl, max_t hl, ne2 (by omega), cond_false, Bool.and_eq_true, Bool.and_eq_true, Bool.not_eq_true', Bool.not_eq_true', isZ_of] at h
      rw [min_t hq, max_t hq, ne2 (by simp only [dbl]; omega), cond_false, Bool.and_eq_true, Bool.and_eq_true, Bool.not_eq_true', Bool.not_eq_true', isZ_of]
      obtain ⟨⟨h1, h2, h3⟩, h4, h5⟩ := h
      refine ⟨⟨?_, ?_, ?_⟩, h4, ?_⟩
      · simp only [normZ, V3.cross, V3.sub, dbl] at *; grind
      · simp only [normZ, V3.cross, V3.sub, dbl] at *; grind
      · simp only [normZ, V3.cross, V3.sub, dbl] at *; grind
      · rw [less_iff] at hl hq; rw [less_no] at *; simp only [dbl] at *; omega
theorem cross_d {r p a b : V3} (h : crossV r p a b = true) : crossV r (dbl r p) a b = true := by
  unfold crossV at *
  rw [ax_d]
  split
  · rename_i hx; rw [if_pos hx] at h; exact par_d h
  · rename_i hx; rw [if_neg hx] at h
    rw [npar_iff] at *
    rw [o2_d1, o2_d1, o2_d2, det_d1]
    omega
theorem touch_d {r p a b c : V3} (h : touchV r p a b c = true) : touchV r (dbl r p) a b c = true := by
  unfold touchV at *
  by_cases hn : axZ (normZ a b c) = 3
  · rw [if_pos hn] at *; exact cross_d h
  · rw [if_neg hn] at *
    rw [det_d1, det_d1, det_d1, det_d2]
    split at h
    · cases h
    · rename_i hs
      have hs := sgp.1 (Int.not_lt.1 hs)
      rw [if_neg (Int.not_lt.2 (sgp.2 (by omega)))]
      simp only [ne_eq, Int.sign_eq_zero_iff_zero] at h ⊢
      split at h
      · rename_i g
        rw [if_pos (by omega)]
        rw [agree_iff] at *; omega
      · rename_i g
        rw [if_neg (by omega)]
        unfold planeB at *
        simp only [Bool.or_eq_true] at *
        rcases h with h | h | h | h
        · exact .inl (cross_d h)
        · exact .inr (.inl (cross_d h))
        · exact .inr (.inr (.inl (cross_d h)))
        · exact .inr (.inr (.inr h))
theorem touch_far {w1 w2 w3 : Int} {p q a b c : V3} (h : Hull w1 w2 w3 p a b c) (hq : detZ a b c q ≠ 0) : touchV q (dbl p q) a b c = false := by
  have hn : axZ (normZ a b c) ≠ 3 := fun g => hq (by
    obtain ⟨z1, z2, z3⟩ := zV_of g
    unfold detZ V3.dot; rw [z1, z2, z3]; simp)
  unfold touchV
  rw [if_neg hn, det_d2, hull_det0 h, if_pos]
  rcases sg3 (detZ a b c q) with ⟨g, k⟩ | ⟨g, k⟩ | ⟨g, k⟩ <;> rcases sg3 (2 * detZ a b c q - 0) with ⟨g1, k1⟩ | ⟨g1, k1⟩ | ⟨g1, k1⟩ <;> rw [k, k1] <;> omega
end Go.Proofs.YtmooplnklcgfjaaGreatDoor
