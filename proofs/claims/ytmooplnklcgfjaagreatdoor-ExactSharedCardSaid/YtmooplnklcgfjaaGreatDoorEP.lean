/- Segments and triangles: what layer 2 answers, in plain words; a segment that leaves a triangle crosses a side. -/
import Derived.Test.YtmooplnklcgfjaaGreatDoorE1
namespace Go.Proofs.YtmooplnklcgfjaaGreatDoor
open Go.RowKit

def eqB (p q : V3) : Bool := decide (p.x = q.x) && (decide (p.y = q.y) && decide (p.z = q.z))
def V3.at (v : V3) : Nat → Int
  | 0 => v.x
  | 1 => v.y
  | _ => v.z
/-- the first axis along which a vector is not 0 -/
def axZ (v : V3) : Nat := if v.x ≠ 0 then 0 else if v.y ≠ 0 then 1 else if v.z ≠ 0 then 2 else 3
def crZ (a b c d : V3) : V3 := (b.sub a).cross (d.sub c)
def sideB (k : Nat) (a b c d : V3) : Bool := decide (((crZ a b a c).at k).sign * ((crZ a b a d).at k).sign ≤ 0)
def minZ (p q : V3) : V3 := cond (lessZ q p) q p
def maxZ (p q : V3) : V3 := cond (lessZ q p) p q
def parB (p q r s : V3) : Bool := (cond (eqB (minZ p q) (maxZ p q)) (normZ (minZ r s) (maxZ r s) (minZ p q)).isZ (normZ (minZ p q) (maxZ p q) (minZ r s)).isZ) && (!lessZ (maxZ p q) (minZ r s) && !lessZ (maxZ r s) (minZ p q))
def nparB (k : Nat) (p q r s : V3) : Bool := decide ((detZ p q r s).sign = 0) && (sideB k p q r s && sideB k r s p q)
def crossV (p q r s : V3) : Bool := if axZ (crZ p q r s) = 3 then parB p q r s else nparB (axZ (crZ p q r s)) p q r s
def agreeB (x y z : Int) : Bool := (decide (0 ≤ x) && (decide (0 ≤ y) && decide (0 ≤ z))) || (decide (x ≤ 0) && (decide (y ≤ 0) && decide (z ≤ 0)))
def inB2 (k : Nat) (a b c p : V3) : Bool := agreeB ((crZ a b a p).at k).sign ((crZ b c b p).at k).sign ((crZ c a c p).at k).sign
/-- a segment in the plane of a triangle -/
def planeB (p q a b c : V3) : Bool := crossV p q a b || (crossV p q b c || (crossV p q c a || inB2 (axZ (normZ a b c)) a b c p))
def touchV (p q a b c : V3) : Bool :=
  if axZ (normZ a b c) = 3 then crossV p q (minZ (minZ a b) c) (maxZ (maxZ a b) c)
  else if 0 < (detZ a b c p).sign * (detZ a b c q).sign then false
  else if (detZ a b c p).sign ≠ 0 ∨ (detZ a b c q).sign ≠ 0 then agreeB (detZ p q a b).sign (detZ p q b c).sign (detZ p q c a).sign
  else planeB p q a b c

/-! ### in the plane -/
structure P2 where
  u : Int
  v : Int
def o2 (a b c : P2) : Int := (b.u - a.u) * (c.v - a.v) - (b.v - a.v) * (c.u - a.u)
theorem o2_sum (a b c x : P2) : o2 a b x + o2 b c x + o2 c a x = o2 a b c := by unfold o2; grind
theorem o2_a (a b c p q : P2) : o2 a b c * o2 p q a = o2 c a p * o2 a b q - o2 a b p * o2 c a q := by unfold o2; grind
theorem o2_b (a b c p q : P2) : o2 a b c * o2 p q b = o2 a b p * o2 b c q - o2 b c p * o2 a b q := by unfold o2; grind
theorem o2_c (a b c p q : P2) : o2 a b c * o2 p q c = o2 b c p * o2 c a q - o2 c a p * o2 b c q := by unfold o2; grind
theorem o2_rev (a b c : P2) : o2 b a c = -o2 a b c := by unfold o2; grind
def in2 (a b c x : P2) : Bool := agreeB (o2 a b x).sign (o2 b c x).sign (o2 c a x).sign
def hit (u v p q : P2) : Prop := o2 u v p ≠ o2 u v q ∧ (o2 u v p).sign * (o2 u v q).sign ≤ 0 ∧ (o2 p q u).sign * (o2 p q v).sign ≤ 0
theorem sg3 (x : Int) : (x < 0 ∧ x.sign = -1) ∨ (x = 0 ∧ x.sign = 0) ∨ (0 < x ∧ x.sign = 1) := by
  rcases Int.lt_trichotomy x 0 with h | h | h
  · exact .inl ⟨h, Int.sign_eq_neg_one_of_neg h⟩
  · subst h; exact .inr (.inl ⟨rfl, rfl⟩)
  · exact .inr (.inr ⟨h, Int.sign_eq_one_of_pos h⟩)
theorem sgp {x y : Int} : x.sign * y.sign ≤ 0 ↔ ¬ (0 < x ∧ 0 < y) ∧ ¬ (x < 0 ∧ y < 0) := by
  rcases sg3 x with ⟨h, e⟩ | ⟨h, e⟩ | ⟨h, e⟩ <;> rcases sg3 y with ⟨g, k⟩ | ⟨g, k⟩ | ⟨g, k⟩ <;> rw [e, k] <;> omega
theorem sg_ge {x : Int} : 0 ≤ x.sign ↔ 0 ≤ x := by
  rcases sg3 x with ⟨h, e⟩ | ⟨h, e⟩ | ⟨h, e⟩ <;> rw [e] <;> omega
theorem sg_le {x : Int} : x.sign ≤ 0 ↔ x ≤ 0 := by
  rcases sg3 x with ⟨h, e⟩ | ⟨h, e⟩ | ⟨h, e⟩ <;> rw [e] <;> omega
theorem agree_iff {x y z : Int} : agreeB x.sign y.sign z.sign = true ↔ (0 ≤ x ∧ 0 ≤ y ∧ 0 ≤ z) ∨ (x ≤ 0 ∧ y ≤ 0 ∧ z ≤ 0) := by
  unfold agreeB
  simp only [Bool.or_eq_true, Bool.and_eq_true, decide_eq_true_eq, sg_ge, sg_le]
theorem mul_pp {a b : Int} (ha : 0 ≤ a) (hb : 0 ≤ b) : 0 ≤ a * b := Int.mul_nonneg ha hb
theorem mul_pn {a b : Int} (ha : 0 ≤ a) (hb : b < 0) : a * b ≤ 0 := by
  have := Int.mul_nonneg ha (by omega : 0 ≤ -b)
  rw [Int.mul_neg] at this; omega
/-- where a segment that leaves comes out -/
theorem exit_num {p1 p2 p3 q1 q2 q3 : Int} (h1 : 0 ≤ p1) (h2 : 0 ≤ p2) (h3 : 0 ≤ p3) (hs : 0 < q1 + q2 + q3) (hq : q1 < 0 ∨ q2 < 0 ∨ q3 < 0) :
    (q1 < 0 ∧ p2 * q1 ≤ p1 * q2 ∧ p3 * q1 ≤ p1 * q3) ∨ (q2 < 0 ∧ p1 * q2 ≤ p2 * q1 ∧ p3 * q2 ≤ p2 * q3) ∨ (q3 < 0 ∧ p1 * q3 ≤ p3 * q1 ∧ p2 * q3 ≤ p3 * q2) := by
  have f : ∀ {p q : Int}, 0 ≤ p → (0 ≤ q → 0 ≤ p * q) ∧ (q < 0 → p * q ≤ 0) := fun hp => ⟨fun hq => mul_pp hp hq, fun hq => mul_pn hp hq⟩
  have a12 := f (p := p1) (q := q2) h1
  have a13 := f (p := p1) (q := q3) h1
  have a21 := f (p := p2) (q := q1) h2
  have a23 := f (p := p2) (q := q3) h2
  have a31 := f (p := p3) (q := q1) h3
  have a32 := f (p := p3) (q := q2) h3
  generalize p1 * q2 = x12 at *
  generalize p1 * q3 = x13 at *
  generalize p2 * q1 = x21 at *
  generalize p2 * q3 = x23 at *
  generalize p3 * q1 = x31 at *
  generalize p3 * q2 = x32 at *
  omega
theorem pos_of {n x y : Int} (hn : 0 < n) (h : n * x = y) : (0 ≤ y → 0 ≤ x) ∧ (y ≤ 0 → x ≤ 0) := by
  subst h
  refine ⟨fun h => ?_, fun h => ?_⟩
  · exact Decidable.byContradiction fun hx => by have := Int.mul_neg_of_pos_of_neg hn (by omega : x < 0); omega
  · exact Decidable.byContradiction fun hx => by have := Int.mul_pos hn (by omega : 0 < x); omega
theorem neg_of {n x y : Int} (hn : n < 0) (h : n * x = y) : (0 ≤ y → x ≤ 0) ∧ (y ≤ 0 → 0 ≤ x) := by
  have := pos_of (n := -n) (x := x) (y := -y) (by omega) (by rw [Int.neg_mul, h])
  exact ⟨fun h => this.2 (by omega), fun h => this.1 (by omega)⟩
theorem exit2 {a b c p q : P2} (hN : o2 a b c ≠ 0) (hp : in2 a b c p = true) (hq : in2 a b c q = false) : hit a b p q ∨ hit b c p q ∨ hit c a p q := by
  have sp := o2_sum a b c p
  have sq := o2_sum a b c q
  have ea := o2_a a b c p q
  have eb := o2_b a b c p q
  have ec := o2_c a b c p q
  have hp := agree_iff.1 hp
  have hq : ¬ ((0 ≤ o2 a b q ∧ 0 ≤ o2 b c q ∧ 0 ≤ o2 c a q) ∨ (o2 a b q ≤ 0 ∧ o2 b c q ≤ 0 ∧ o2 c a q ≤ 0)) := fun h => by have := agree_iff.2 h; unfold in2 at hq; rw [hq] at this; cases this
  unfold hit
  simp only [sgp]
  generalize o2 a b p = p1 at *
  generalize o2 b c p = p2 at *
  generalize o2 c a p = p3 at *
  generalize o2 a b q = q1 at *
  generalize o2 b c q = q2 at *
  generalize o2 c a q = q3 at *
  generalize o2 p q a = xa at *
  generalize o2 p q b = xb at *
  generalize o2 p q c = xc at *
  generalize o2 a b c = n at *
  rcases Int.lt_trichotomy n 0 with hn | hn | hn
  · have A := neg_of hn ea
    have B := neg_of hn eb
    have C := neg_of hn ec
    have hp0 : p1 ≤ 0 ∧ p2 ≤ 0 ∧ p3 ≤ 0 := by omega
    have hq0 : -q1 < 0 ∨ -q2 < 0 ∨ -q3 < 0 := by omega
    have key := exit_num (p1 := -p1) (p2 := -p2) (p3 := -p3) (q1 := -q1) (q2 := -q2) (q3 := -q3) (by omega) (by omega) (by omega) (by omega) hq0
    simp only [Int.neg_mul_neg] at key
    clear ea eb ec hp hq
    rcases key with ⟨k1, k2, k3⟩ | ⟨k1, k2, k3⟩ | ⟨k1, k2, k3⟩
    · have := A.2 (by omega); have := B.1 (by omega); exact .inl (by omega)
    · have := B.2 (by omega); have := C.1 (by omega); exact .inr (.inl (by omega))
    · have := C.2 (by omega); have := A.1 (by omega); exact .inr (.inr (by omega))
  · exact absurd hn hN
  · have A := pos_of hn ea
    have B := pos_of hn eb
    have C := pos_of hn ec
    have hp0 : 0 ≤ p1 ∧ 0 ≤ p2 ∧ 0 ≤ p3 := by omega
    have hq0 : q1 < 0 ∨ q2 < 0 ∨ q3 < 0 := by omega
    have key := exit_num hp0.1 hp0.2.1 hp0.2.2 (by omega : 0 < q1 + q2 + q3) hq0
    clear ea eb ec hp hq
    rcases key with ⟨k1, k2, k3⟩ | ⟨k1, k2, k3⟩ | ⟨k1, k2, k3⟩
    · have := A.2 (by omega); have := B.1 (by omega); exact .inl (by omega)
    · have := B.2 (by omega); have := C.1 (by omega); exact .inr (.inl (by omega))
    · have := C.2 (by omega); have := A.1 (by omega); exact .inr (.inr (by omega))

/-! ### a plane in space -/
def pr (k : Nat) (v : V3) : P2 := match k with | 0 => ⟨v.y, v.z⟩ | 1 => ⟨v.z, v.x⟩ | _ => ⟨v.x, v.y⟩
theorem at_o2 (k : Nat) (a b x : V3) : (crZ a b a x).at k = o2 (pr k a) (pr k b) (pr k x) := by
  match k with
  | 0 => rfl
  | 1 => rfl
  | _ + 2 => rfl
theorem norm_cr (a b c : V3) : normZ a b c = crZ a b a c := rfl
theorem at_dir (k : Nat) (p q u v : V3) : (crZ p q u v).at k = o2 (pr k u) (pr k v) (pr k p) - o2 (pr k u) (pr k v) (pr k q) := by
  match k with
  | 0 => simp only [V3.at, crZ, V3.cross, V3.sub, o2, pr]; grind
  | 1 => simp only [V3.at, crZ, V3.cross, V3.sub, o2, pr]; grind
  | _ + 2 => simp only [V3.at, crZ, V3.cross, V3.sub, o2, pr]; grind
theorem par {n d e : V3} (hd : n.dot d = 0) (he : n.dot e = 0) : (d.cross e).y * n.z = (d.cross e).z * n.y ∧ (d.cross e).z * n.x = (d.cross e).x * n.z ∧ (d.cross e).x * n.y = (d.cross e).y * n.x := by
  have e1 : (d.cross e).y * n.z - (d.cross e).z * n.y = e.x * n.dot d - d.x * n.dot e := by unfold V3.cross V3.dot; grind
  have e2 : (d.cross e).z * n.x - (d.cross e).x * n.z = e.y * n.dot d - d.y * n.dot e := by unfold V3.cross V3.dot; grind
  have e3 : (d.cross e).x * n.y - (d.cross e).y * n.x = e.z * n.dot d - d.z * n.dot e := by unfold V3.cross V3.dot; grind
  rw [hd, he, Int.mul_zero, Int.mul_zero] at e1 e2 e3
  omega
theorem ax_spec (v : V3) : (axZ v = 3 ∧ v.x = 0 ∧ v.y = 0 ∧ v.z = 0) ∨ (axZ v = 0 ∧ v.x ≠ 0) ∨ (axZ v = 1 ∧ v.x = 0 ∧ v.y ≠ 0) ∨ (axZ v = 2 ∧ v.x = 0 ∧ v.y = 0 ∧ v.z ≠ 0) := by
  unfold axZ
  (repeat' split) <;> simp_all
theorem zero_of {a b : Int} (h : a * b = 0) (hb : b ≠ 0) : a = 0 := (Int.mul_eq_zero.1 h).resolve_right hb
/-- vectors in a plane: their product is along its normal -/
theorem ax_par {n d e : V3} (hd : n.dot d = 0) (he : n.dot e = 0) (hn : axZ n ≠ 3) (hw : (d.cross e).at (axZ n) ≠ 0) : axZ (d.cross e) = axZ n := by
  obtain ⟨h1, h2, h3⟩ := par hd he
  generalize d.cross e = w at *
  rcases ax_spec n with ⟨h, -⟩ | ⟨h, hx⟩ | ⟨h, hx, hy⟩ | ⟨h, hx, hy, hz⟩
  · exact absurd h hn
  · rw [h] at hw ⊢
    have hw : w.x ≠ 0 := hw
    unfold axZ; rw [if_pos hw]
  · rw [h] at hw ⊢
    have hw : w.y ≠ 0 := hw
    have : w.x = 0 := zero_of (by rw [h3, hx, Int.mul_zero]) hy
    unfold axZ; rw [if_neg (by omega), if_pos hw]
  · rw [h] at hw ⊢
    have hw : w.z ≠ 0 := hw
    have e1 : w.x = 0 := zero_of (by rw [← h2, hx, Int.mul_zero]) hz
    have e2 : w.y = 0 := zero_of (by rw [h1, hy, Int.mul_zero]) hz
    unfold axZ; rw [if_neg (by omega), if_neg (by omega), if_pos hw]
theorem det_plane {n d e f : V3} (hd : n.dot d = 0) (he : n.dot e = 0) (hf : n.dot f = 0) (hn : axZ n ≠ 3) : (d.cross e).dot f = 0 := by
  obtain ⟨h1, h2, h3⟩ := par hd he
  generalize d.cross e = w at *
  have k1 : w.dot f * n.x = w.x * n.dot f := by unfold V3.dot; grind
  have k2 : w.dot f * n.y = w.y * n.dot f := by unfold V3.dot; grind
  have k3 : w.dot f * n.z = w.z * n.dot f := by unfold V3.dot; grind
  rw [hf, Int.mul_zero] at k1 k2 k3
  rcases ax_spec n with ⟨h, -⟩ | ⟨h, hx⟩ | ⟨h, hx, hy⟩ | ⟨h, hx, hy, hz⟩
  · exact absurd h hn
  · exact zero_of k1 hx
  · exact zero_of k2 hy
  · exact zero_of k3 hz
/-- a point lies in the plane of a triangle -/
def inPl (n a x : V3) : Prop := n.dot (x.sub a) = 0
theorem inPl.diff {n a x y : V3} (hx : inPl n a x) (hy : inPl n a y) : n.dot (x.sub y) = 0 := by
  unfold inPl V3.dot V3.sub at *
  simp only at *
  have : n.x * (x.x - y.x) + n.y * (x.y - y.y) + n.z * (x.z - y.z) = (n.x * (x.x - a.x) + n.y * (x.y - a.y) + n.z * (x.z - a.z)) - (n.x * (y.x - a.x) + n.y * (y.y - a.y) + n.z * (y.z - a.z)) := by grind
  rw [this, hx, hy]; rfl
theorem inPl.a (n a : V3) : inPl n a a := by unfold inPl V3.dot V3.sub; simp
theorem inPl.b (a b c : V3) : inPl (normZ a b c) a b := by unfold inPl V3.dot normZ V3.cross V3.sub; grind
theorem inPl.c (a b c : V3) : inPl (normZ a b c) a c := by unfold inPl V3.dot normZ V3.cross V3.sub; grind
theorem cross_hit {n a p q u v : V3} (hn : axZ n ≠ 3) (hp : inPl n a p) (hq : inPl n a q) (hu : inPl n a u) (hv : inPl n a v) (h : hit (pr (axZ n) u) (pr (axZ n) v) (pr (axZ n) p) (pr (axZ n) q)) : crossV p q u v = true := by
  obtain ⟨h1, h2, h3⟩ := h
  have hw : (crZ p q u v).at (axZ n) ≠ 0 := by rw [at_dir]; omega
  have hax : axZ (crZ p q u v) = axZ n := ax_par (hq.diff hp) (hv.diff hu) hn hw
  have hdet : detZ p q u v = 0 := det_plane (n := n) (hq.diff hp) (hu.diff hp) (hv.diff hp) hn
  unfold crossV
  rw [hax, if_neg hn]
  unfold nparB sideB
  simp only [at_o2, hdet, Bool.and_eq_true, decide_eq_true_eq]
  exact ⟨by simp, h3, h2⟩
end Go.Proofs.YtmooplnklcgfjaaGreatDoor
