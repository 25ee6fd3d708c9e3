/- Numbers as Go holds them: what comes in, what is handed back. -/
import Derived.Deep.RegionHeld3
import Derived.Test.YtapppahniablmaaDoorKeep
import Derived.Test.YtapppahniablmaaDoorWide
import Derived.Test.YtapppahniablmaaDoorAbs
import Derived.Test.YtapppahniablmaaDoorCmp
import Derived.Test.YtapppahniablmaaDoorSub
import Derived.Test.YtapppahniablmaaDoorMul
namespace Go.Proofs.YtapppahniablmaaDoor
open Go.RowKit

/-- the fields denote z, in at most k bits -/
def Num (k : Nat) (b : Bool) (s : ByteArray) (z : Int) : Prop := ival b s.data.toList = z ∧ 8 * s.size ≤ k
/-- the fields are the canonical ones of z -/
def Can (b : Bool) (s : ByteArray) (z : Int) : Prop := b = decide (z < 0) ∧ s = ⟨(mag z.natAbs).toArray⟩

/-- a number is handed back: the canonical one, of at most k bits -/
def GivesW (k : Nat) (z : Int) (w : World) (e : Ending) (w' : World) : Prop :=
  ∃ b s, e = .returned (.agg #[.bool b, .string s]) ∧ Can b s z ∧ Num k b s z ∧ Below w.heap.size w w'

theorem ival_can (z : Int) : ival (decide (z < 0)) (mag z.natAbs) = z := by
  unfold ival
  rw [mval_mag]
  by_cases h : z < 0
  · rw [if_pos (by simpa using h)]; omega
  · rw [if_neg (by simpa using h)]; omega
theorem Num.sm {k : Nat} {b : Bool} {s : ByteArray} {z : Int} (h : Num k b s z) : Sm k z := by
  rw [← h.1]
  have := Sm.ofBytes (neg := b) (l := s.data.toList) (k := s.size) (by simp)
  exact this.mono h.2
theorem Num.natAbs {k : Nat} {b : Bool} {s : ByteArray} {z : Int} (h : Num k b s z) : mval s.data.toList = z.natAbs := by rw [← h.1, ival_natAbs]
theorem Num.mono {j k : Nat} {b : Bool} {s : ByteArray} {z : Int} (h : Num j b s z) (hjk : j ≤ k) : Num k b s z := ⟨h.1, Nat.le_trans h.2 hjk⟩
theorem mag_bits {k : Nat} {z : Int} (h : Sm k z) : 8 * (mag z.natAbs).length ≤ k + 7 := by
  have : (mag z.natAbs).length ≤ (k + 7) / 8 := by
    apply mag_length_le
    have e : (256 : Nat) = 2 ^ 8 := by decide
    rw [e, ← Nat.pow_mul]
    exact Nat.lt_of_lt_of_le h (Nat.pow_le_pow_right (by omega) (by omega))
  omega
theorem Can.num {k : Nat} {b : Bool} {s : ByteArray} {z : Int} (h : Can b s z) (hz : Sm k z) : Num (k + 7) b s z := by
  obtain ⟨rfl, rfl⟩ := h
  exact ⟨ival_can z, mag_bits hz⟩
theorem Can.inj {b b' : Bool} {s s' : ByteArray} {z z' : Int} (h : Can b s z) (h' : Can b' s' z') : (b = b' ∧ s = s') ↔ z = z' := by
  constructor
  · rintro ⟨rfl, rfl⟩
    obtain ⟨rfl, rfl⟩ := h
    obtain ⟨h1, h2⟩ := h'
    have h3 := ByteArray.ext_iff.1 h2
    have h4 := mag_inj (by simpa using h3 : mag z.natAbs = mag z'.natAbs)
    simp at h1
    omega
  · rintro rfl
    exact ⟨h.1.trans h'.1.symm, h.2.trans h'.2.symm⟩
/-- what nat.wide hands back -/
theorem can_wv (neg : Bool) (n : Nat) (z : Int) (hn : n = z.natAbs) (hs : n ≠ 0 → (neg = true ↔ z < 0)) : Can (neg && decide (n ≠ 0)) ⟨(mag n).toArray⟩ z := by
  subst hn
  refine ⟨?_, rfl⟩
  by_cases h0 : z.natAbs = 0
  · have : ¬ z < 0 := by omega
    simp [h0, this]
  · have := hs h0
    cases neg <;> simp_all
theorem GivesW.mono {j k : Nat} {z : Int} {w : World} {e : Ending} {w' : World} (h : GivesW j z w e w') (hjk : j ≤ k) : GivesW k z w e w' := by
  obtain ⟨b, s, h1, h2, h3, h4⟩ := h
  exact ⟨b, s, h1, h2, h3.mono hjk, h4⟩

/-- the digits of the absolute value are few -/
theorem dig_len_of {n k K : Nat} (h : n < 2 ^ k) (hk : k ≤ 32 * K) : (dig WB n).length ≤ K := by
  apply dig_length_le WB_two
  have e : WB = 2 ^ 32 := by rw [WB_eq]
  rw [e, ← Nat.pow_mul]
  exact Nat.lt_of_lt_of_le h (Nat.pow_le_pow_right (by omega) hk)
theorem Num.dig_len {k : Nat} {b : Bool} {s : ByteArray} {z : Int} (h : Num k b s z) (hk : k ≤ 1000000000) : (dig WB z.natAbs).length ≤ 1000000000 :=
  dig_len_of h.sm (by omega)
theorem Num.size {k : Nat} {b : Bool} {s : ByteArray} {z : Int} (h : Num k b s z) (hk : k ≤ 1000000000) : s.size ≤ 1000000000 := by have := h.2; omega
theorem abs_num {k : Nat} {b : Bool} {s : ByteArray} {z : Int} (h : Num k b s z) (hk : k ≤ 1000000000) (w : World) :
    Calls Tryd.prog 52 #[.agg #[.bool b, .string s]] w (GivesNat z.natAbs w) := by
  have := abs_any b s w (h.size hk)
  rwa [h.natAbs] at this

/-- a box for an argument of two cells, and a box for the result -/
theorem box1res (w : World) (x1 y1 r1 r2 : Value) (t1 t3 : TypeId) (W : World) (hW : W = (w.alloc (.cells #[x1, y1] t1)).alloc (.cells #[r1, r2] t3)) :
    W.cell? ⟨w.heap.size, 0, none⟩ = some x1 ∧ W.cell? ⟨w.heap.size, 1, none⟩ = some y1 ∧
    W.cell? ⟨w.heap.size + 1, 0, none⟩ = some r1 ∧ W.cell? ⟨w.heap.size + 1, 1, none⟩ = some r2 ∧ W.frozen? ⟨w.heap.size + 1, 0, none⟩ = false ∧ W.frozen? ⟨w.heap.size + 1, 1, none⟩ = false ∧
    W.heap[w.heap.size + 1]? = some (.cells #[r1, r2] t3 (0, 0)) ∧ Below w.heap.size w W ∧ W.heap.size = w.heap.size + 2 := by
  have h0 : W.heap.size = w.heap.size + 2 := by rw [hW]; simp
  have h1 : W.heap[w.heap.size]? = some (.cells #[x1, y1] t1 (0, 0)) := by rw [hW, Below.heap_alloc _ _ _ (by simp)]; exact heap_alloc_new w _
  have h3 : W.heap[w.heap.size + 1]? = some (.cells #[r1, r2] t3 (0, 0)) := by
    have h := heap_alloc_new (w.alloc (.cells #[x1, y1] t1)) (.cells #[r1, r2] t3)
    rw [hW]; simpa using h
  exact ⟨cell_of_row _ _ _ _ _ _ h1, cell_of_row _ _ _ _ _ _ h1, cell_of_row _ _ _ _ _ _ h3, cell_of_row _ _ _ _ _ _ h3, frozen_of_row _ _ _ _ _ h3, frozen_of_row _ _ _ _ _ h3, h3,
    by rw [hW]; exact ((Below.refl _ w).alloc (Nat.le_refl _) _).alloc (by simp) _, h0⟩
/-- boxes for two arguments of two cells, and a box for the result -/
theorem box2res (w : World) (x1 y1 x2 y2 r1 r2 : Value) (t1 t2 t3 : TypeId) (W : World) (hW : W = ((w.alloc (.cells #[x1, y1] t1)).alloc (.cells #[x2, y2] t2)).alloc (.cells #[r1, r2] t3)) :
    W.cell? ⟨w.heap.size, 0, none⟩ = some x1 ∧ W.cell? ⟨w.heap.size, 1, none⟩ = some y1 ∧ W.cell? ⟨w.heap.size + 1, 0, none⟩ = some x2 ∧ W.cell? ⟨w.heap.size + 1, 1, none⟩ = some y2 ∧
    W.cell? ⟨w.heap.size + 2, 0, none⟩ = some r1 ∧ W.cell? ⟨w.heap.size + 2, 1, none⟩ = some r2 ∧ W.frozen? ⟨w.heap.size + 2, 0, none⟩ = false ∧ W.frozen? ⟨w.heap.size + 2, 1, none⟩ = false ∧
    W.heap[w.heap.size + 2]? = some (.cells #[r1, r2] t3 (0, 0)) ∧ Below w.heap.size w W ∧ W.heap.size = w.heap.size + 3 := by
  have h := box1res (w.alloc (.cells #[x1, y1] t1)) x2 y2 r1 r2 t2 t3 W hW
  rw [World.size_alloc] at h
  obtain ⟨a1, a2, a3, a4, a5, a6, a7, a8, a9⟩ := h
  have h1 : W.heap[w.heap.size]? = some (.cells #[x1, y1] t1 (0, 0)) := by rw [a8.block _ (by omega)]; exact heap_alloc_new w _
  exact ⟨cell_of_row _ _ _ _ _ _ h1, cell_of_row _ _ _ _ _ _ h1, a1, a2, a3, a4, a5, a6, a7, ((Below.refl _ w).alloc (Nat.le_refl _) _).trans (a8.mono (by omega)), by omega⟩

theorem dig_len_mul {k1 k2 : Nat} {b1 b2 : Bool} {s1 s2 : ByteArray} {z1 z2 : Int} (h1 : Num k1 b1 s1 z1) (h2 : Num k2 b2 s2 z2) (hk1 : k1 ≤ 100000000) (hk2 : k2 ≤ 100000000) : (dig WB (z1.natAbs * z2.natAbs)).length ≤ 1000000000 := by
  have h := h1.sm.mul h2.sm
  unfold Sm at h
  rw [Int.natAbs_mul] at h
  exact dig_len_of h (by omega)

theorem res_box2 {W : World} {g : Nat} {t : TypeId} {a b x y : Value} (h : W.heap[g]? = some (.cells #[a, b] t (0, 0))) :
    ((W.setCell ⟨g, 0, none⟩ x).setCell ⟨g, 1, none⟩ y).heap[g]? = some (.cells #[x, y] t (0, 0)) := by
  have h1 := heap_setCell_same W g 0 _ t x h
  have h2 := heap_setCell_same _ g 1 _ t y h1
  simpa using h2
/-- a canonical number of a product's sign and size -/
theorem gives_wv {k : Nat} {z : Int} {w w' : World} {neg : Bool} {n : Nat} (hn : n = z.natAbs) (hs : n ≠ 0 → (neg = true ↔ z < 0)) (hz : Sm k z) (hb : Below w.heap.size w w') :
    GivesW (k + 7) z w (.returned (.agg #[.bool (neg && decide (n ≠ 0)), .string ⟨(mag n).toArray⟩])) w' := by
  have hc := can_wv neg n z hn hs
  exact ⟨_, _, rfl, hc, hc.num hz, hb⟩
theorem ival_neg_iff {b : Bool} {s : ByteArray} {k : Nat} {z : Int} (h : Num k b s z) (h0 : z ≠ 0) : (b = true ↔ z < 0) := by
  have h1 := h.1
  unfold ival at h1
  cases b
  · simp at h1; simp; omega
  · simp at h1; simp; omega
theorem mul_sign {k1 k2 : Nat} {b1 b2 : Bool} {s1 s2 : ByteArray} {z1 z2 : Int} (h1 : Num k1 b1 s1 z1) (h2 : Num k2 b2 s2 z2) (h0 : z1.natAbs * z2.natAbs ≠ 0) : ((b1 != b2) = true ↔ z1 * z2 < 0) := by
  have hz1 : z1 ≠ 0 := fun e => h0 (by rw [e]; simp)
  have hz2 : z2 ≠ 0 := fun e => h0 (by rw [e]; simp)
  have e1 := ival_neg_iff h1 hz1
  have e2 := ival_neg_iff h2 hz2
  rcases Int.lt_or_gt_of_ne hz1 with g1 | g1 <;> rcases Int.lt_or_gt_of_ne hz2 with g2 | g2
  · have h := Int.mul_pos_of_neg_of_neg g1 g2
    rw [e1.2 g1, e2.2 g2]; simp; omega
  · have h := Int.mul_neg_of_neg_of_pos g1 g2
    have : b2 = false := by cases b2 <;> simp at e2 ⊢; omega
    rw [e1.2 g1, this]; simp [h]
  · have h := Int.mul_neg_of_pos_of_neg g1 g2
    have : b1 = false := by cases b1 <;> simp at e1 ⊢; omega
    rw [e2.2 g2, this]; simp [h]
  · have h := Int.mul_pos g1 g2
    have h1 : b1 = false := by cases b1 <;> simp at e1 ⊢; omega
    have h2 : b2 = false := by cases b2 <;> simp at e2 ⊢; omega
    rw [h1, h2]; simp; omega

theorem neg_sign {k : Nat} {b : Bool} {s : ByteArray} {z : Int} (h : Num k b s z) (h0 : z.natAbs ≠ 0) : ((!b) = true ↔ -z < 0) := by
  have e := ival_neg_iff h (by omega)
  cases b <;> simp at e ⊢ <;> omega

theorem ival_or {k : Nat} {b : Bool} {s : ByteArray} {z : Int} (h : Num k b s z) : (b = true ∧ z ≤ 0) ∨ (b = false ∧ 0 ≤ z) := by
  have h1 := h.1
  unfold ival at h1
  cases b
  · rw [if_neg (by simp)] at h1; exact Or.inr ⟨rfl, by omega⟩
  · rw [if_pos rfl] at h1; exact Or.inl ⟨rfl, by omega⟩
theorem add_same {k1 k2 : Nat} {b1 b2 : Bool} {s1 s2 : ByteArray} {z1 z2 : Int} (h1 : Num k1 b1 s1 z1) (h2 : Num k2 b2 s2 z2) (hb : b1 = b2) :
    z1.natAbs + z2.natAbs = (z1 + z2).natAbs ∧ (z1.natAbs + z2.natAbs ≠ 0 → (b1 = true ↔ z1 + z2 < 0)) := by
  subst hb
  rcases ival_or h1 with ⟨e1, g1⟩ | ⟨e1, g1⟩ <;> rcases ival_or h2 with ⟨e2, g2⟩ | ⟨e2, g2⟩
  · refine ⟨by omega, fun h0 => ?_⟩; simp [e1]; omega
  · rw [e1] at e2; cases e2
  · rw [e1] at e2; cases e2
  · refine ⟨by omega, fun h0 => ?_⟩; simp [e1]; omega
theorem add_lt {k1 k2 : Nat} {b1 b2 : Bool} {s1 s2 : ByteArray} {z1 z2 : Int} (h1 : Num k1 b1 s1 z1) (h2 : Num k2 b2 s2 z2) (hb : b1 ≠ b2) (hlt : z1.natAbs < z2.natAbs) :
    z2.natAbs - z1.natAbs = (z1 + z2).natAbs ∧ (z2.natAbs - z1.natAbs ≠ 0 → (b2 = true ↔ z1 + z2 < 0)) := by
  rcases ival_or h1 with ⟨e1, g1⟩ | ⟨e1, g1⟩ <;> rcases ival_or h2 with ⟨e2, g2⟩ | ⟨e2, g2⟩
  · rw [e1, e2] at hb; exact absurd rfl hb
  · refine ⟨by omega, fun h0 => ?_⟩; simp [e2]; omega
  · refine ⟨by omega, fun h0 => ?_⟩; simp [e2]; omega
  · rw [e1, e2] at hb; exact absurd rfl hb
theorem add_ge {k1 k2 : Nat} {b1 b2 : Bool} {s1 s2 : ByteArray} {z1 z2 : Int} (h1 : Num k1 b1 s1 z1) (h2 : Num k2 b2 s2 z2) (hb : b1 ≠ b2) (hge : ¬ z1.natAbs < z2.natAbs) :
    z1.natAbs - z2.natAbs = (z1 + z2).natAbs ∧ (z1.natAbs - z2.natAbs ≠ 0 → (b1 = true ↔ z1 + z2 < 0)) := by
  rcases ival_or h1 with ⟨e1, g1⟩ | ⟨e1, g1⟩ <;> rcases ival_or h2 with ⟨e2, g2⟩ | ⟨e2, g2⟩
  · rw [e1, e2] at hb; exact absurd rfl hb
  · refine ⟨by omega, fun h0 => ?_⟩; simp [e1]; omega
  · refine ⟨by omega, fun h0 => ?_⟩; simp [e1]; omega
  · rw [e1, e2] at hb; exact absurd rfl hb
theorem sm_add_max {j k : Nat} {y z : Int} (h : Sm j y) (h' : Sm k z) : Sm (j + k + 1) (y + z) := (h.mono (by omega : j ≤ j + k)).add (h'.mono (by omega : k ≤ j + k))
theorem dig_len_z {k : Nat} {z : Int} (h : Sm k z) (hk : k ≤ 1000000000) : (dig WB z.natAbs).length ≤ 1000000000 := dig_len_of h (by omega)

theorem wdDrew {q : IntKind} {w : World} {A : Option Addr} {l : List Nat} (h : Wd q w w.heap.size A l) : Wd q w.drew w.drew.heap.size A l := h

theorem wd_two {W : World} {g : Nat} {x y : Int} {a b : Nat} {t : TypeId} (hx : x = a) (hy : y = b) (hg : W.heap[g]? = some (.cells #[.int .u64 x, .int .u64 y] t (0, 0))) : Wd .u64 W W.heap.size (some ⟨g, 0, none⟩) [a, b] := by
  subst hx hy
  have h : Ow .u64 W g t [a, b] := hg
  exact h.wd h.lt
theorem wd_one {W : World} {g : Nat} {x : Int} {a : Nat} {t : TypeId} (hx : x = a) (hg : W.heap[g]? = some (.cells #[.int .u64 x] t (0, 0))) : Wd .u64 W W.heap.size (some ⟨g, 0, none⟩) [a] := by
  subst hx
  have h : Ow .u64 W g t [a] := hg
  exact h.wd h.lt
theorem val_two {m : Nat} : val WB [m % WB, m / WB] = m := by simp [val]; exact Nat.mod_add_div m WB
theorem dl_two {m : Nat} (h : m < 18446744073709551616) : Dl WB [m % WB, m / WB] := by
  intro d hd
  simp at hd
  rcases hd with rfl | rfl
  · exact Nat.mod_lt _ WB_pos
  · rw [WB_eq]; omega
/-- the box of a result, then a block of the call's own -/
theorem box0res (w : World) (r1 r2 : Value) (t3 : TypeId) (o : Obj) (W : World) (hW : W = (w.alloc (.cells #[r1, r2] t3)).alloc o) :
    W.cell? ⟨w.heap.size, 0, none⟩ = some r1 ∧ W.cell? ⟨w.heap.size, 1, none⟩ = some r2 ∧ W.frozen? ⟨w.heap.size, 0, none⟩ = false ∧ W.frozen? ⟨w.heap.size, 1, none⟩ = false ∧
    W.heap[w.heap.size]? = some (.cells #[r1, r2] t3 (0, 0)) ∧ W.heap[w.heap.size + 1]? = some o ∧ Below w.heap.size w W ∧ W.heap.size = w.heap.size + 2 := by
  have h0 : W.heap.size = w.heap.size + 2 := by rw [hW]; simp
  have h3 : W.heap[w.heap.size]? = some (.cells #[r1, r2] t3 (0, 0)) := by rw [hW, Below.heap_alloc _ _ _ (by simp)]; exact heap_alloc_new w _
  exact ⟨cell_of_row _ _ _ _ _ _ h3, cell_of_row _ _ _ _ _ _ h3, frozen_of_row _ _ _ _ _ h3, frozen_of_row _ _ _ _ _ h3, h3, by rw [hW]; have h := heap_alloc_new (w.alloc (.cells #[r1, r2] t3)) o; simpa using h,
    by rw [hW]; exact ((Below.refl _ w).alloc (Nat.le_refl _) _).alloc (by simp) _, h0⟩

theorem gives_close {k : Nat} {z : Int} {w w' : World} (neg : Bool) {x : Bool} {n : Nat} (hx : x = (neg && decide (n ≠ 0))) (hn : n = z.natAbs) (hs : n ≠ 0 → (neg = true ↔ z < 0)) (hz : Sm k z) (hb : Below w.heap.size w w') :
    GivesW (k + 7) z w (.returned (.agg #[.bool x, .string ⟨(mag n).toArray⟩])) w' := by
  subst hx
  exact gives_wv hn hs hz hb
end Go.Proofs.YtapppahniablmaaDoor
