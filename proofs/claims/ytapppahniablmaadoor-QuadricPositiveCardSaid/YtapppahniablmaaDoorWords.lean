/- Words for memory: a slice that holds digits; a block of the call's own that holds digits. -/
import Derived.Test.YtapppahniablmaaDoorMath
import Derived.Test.YtapppahniablmaaDoorProg
import Derived.WalkKit
import Derived.WalkSpells
import Derived.WalkLawsBesides
import Derived.Lib.Hide
namespace Go.Proofs.YtapppahniablmaaDoor
open Go.RowKit

/-- the base of the words: behind a name, since a great numeral in a walk's context is a burden -/
def WB : Nat := 4294967296
theorem WB_eq : WB = 4294967296 := rfl
theorem WB_two : 2 ≤ WB := by rw [WB_eq]; omega
theorem WB_pos : 0 < WB := by rw [WB_eq]; omega

/-- the slice at A holds the digits l (of the integer kind q), below block B -/
def Wd (q : IntKind) (w : World) (B : Nat) (A : Option Addr) (l : List Nat) : Prop :=
  0 < l.length → ∃ ad, A = some ad ∧ ad.block < B ∧ ∀ i, i < l.length → w.cell? (ad.add i) = some (.int q ((l[i]?.getD 0 : Nat) : Int))

/-- block g is the digits l, of element type t, nothing frozen -/
def Ow (q : IntKind) (w : World) (g : Nat) (t : TypeId) (l : List Nat) : Prop :=
  w.heap[g]? = some (.cells (l.map fun d : Nat => Value.int q (d : Int)).toArray t (0, 0))

theorem addr_block (a : Addr) (n : Nat) : (a.add n).block = a.block := by unfold Addr.add; split <;> rfl
theorem addr_add (a : Addr) (i j : Nat) : (a.add i).add j = a.add (i + j) := by
  unfold Addr.add
  by_cases hi : i = 0 <;> by_cases hj : j = 0 <;> simp [hi, hj, Nat.add_assoc]

section
variable {q : IntKind} {w w' : World} {B B' g : Nat} {A : Option Addr} {l : List Nat} {t : TypeId}
theorem Wd.nil (q : IntKind) (w : World) (B : Nat) (A : Option Addr) : Wd q w B A [] := fun h => by simp at h
theorem Wd.get {k : Nat} (h : Wd q w B A l) (hk : k < l.length) : ∃ ad, A = some ad ∧ w.cell? (ad.add k) = some (.int q ((l[k]?.getD 0 : Nat) : Int)) := by
  obtain ⟨ad, e, _, hc⟩ := h (by omega)
  exact ⟨ad, e, hc k hk⟩
theorem Wd.keep (h : Wd q w B A l) (hB : B ≤ B') (hk : ∀ p : Addr, p.block < B → w'.cell? p = w.cell? p) : Wd q w' B' A l := fun hn => by
  obtain ⟨ad, e, hb, hc⟩ := h hn
  exact ⟨ad, e, by omega, fun i hi => (hk _ (by rw [addr_block]; exact hb)).trans (hc i hi)⟩
theorem Wd.more (h : Wd q w B A l) (hB : B ≤ B') : Wd q w B' A l := h.keep hB fun _ _ => rfl
theorem Wd.below (h : Wd q w B A l) (hb : Below B w w') : Wd q w' B A l := h.keep (Nat.le_refl _) fun _ hp => hb.cell hp
theorem Wd.take (h : Wd q w B A l) (k : Nat) : Wd q w B A (l.take k) := fun hn => by
  rw [List.length_take] at hn
  obtain ⟨ad, e, hb, hc⟩ := h (by omega)
  refine ⟨ad, e, hb, fun i hi => ?_⟩
  rw [List.length_take] at hi
  rw [hc i (by omega), List.getElem?_take, if_pos (by omega)]

theorem Ow.lt (h : Ow q w g t l) : g < w.heap.size := by
  rcases Nat.lt_or_ge g w.heap.size with hlt | hge
  · exact hlt
  · unfold Ow at h; rw [Array.getElem?_eq_none hge] at h; cases h
theorem Ow.cell (h : Ow q w g t l) (i : Nat) (hi : i < l.length) : w.cell? ⟨g, i, none⟩ = some (.int q ((l[i]?.getD 0 : Nat) : Int)) := by
  rw [cell_of_row w g i _ t (0, 0) h]
  simp [List.getElem?_eq_getElem hi]
theorem Ow.free (h : Ow q w g t l) (i : Nat) : w.frozen? ⟨g, i, none⟩ = false := frozen_of_row w g i _ t h
theorem Ow.drew (h : Ow q w g t l) : Ow q w.drew g t l := h
theorem Ow.alloc (h : Ow q w g t l) (o : Obj) : Ow q (w.alloc o) g t l := (Below.heap_alloc w o g h.lt).trans h
theorem Ow.set (h : Ow q w g t l) (i v : Nat) : Ow q (w.setCell ⟨g, i, none⟩ (.int q (v : Int))) g t (l.set i v) := by
  unfold Ow at h ⊢
  rw [heap_setCell_same w g i _ t _ h]
  simp [List.map_set]
theorem Ow.far (h : Ow q w g t l) {p : Addr} (hp : g ≠ p.block) (u : Value) : Ow q (w.setCell p u) g t l := (Below.heap_setCell w p u g hp).trans h
theorem Ow.below (h : Ow q w g t l) (hb : Below B w w') (hg : g < B) : Ow q w' g t l := (hb.block g hg).trans h
theorem Ow.wd (h : Ow q w g t l) (hB : g < B) : Wd q w B (some ⟨g, 0, none⟩) l := fun _ => by
  refine ⟨_, rfl, hB, fun i hi => ?_⟩
  have : (Addr.add ⟨g, 0, none⟩ i) = ⟨g, i, none⟩ := by unfold Addr.add; split <;> simp_all
  rw [this, h.cell i hi]
theorem Ow.new (w : World) (q : IntKind) (t : TypeId) (n : Nat) : Ow q (w.alloc (.cells (madeCells #[.int q 0] n) t)) w.heap.size t (List.replicate n 0) := by
  unfold Ow
  rw [heap_alloc_new]
  have : madeCells #[.int q 0] n = (List.map (fun d : Nat => Value.int q (d : Int)) (List.replicate n 0)).toArray := by
    apply Array.ext'
    rw [toList_madeCells_one]
    simp
  rw [this]
end

/-- make of digits, its size reckoned: an equation for every world -/
theorem run_make_dig {P : Program} {q : IntKind} (t e : TypeId) (ht : P.underlying t = some (.slice e)) (hi : (P.info? e).map (fun i => (i.zero, i.size, i.bytes)) = some (some (.int q 0), 1, 8))
    (z : Int) (n : Nat) (hz : z = n) (hn : n ≤ 1099511627776) (w : World) :
    (Instr.makeSlice t (.int .i64 z) (.int .i64 z)).run P w = .ok (.slice (some ⟨w.heap.size, 0, none⟩) n n) (w.alloc (.cells (madeCells #[.int q 0] n) e)) := by
  obtain ⟨i0, hi0, h1, h2, h3⟩ := info_parts hi
  subst hz
  have hr := run_make (P := P) w t e i0 (.int q 0) ht hi0 h1 .i64 .i64 n n (by omega) (Int.le_refl _) (by rw [h3]; omega) (by omega)
  simp only [Int.toNat_natCast] at hr
  rw [hr, h2, Nat.mul_one]
  rfl

/-- the low word of a sum -/
theorem and_mask (z : Int) (n : Nat) (hz : z = n) (hn : n < 18446744073709551616) : bits .and .u64 z 4294967295 = ((n % WB : Nat) : Int) := by
  subst hz
  rw [show (4294967295 : Int) = ((4294967295 : Nat) : Int) from rfl, u64_and_nat n _ hn (by omega), nat_mask32, WB_eq]
theorem div_word (z : Int) (n : Nat) (hz : z = n) : z / 4294967296 = ((n / WB : Nat) : Int) := by subst hz; rw [WB_eq]; omega

theorem run_make_cap {P : Program} {q : IntKind} (t e : TypeId) (ht : P.underlying t = some (.slice e)) (by_ : Nat) (hb : by_ ≤ 8) (hi : (P.info? e).map (fun i => (i.zero, i.size, i.bytes)) = some (some (.int q 0), 1, by_))
    (z : Int) (n : Nat) (hz : z = n) (hn : n ≤ 1099511627776) (w : World) :
    (Instr.makeSlice t (.int .i64 0) (.int .i64 z)).run P w = .ok (.slice (some ⟨w.heap.size, 0, none⟩) 0 n) (w.alloc (.cells (madeCells #[.int q 0] n) e)) := by
  obtain ⟨i0, hi0, h1, h2, h3⟩ := info_parts hi
  subst hz
  have hm : (by_ : Int) * n ≤ 8 * n := Int.mul_le_mul_of_nonneg_right (by omega) (by omega)
  have hr := run_make (P := P) w t e i0 (.int q 0) ht hi0 h1 .i64 .i64 0 n (by omega) (by omega) (by rw [h3]; omega) (by omega)
  simp only [Int.toNat_natCast] at hr
  rw [hr, h2, Nat.mul_one]
  rfl

/-- the cells of a new block that was laid for values -/
theorem cell_lit_new (w : World) (cs : Array Value) (t : TypeId) : ∀ (j : Nat) u, cs.toList[j]? = some u → (w.alloc (.cells cs t)).cell? ((⟨w.heap.size, 0, none⟩ : Addr).add j) = some u := by
  intro j u hj
  have : (Addr.add ⟨w.heap.size, 0, none⟩ j) = ⟨w.heap.size, j, none⟩ := by unfold Addr.add; split <;> simp_all
  rw [this, World.cell?_alloc_at _ _ _ _ rfl]
  simpa using hj

theorem bel {W w1 : World} (hb : Below W.heap.size W w1) : (∀ b o, b < W.heap.size → w1.cell? ⟨b, o, none⟩ = W.cell? ⟨b, o, none⟩) ∧ (∀ b o, b < W.heap.size → w1.frozen? ⟨b, o, none⟩ = W.frozen? ⟨b, o, none⟩) :=
  ⟨fun b o h => hb.cell (p := ⟨b, o, none⟩) h, fun b o h => hb.frozen (p := ⟨b, o, none⟩) h⟩
theorem ret_eq {a b : Value} (h : a = b) : Ending.returned a = .returned b := by rw [h]
end Go.Proofs.YtapppahniablmaaDoor
