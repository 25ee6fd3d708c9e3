/- What stays behind a call. -/
import Derived.Deep.RegionHeld3
import Derived.Test.YtapppahniablmaaDoorWords
namespace Go.Proofs.YtapppahniablmaaDoor
open Go.RowKit

/-- cells and marks stay behind a call that keeps what lay there -/
theorem keepCell {W w1 : World} {p : Addr} {v : Value} (hb : Below W.heap.size W w1) (h : W.cell? p = some v) : w1.cell? p = some v :=
  (hb.cell (World.block_lt_of_cell? W p h)).trans h
theorem keepFree {W w1 : World} {p : Addr} {v : Value} (hb : Below W.heap.size W w1) (h : W.cell? p = some v) (hf : W.frozen? p = false) : w1.frozen? p = false :=
  (hb.frozen (World.block_lt_of_cell? W p h)).trans hf
theorem keepWd {q : IntKind} {W w1 : World} {A : Option Addr} {l : List Nat} (hb : Below W.heap.size W w1) (h : Wd q W W.heap.size A l) : Wd q w1 w1.heap.size A l := (h.below hb).more hb.size
theorem keepBel {N : Nat} {w W w1 : World} (hb : Below W.heap.size W w1) (h : Below N w W) (hN : N ≤ W.heap.size) : Below N w w1 := h.trans (hb.mono hN)

theorem keepSet {W : World} {p q : Addr} {u v : Value} (h : W.cell? p = some v) (hne : q.block ≠ p.block) : (W.setCell q u).cell? p = some v := by
  rw [World.cell?_setCell_far _ _ _ _ hne]; exact h

theorem keepBlk {W w1 : World} {g : Nat} {o : Obj} (hb : Below W.heap.size W w1) (h : W.heap[g]? = some o) : w1.heap[g]? = some o :=
  (hb.block g (Array.getElem?_eq_some_iff.1 h).1).trans h
theorem two_new (w : World) (o0 o1 : Obj) (W : World) (hW : W = (w.alloc o0).alloc o1) :
    W.heap[w.heap.size]? = some o0 ∧ W.heap[w.heap.size + 1]? = some o1 ∧ Below w.heap.size w W ∧ W.heap.size = w.heap.size + 2 := by
  have h0 := heap_alloc_new w o0
  have h1 := heap_alloc_new (w.alloc o0) o1
  simp only [World.size_alloc] at h1
  subst hW
  refine ⟨?_, h1, ((Below.refl _ w).alloc (Nat.le_refl _) _).alloc (by simp) _, by simp⟩
  rw [Below.heap_alloc _ _ _ (by simp)]; exact h0
end Go.Proofs.YtapppahniablmaaDoor
