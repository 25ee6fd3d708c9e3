/- slices.Backward over words: the iterator's contract. -/
import Derived.RangeFuncNested
import Derived.RangeFuncBound
import Derived.RangeFuncCalls
import Derived.RangeFuncLeaves
import Derived.Shelf.Abstract
import Derived.Shelf.RegionOpen
import Derived.WalkKit
import Derived.OwnWalkIn
import Derived.TacticsInMore
import Derived.LoopNIn
import Derived.LoopIn
import Derived.Test.YtapppahniablmaaDoorWords
namespace Go.Proofs.YtapppahniablmaaDoor
open Go.RowKit Go.Shelf
attribute [local go_sem] Oper.semAt_some

/-- what has come when k rounds are over: f 0, .., f (k - 1) -/
def upto {α : Type} (f : Nat → α) (k : Nat) : List α := (List.range k).map f
theorem upto_succ {α : Type} (f : Nat → α) (k : Nat) : upto f (k + 1) = upto f k ++ [f k] := by simp [upto, List.range_succ]
theorem upto_length {α : Type} (f : Nat → α) (k : Nat) : (upto f k).length = k := by simp [upto]

/-- the j-th pair that comes, from the last word on -/
def backAt (l : List Nat) (j : Nat) : Nat × Nat := (l.length - 1 - j, l[l.length - 1 - j]?.getD 0)

/-- what a round keeps: whatever lies below n₀, and the box of the slice -/
def KpB (n₀ Bs : Nat) (W W' : World) : Prop := Below n₀ W W' ∧ W'.heap[Bs]? = W.heap[Bs]?
theorem KpB.refl (n₀ Bs : Nat) (W : World) : KpB n₀ Bs W W := ⟨Below.refl _ _, rfl⟩
theorem KpB.trans {n₀ Bs : Nat} {A B C : World} (h : KpB n₀ Bs A B) (k : KpB n₀ Bs B C) : KpB n₀ Bs A C := ⟨h.1.trans k.1, k.2.trans h.2⟩
theorem KpB.box {n₀ Bs : Nat} {W W' : World} (h : KpB n₀ Bs W W') (i : Nat) : W'.cell? ⟨Bs, i, none⟩ = W.cell? ⟨Bs, i, none⟩ := World.cell?_of_block (w := W) h.2
theorem kpB_put {n₀ Bs : Nat} {w : World} (hn : n₀ ≤ w.heap.size) (hb : Bs < w.heap.size) (W : World) (l : Nat) (o o' : Obj) (hl : w.heap.size ≤ l) (h : W.heap[l]? = some o) (hc : o.isCells = false) (hw : o.isWalk = false) : KpB n₀ Bs W (W.putObj l o') :=
  ⟨belowK_b hn W l o o' hl h hc hw, World.putObj_heap_other (by omega)⟩

set_option maxRecDepth 100000 in
set_option maxHeartbeats 2000000 in
theorem back1_in (F : Fence) (n : Nat) (h8 : F.fn 76) (hro : F.round = none) (hn : 1 ≤ n) (l Bs n₀ len cap : Nat) (A : Option Addr) (zs : List Nat) (hlen : zs.length = len) (hreach : len ≤ 1000000000)
    (J Jx : List (Nat × Nat) → World → Prop)
    (hY : ∀ pre x W, J pre W → pre.length < len → YieldAt F (n - 1) Tryd.prog l #[.int .i64 (x.1 : Int), .int .u64 (x.2 : Int)] W fun e W' =>
      (e = .returned (.bool true) ∧ J (pre ++ [x]) W' ∧ KpB n₀ Bs W W') ∨ (e = .returned (.bool false) ∧ Jx (pre ++ [x]) W'))
    (W : World) (hBs : W.cell? ⟨Bs, 0, none⟩ = some (.slice A len cap)) (hc : Wd .u64 W n₀ A zs) (h0 : J [] W) :
    CallsIn F n Tryd.prog 76 #[.func (.yield l) #[] #[], .pointer (some ⟨Bs, 0, none⟩)] W fun e W' => (∃ v, e = .returned v) ∧
      ((∃ ys, ys = upto (backAt zs) len ∧ J ys W') ∨ (∃ pre, (∃ k, k ≤ len ∧ pre = upto (backAt zs) k) ∧ Jx pre W')) := by
  have HC := Lib.hid hc
  have HLEN := Lib.hid hlen
  clear hc hlen
  refine callsIn_of_wp Tryd.func76 rfl h8 ?_ hro
  simp only [Tryd.ntmps76, List.size_toArray, List.length_cons, List.length_nil, Nat.reduceAdd, Nat.reduceSub, Array.replicate_succ, Array.replicate_zero, List.push_toArray, List.append_toArray, List.nil_append, List.cons_append]
  gi_wp2
  gi_loopw [3] (fun i wr => ∃ k : Nat, k ≤ len ∧ i = .int .i64 ((len : Int) - 1 - k) ∧ J (upto (backAt zs) k) wr ∧ KpB n₀ Bs W wr)
    (fun i _ => (intOf i + 1).toNat)
  case atStart => exact ⟨0, Nat.zero_le _, by go_num, h0, KpB.refl _ _ _⟩
  case round =>
    obtain ⟨k, hk, rfl, hJs, hnx⟩ := hrel
    have hbs := (hnx.box 0).trans hBs
    by_cases hlt : k < len
    · have HE : Hid (backAt zs k = (len - 1 - k, zs[len - 1 - k]?.getD 0)) := by unfold backAt; rw [HLEN.out]; rfl
      have hidx : ((len : Int) - 1 - (k : Int)) = ((len - 1 - k : Nat) : Int) := by omega
      obtain ⟨ad, rfl, hcx⟩ := (HC.out.below hnx.1).get (k := len - 1 - k) (by have := HLEN.out; omega)
      obtain ⟨fn, tmps, assign, body, hy, hR⟩ := hY _ (len - 1 - k, zs[len - 1 - k]?.getD 0) wr hJs (by rw [upto_length]; exact hlt)
      dsimp only at hy
      rw [← hidx] at hy
      clear hidx
      gi_wp2
      refine hR.mono ?_
      rintro e W3 (⟨rfl, hJ3, hk3⟩ | ⟨rfl, hJx3⟩)
      · gi_wp2
        go_roundw
        case rel => exact ⟨k + 1, by omega, by go_num, by rw [upto_succ, HE.out]; exact hJ3, hnx.trans hk3⟩
        case measure => simp [intOf]; omega
      · gi_wp2
        refine bodyPost_ret (results_none rfl _ _ _) rfl ?_
        exact ⟨⟨_, rfl⟩, .inr ⟨_, ⟨k + 1, by omega, by rw [upto_succ, HE.out]⟩, hJx3⟩⟩
    · obtain rfl : k = len := by omega
      gi_wp2
      go_end0
      exact ⟨⟨_, rfl⟩, .inl ⟨_, rfl, hJs⟩⟩

set_option maxHeartbeats 1000000 in
theorem back_in (F : Fence) (n : Nat) (h6 : F.fn 69) (hro : F.round = none) (a : Option Addr) (len cap : Nat) (w : World) :
    CallsIn F n Tryd.prog 69 #[.slice a len cap] w fun e w' => e = .returned (.func (.func 76) #[] #[.pointer (some ⟨w.heap.size, 0, none⟩)]) ∧ w' = w.alloc (.cells #[.slice a len cap] 75) := by
  refine callsIn_of_wp Tryd.func69 rfl h6 ?_ hro
  simp only [Tryd.ntmps69, List.size_toArray, List.length_cons, List.length_nil, Nat.reduceAdd, Nat.reduceSub, Array.replicate_succ, Array.replicate_zero, List.push_toArray, List.append_toArray, List.nil_append, List.cons_append]
  gi_wp2
  go_ret
  exact ⟨rfl, rfl⟩

theorem back_stops (F : Fence) (n : Nat) (h8 : F.fn 76) (hro : F.round = none) (hn : 1 ≤ n) (Bs n₀ len cap : Nat) (A : Option Addr) (zs : List Nat) (hlen : zs.length = len) (hreach : len ≤ 1000000000)
    (w : World) (hBs : Bs < w.heap.size) (hn₀ : n₀ ≤ w.heap.size) (hc : w.cell? ⟨Bs, 0, none⟩ = some (.slice A len cap)) (hI : Wd .u64 w n₀ A zs) :
    SeqStopsK F n Tryd.prog 76 #[.pointer (some ⟨Bs, 0, none⟩)] (fun x : Nat × Nat => #[Value.int .i64 (x.1 : Int), Value.int .u64 (x.2 : Int)]) (KpB n₀ Bs) (fun ys => ys = upto (backAt zs) len)
      (fun pre => ∃ k, k ≤ len ∧ pre = upto (backAt zs) k) len w := fun l J Jx W hW _ _ hY h0 => by
  have hb := hW.mono hn₀
  exact back1_in F n h8 hro hn l Bs n₀ len cap A zs hlen hreach J Jx hY W ((hW.cell (p := ⟨Bs, 0, none⟩) hBs).trans hc) (hI.below hb) h0
theorem back_list (zs : List Nat) (k : Nat) (hk : zs.length = k) : (upto (backAt zs) k).map (·.2) = zs.reverse := by
  subst hk
  apply List.ext_getElem
  · simp [upto]
  · intro i h1 h2
    simp [upto] at h1
    simp [upto, backAt, List.getElem_reverse]
    rw [List.getElem?_eq_getElem (by omega)]; rfl
theorem back_words {β : Type} (g : UInt8 → β) (zs : List Nat) (k : Nat) (hk : zs.length = k) : (upto (backAt zs) k).flatMap (fun x => (b4 x.2).map g) = (zs.reverse.flatMap b4).map g := by
  rw [← back_list zs k hk, List.map_flatMap, List.flatMap_map]
end Go.Proofs.YtapppahniablmaaDoor
