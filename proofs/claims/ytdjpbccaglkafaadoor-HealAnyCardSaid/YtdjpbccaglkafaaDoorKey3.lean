/- Three points as a map's key. -/
import Derived.Test.YtdjpbccaglkafaaDoorProg
import Derived.KernelRfl
import Derived.RowKit
import Derived.Maps.Keyed
import Derived.DeepKeys4
namespace Go.Proofs.YtdjpbccaglkafaaDoor
open Go.RowKit
set_option maxRecDepth 100000

theorem keyed3 : Maps.Keyed Tryd.prog 44 :=
  Maps.Keyed.of_law (deep_law_laid (by kernel_rfl) (m := 4) (by decide) (of_decide_eq_true (by kernel_rfl)) (by kernel_rfl) (by kernel_rfl))
theorem k3_int : Tryd.prog.underlying 3 = some (.int .i64) := by kernel_rfl
theorem k3_ci : Tryd.prog.cellsOf 3 = 1 := by kernel_rfl
theorem k3_cp : Tryd.prog.cellsOf 34 = 3 := by kernel_rfl
theorem k3_c3 : Tryd.prog.cellsOf 44 = 9 := by kernel_rfl
theorem kl_int (d : Nat) {n : Int} (h : (Lit.int .i64 n).wf = true) : Tryd.prog.keyLits (d + 1) 3 [.int .i64 n] = some [.int .i64 n] := by
  unfold Program.keyLits
  rw [k3_int]
  simp [h]
theorem kl_pt (d : Nat) {x y z : Int} (hx : (Lit.int .i64 x).wf = true) (hy : (Lit.int .i64 y).wf = true) (hz : (Lit.int .i64 z).wf = true) :
    Tryd.prog.keyLits (d + 2) 34 [.int .i64 x, .int .i64 y, .int .i64 z] = some [.int .i64 x, .int .i64 y, .int .i64 z] := by
  unfold Program.keyLits
  rw [Tryd.underlying34]
  simp [k3_cp, k3_ci, kl_int d hx, kl_int d hy, kl_int d hz]
theorem kl_3 (d : Nat) {a b c : List Value} {la lb lc : List Lit} (ha : a.length = 3) (hb : b.length = 3) (hc : c.length = 3) (h1 : Tryd.prog.keyLits (d + 2) 34 a = some la) (h2 : Tryd.prog.keyLits (d + 2) 34 b = some lb) (h3 : Tryd.prog.keyLits (d + 2) 34 c = some lc) :
    Tryd.prog.keyLits (d + 3) 44 (a ++ (b ++ c)) = some (la ++ (lb ++ lc)) := by
  have e1 : (a ++ (b ++ c)).take 3 = a := by rw [← ha, List.take_left]
  have e2 : ((a ++ (b ++ c)).drop 3).take 3 = b := by rw [← ha, List.drop_left, ha, ← hb, List.take_left]
  have e3 : ((a ++ (b ++ c)).drop 6).take 3 = c := by
    rw [show (6 : Nat) = a.length + b.length by omega, ← List.append_assoc, ← List.length_append, List.drop_left, ← hc, List.take_length]
  unfold Program.keyLits
  rw [Tryd.underlying44]
  simp only [k3_c3, k3_cp]
  rw [if_pos (by simp [ha, hb, hc])]
  simp [List.range, List.range.loop, e1, e2, e3, h1, h2, h3]
theorem k3_kt : Tryd.prog.keyType 44 = true := by kernel_rfl
theorem k3_ts : 2 ≤ Tryd.prog.types.size := of_decide_eq_true (by kernel_rfl)
/-- three points are a key -/
theorem key3 {x1 y1 z1 x2 y2 z2 x3 y3 z3 : Int} (hx1 : (Lit.int .i64 x1).wf = true) (hy1 : (Lit.int .i64 y1).wf = true) (hz1 : (Lit.int .i64 z1).wf = true) (hx2 : (Lit.int .i64 x2).wf = true) (hy2 : (Lit.int .i64 y2).wf = true) (hz2 : (Lit.int .i64 z2).wf = true) (hx3 : (Lit.int .i64 x3).wf = true) (hy3 : (Lit.int .i64 y3).wf = true) (hz3 : (Lit.int .i64 z3).wf = true) : ∃ l, keyOf Tryd.prog 44 (.agg #[.int .i64 x1, .int .i64 y1, .int .i64 z1, .int .i64 x2, .int .i64 y2, .int .i64 z2, .int .i64 x3, .int .i64 y3, .int .i64 z3]) = some l := by
  have h := kl_3 (Tryd.prog.types.size - 2) (a := [.int .i64 x1, .int .i64 y1, .int .i64 z1]) (b := [.int .i64 x2, .int .i64 y2, .int .i64 z2]) (c := [.int .i64 x3, .int .i64 y3, .int .i64 z3]) rfl rfl rfl (kl_pt _ hx1 hy1 hz1) (kl_pt _ hx2 hy2 hz2) (kl_pt _ hx3 hy3 hz3)
  rw [show Tryd.prog.types.size - 2 + 3 = Tryd.prog.types.size + 1 by have := k3_ts; omega] at h
  have hf : (Value.agg #[.int .i64 x1, .int .i64 y1, .int .i64 z1, .int .i64 x2, .int .i64 y2, .int .i64 z2, .int .i64 x3, .int .i64 y3, .int .i64 z3]).formed Tryd.prog 44 = true := by
    unfold Value.formed
    rw [Tryd.underlying44]
    simp [k3_c3]
  have hc : (Value.agg #[.int .i64 x1, .int .i64 y1, .int .i64 z1, .int .i64 x2, .int .i64 y2, .int .i64 z2, .int .i64 x3, .int .i64 y3, .int .i64 z3]).cells.toList = [.int .i64 x1, .int .i64 y1, .int .i64 z1, .int .i64 x2, .int .i64 y2, .int .i64 z2, .int .i64 x3, .int .i64 y3, .int .i64 z3] := rfl
  unfold keyOf
  rw [Tryd.underlying44]
  simp only
  rw [k3_kt, hf, hc]
  rw [Bool.and_self, if_pos rfl]
  exact ⟨_, congrArg (Option.map _) h⟩
end Go.Proofs.YtdjpbccaglkafaaDoor
