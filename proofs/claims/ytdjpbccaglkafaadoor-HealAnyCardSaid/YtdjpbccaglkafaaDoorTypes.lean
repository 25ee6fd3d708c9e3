/- The types' table. -/
import Derived.Test.YtdjpbccaglkafaaDoorEno
import Derived.Test.YtdjpbccaglkafaaDoorProg
import Derived.KernelRfl
namespace Go.Proofs.YtdjpbccaglkafaaDoor
open Go.RowKit

def zi : C := .int 0 (by unfold IR; omega)
def zw : C := .wid 0 0 (by unfold Sm; decide)
def zb : C := .val (.bool false)
def zs : C := .val (.string ⟨#[]⟩)
theorem cells_zw (ρ : Rho) : zw.cells ρ = [.bool false, .string ⟨#[]⟩] := by simp [zw, C.cells, mag_zero]
theorem cells_zi (ρ : Rho) : zi.cells ρ = [.int .i64 0] := rfl
theorem cells_zb (ρ : Rho) : zb.cells ρ = [.bool false] := rfl
theorem cells_zs (ρ : Rho) : zs.cells ρ = [.string ⟨#[]⟩] := rfl
theorem cells_val (ρ : Rho) (v : Value) : (C.val v).cells ρ = [v] := rfl
def lk {α : Type} : List (Nat × α) → Nat → Option α
  | [], _ => none
  | (a, x) :: l, n => if a = n then some x else lk l n
theorem lk_mem {α : Type} {l : List (Nat × α)} {n : Nat} {x : α} (h : lk l n = some x) : (n, x) ∈ l := by
  induction l with
  | nil => simp [lk] at h
  | cons p l ih =>
    obtain ⟨a, y⟩ := p
    unfold lk at h
    split at h
    · rename_i e; cases h; subst e; simp
    · simp [ih h]
set_option maxRecDepth 100000
def ty2 : TI := { size := 1, agg := false, zero := [zi], sh := .int .i64, eq := none }
theorem ty2_ok : TIOk Tryd.prog 2 ty2 := by
  refine ⟨by kernel_rfl, by kernel_rfl, fun ρ => ?_, Tryd.underlying2, (fun _ h => nomatch h)⟩
  rw [show cellsL ρ ty2.zero = [.int .i64 0] from by simp only [ty2, cellsL, List.flatMap_cons, List.flatMap_nil, cells_zi, List.cons_append, List.nil_append]]
  kernel_rfl
def ty3 : TI := { size := 1, agg := false, zero := [zi], sh := .int .i64, eq := none }
theorem ty3_ok : TIOk Tryd.prog 3 ty3 := by
  refine ⟨by kernel_rfl, by kernel_rfl, fun ρ => ?_, Tryd.underlying3, (fun _ h => nomatch h)⟩
  rw [show cellsL ρ ty3.zero = [.int .i64 0] from by simp only [ty3, cellsL, List.flatMap_cons, List.flatMap_nil, cells_zi, List.cons_append, List.nil_append]]
  kernel_rfl
def ty4 : TI := { size := 1, agg := false, zero := [zb], sh := .bool, eq := none }
theorem ty4_ok : TIOk Tryd.prog 4 ty4 := by
  refine ⟨by kernel_rfl, by kernel_rfl, fun ρ => ?_, Tryd.underlying4, (fun _ h => nomatch h)⟩
  rw [show cellsL ρ ty4.zero = [.bool false] from by simp only [ty4, cellsL, List.flatMap_cons, List.flatMap_nil, cells_zb, List.cons_append, List.nil_append]]
  kernel_rfl
def ty5 : TI := { size := 1, agg := false, zero := [.val (.int .u8 0)], sh := .int .u8, eq := none }
theorem ty5_ok : TIOk Tryd.prog 5 ty5 := by
  refine ⟨by kernel_rfl, by kernel_rfl, fun ρ => ?_, Tryd.underlying5, (fun _ h => nomatch h)⟩
  rw [show cellsL ρ ty5.zero = [.int .u8 0] from by simp only [ty5, cellsL, List.flatMap_cons, List.flatMap_nil, cells_val, List.cons_append, List.nil_append]]
  kernel_rfl
def ty9 : TI := { size := 1, agg := false, zero := [zs], sh := .string, eq := none }
theorem ty9_ok : TIOk Tryd.prog 9 ty9 := by
  refine ⟨by kernel_rfl, by kernel_rfl, fun ρ => ?_, Tryd.underlying9, (fun _ h => nomatch h)⟩
  rw [show cellsL ρ ty9.zero = [.string ⟨#[]⟩] from by simp only [ty9, cellsL, List.flatMap_cons, List.flatMap_nil, cells_zs, List.cons_append, List.nil_append]]
  kernel_rfl
def ty12 : TI := { size := 1, agg := false, zero := [.val (.int .u64 0)], sh := .int .u64, eq := none }
theorem ty12_ok : TIOk Tryd.prog 12 ty12 := by
  refine ⟨by kernel_rfl, by kernel_rfl, fun ρ => ?_, Tryd.underlying12, (fun _ h => nomatch h)⟩
  rw [show cellsL ρ ty12.zero = [.int .u64 0] from by simp only [ty12, cellsL, List.flatMap_cons, List.flatMap_nil, cells_val, List.cons_append, List.nil_append]]
  kernel_rfl
def ty21 : TI := { size := 1, agg := false, zero := [.val (.int .i32 0)], sh := .int .i32, eq := none }
theorem ty21_ok : TIOk Tryd.prog 21 ty21 := by
  refine ⟨by kernel_rfl, by kernel_rfl, fun ρ => ?_, Tryd.underlying21, (fun _ h => nomatch h)⟩
  rw [show cellsL ρ ty21.zero = [.int .i32 0] from by simp only [ty21, cellsL, List.flatMap_cons, List.flatMap_nil, cells_val, List.cons_append, List.nil_append]]
  kernel_rfl
def ty22 : TI := { size := 1, agg := false, zero := [.val (.slice none 0 0)], sh := .slice 60 1 [.val (.slice none 0 0)], eq := none }
theorem ty22_ok : TIOk Tryd.prog 22 ty22 := by
  refine ⟨by kernel_rfl, by kernel_rfl, fun ρ => ?_, ⟨Tryd.underlying22, by kernel_rfl, by kernel_rfl, by decide, by kernel_rfl, fun ρ => ⟨by rw [show cellsL ρ [.val (.slice none 0 0)] = [.slice none 0 0] from by simp only [cellsL, List.flatMap_cons, List.flatMap_nil, cells_val, List.cons_append, List.nil_append]]; kernel_rfl, by rw [show cellsL ρ [.val (.slice none 0 0)] = [.slice none 0 0] from by simp only [cellsL, List.flatMap_cons, List.flatMap_nil, cells_val, List.cons_append, List.nil_append]]; rfl⟩⟩, (fun _ h => nomatch h)⟩
  rw [show cellsL ρ ty22.zero = [.slice none 0 0] from by simp only [ty22, cellsL, List.flatMap_cons, List.flatMap_nil, cells_val, List.cons_append, List.nil_append]]
  kernel_rfl
def ty25 : TI := { size := 1, agg := false, zero := [.val (.slice none 0 0)], sh := .slice 31 2 [.val (.slice none 0 0), zi], eq := none }
theorem ty25_ok : TIOk Tryd.prog 25 ty25 := by
  refine ⟨by kernel_rfl, by kernel_rfl, fun ρ => ?_, ⟨Tryd.underlying25, by kernel_rfl, by kernel_rfl, by decide, by kernel_rfl, fun ρ => ⟨by rw [show cellsL ρ [.val (.slice none 0 0), zi] = [.slice none 0 0, .int .i64 0] from by simp only [cellsL, List.flatMap_cons, List.flatMap_nil, cells_val, cells_zi, List.cons_append, List.nil_append]]; kernel_rfl, by rw [show cellsL ρ [.val (.slice none 0 0), zi] = [.slice none 0 0, .int .i64 0] from by simp only [cellsL, List.flatMap_cons, List.flatMap_nil, cells_val, cells_zi, List.cons_append, List.nil_append]]; rfl⟩⟩, (fun _ h => nomatch h)⟩
  rw [show cellsL ρ ty25.zero = [.slice none 0 0] from by simp only [ty25, cellsL, List.flatMap_cons, List.flatMap_nil, cells_val, List.cons_append, List.nil_append]]
  kernel_rfl
def ty29 : TI := { size := 1, agg := false, zero := [.val (.slice none 0 0)], sh := .slice 34 3 [zi, zi, zi], eq := none }
theorem ty29_ok : TIOk Tryd.prog 29 ty29 := by
  refine ⟨by kernel_rfl, by kernel_rfl, fun ρ => ?_, ⟨Tryd.underlying29, by kernel_rfl, by kernel_rfl, by decide, by kernel_rfl, fun ρ => ⟨by rw [show cellsL ρ [zi, zi, zi] = [.int .i64 0, .int .i64 0, .int .i64 0] from by simp only [cellsL, List.flatMap_cons, List.flatMap_nil, cells_zi, List.cons_append, List.nil_append]]; kernel_rfl, by rw [show cellsL ρ [zi, zi, zi] = [.int .i64 0, .int .i64 0, .int .i64 0] from by simp only [cellsL, List.flatMap_cons, List.flatMap_nil, cells_zi, List.cons_append, List.nil_append]]; rfl⟩⟩, (fun _ h => nomatch h)⟩
  rw [show cellsL ρ ty29.zero = [.slice none 0 0] from by simp only [ty29, cellsL, List.flatMap_cons, List.flatMap_nil, cells_val, List.cons_append, List.nil_append]]
  kernel_rfl
def ty30 : TI := { size := 2, agg := true, zero := [.val (.slice none 0 0), zi], sh := .struct [(0, 1, false), (1, 1, false)], eq := none }
theorem ty30_ok : TIOk Tryd.prog 30 ty30 := by
  refine ⟨by kernel_rfl, by kernel_rfl, fun ρ => ?_, ⟨_, Tryd.underlying30, by kernel_rfl, by decide⟩, (fun _ h => nomatch h)⟩
  rw [show cellsL ρ ty30.zero = [.slice none 0 0, .int .i64 0] from by simp only [ty30, cellsL, List.flatMap_cons, List.flatMap_nil, cells_val, cells_zi, List.cons_append, List.nil_append]]
  kernel_rfl
def ty31 : TI := { size := 2, agg := true, zero := [.val (.slice none 0 0), zi], sh := .struct [(0, 1, false), (1, 1, false)], eq := none }
theorem ty31_ok : TIOk Tryd.prog 31 ty31 := by
  refine ⟨by kernel_rfl, by kernel_rfl, fun ρ => ?_, ⟨_, Tryd.underlying31, by kernel_rfl, by decide⟩, (fun _ h => nomatch h)⟩
  rw [show cellsL ρ ty31.zero = [.slice none 0 0, .int .i64 0] from by simp only [ty31, cellsL, List.flatMap_cons, List.flatMap_nil, cells_val, cells_zi, List.cons_append, List.nil_append]]
  kernel_rfl
def ty32 : TI := { size := 1, agg := false, zero := [.val (.slice none 0 0)], sh := .slice 5 1 [.val (.int .u8 0)], eq := none }
theorem ty32_ok : TIOk Tryd.prog 32 ty32 := by
  refine ⟨by kernel_rfl, by kernel_rfl, fun ρ => ?_, ⟨Tryd.underlying32, by kernel_rfl, by kernel_rfl, by decide, by kernel_rfl, fun ρ => ⟨by rw [show cellsL ρ [.val (.int .u8 0)] = [.int .u8 0] from by simp only [cellsL, List.flatMap_cons, List.flatMap_nil, cells_val, List.cons_append, List.nil_append]]; kernel_rfl, by rw [show cellsL ρ [.val (.int .u8 0)] = [.int .u8 0] from by simp only [cellsL, List.flatMap_cons, List.flatMap_nil, cells_val, List.cons_append, List.nil_append]]; rfl⟩⟩, (fun _ h => nomatch h)⟩
  rw [show cellsL ρ ty32.zero = [.slice none 0 0] from by simp only [ty32, cellsL, List.flatMap_cons, List.flatMap_nil, cells_val, List.cons_append, List.nil_append]]
  kernel_rfl
def ty34 : TI := { size := 3, agg := true, zero := [zi, zi, zi], sh := .struct [(0, 1, false), (1, 1, false), (2, 1, false)], eq := some [.i .i64, .i .i64, .i .i64] }
theorem ty34_ok : TIOk Tryd.prog 34 ty34 := by
  refine ⟨by kernel_rfl, by kernel_rfl, fun ρ => ?_, ⟨_, Tryd.underlying34, by kernel_rfl, by decide⟩, fun ks h => by cases h; exact ⟨by kernel_rfl, by kernel_rfl, rfl⟩⟩
  rw [show cellsL ρ ty34.zero = [.int .i64 0, .int .i64 0, .int .i64 0] from by simp only [ty34, cellsL, List.flatMap_cons, List.flatMap_nil, cells_zi, List.cons_append, List.nil_append]]
  kernel_rfl
def ty36 : TI := { size := 1, agg := false, zero := [.val (.slice none 0 0)], sh := .slice 45 9 [zi, zi, zi, zi, zi, zi, zi, zi, zi], eq := none }
theorem ty36_ok : TIOk Tryd.prog 36 ty36 := by
  refine ⟨by kernel_rfl, by kernel_rfl, fun ρ => ?_, ⟨Tryd.underlying36, by kernel_rfl, by kernel_rfl, by decide, by kernel_rfl, fun ρ => ⟨by rw [show cellsL ρ [zi, zi, zi, zi, zi, zi, zi, zi, zi] = [.int .i64 0, .int .i64 0, .int .i64 0, .int .i64 0, .int .i64 0, .int .i64 0, .int .i64 0, .int .i64 0, .int .i64 0] from by simp only [cellsL, List.flatMap_cons, List.flatMap_nil, cells_zi, List.cons_append, List.nil_append]]; kernel_rfl, by rw [show cellsL ρ [zi, zi, zi, zi, zi, zi, zi, zi, zi] = [.int .i64 0, .int .i64 0, .int .i64 0, .int .i64 0, .int .i64 0, .int .i64 0, .int .i64 0, .int .i64 0, .int .i64 0] from by simp only [cellsL, List.flatMap_cons, List.flatMap_nil, cells_zi, List.cons_append, List.nil_append]]; rfl⟩⟩, (fun _ h => nomatch h)⟩
  rw [show cellsL ρ ty36.zero = [.slice none 0 0] from by simp only [ty36, cellsL, List.flatMap_cons, List.flatMap_nil, cells_val, List.cons_append, List.nil_append]]
  kernel_rfl
def ty37 : TI := { size := 1, agg := false, zero := [.val (.slice none 0 0)], sh := .slice 43 2 [zi, zi], eq := none }
theorem ty37_ok : TIOk Tryd.prog 37 ty37 := by
  refine ⟨by kernel_rfl, by kernel_rfl, fun ρ => ?_, ⟨Tryd.underlying37, by kernel_rfl, by kernel_rfl, by decide, by kernel_rfl, fun ρ => ⟨by rw [show cellsL ρ [zi, zi] = [.int .i64 0, .int .i64 0] from by simp only [cellsL, List.flatMap_cons, List.flatMap_nil, cells_zi, List.cons_append, List.nil_append]]; kernel_rfl, by rw [show cellsL ρ [zi, zi] = [.int .i64 0, .int .i64 0] from by simp only [cellsL, List.flatMap_cons, List.flatMap_nil, cells_zi, List.cons_append, List.nil_append]]; rfl⟩⟩, (fun _ h => nomatch h)⟩
  rw [show cellsL ρ ty37.zero = [.slice none 0 0] from by simp only [ty37, cellsL, List.flatMap_cons, List.flatMap_nil, cells_val, List.cons_append, List.nil_append]]
  kernel_rfl
def ty41 : TI := { size := 1, agg := false, zero := [zi], sh := .int .i64, eq := none }
theorem ty41_ok : TIOk Tryd.prog 41 ty41 := by
  refine ⟨by kernel_rfl, by kernel_rfl, fun ρ => ?_, Tryd.underlying41, (fun _ h => nomatch h)⟩
  rw [show cellsL ρ ty41.zero = [.int .i64 0] from by simp only [ty41, cellsL, List.flatMap_cons, List.flatMap_nil, cells_zi, List.cons_append, List.nil_append]]
  kernel_rfl
def ty42 : TI := { size := 2, agg := true, zero := [zi, zi], sh := .struct [(0, 1, false), (1, 1, false)], eq := some [.i .i64, .i .i64] }
theorem ty42_ok : TIOk Tryd.prog 42 ty42 := by
  refine ⟨by kernel_rfl, by kernel_rfl, fun ρ => ?_, ⟨_, Tryd.underlying42, by kernel_rfl, by decide⟩, fun ks h => by cases h; exact ⟨by kernel_rfl, by kernel_rfl, rfl⟩⟩
  rw [show cellsL ρ ty42.zero = [.int .i64 0, .int .i64 0] from by simp only [ty42, cellsL, List.flatMap_cons, List.flatMap_nil, cells_zi, List.cons_append, List.nil_append]]
  kernel_rfl
def ty43 : TI := { size := 2, agg := true, zero := [zi, zi], sh := .struct [(0, 1, false), (1, 1, false)], eq := some [.i .i64, .i .i64] }
theorem ty43_ok : TIOk Tryd.prog 43 ty43 := by
  refine ⟨by kernel_rfl, by kernel_rfl, fun ρ => ?_, ⟨_, Tryd.underlying43, by kernel_rfl, by decide⟩, fun ks h => by cases h; exact ⟨by kernel_rfl, by kernel_rfl, rfl⟩⟩
  rw [show cellsL ρ ty43.zero = [.int .i64 0, .int .i64 0] from by simp only [ty43, cellsL, List.flatMap_cons, List.flatMap_nil, cells_zi, List.cons_append, List.nil_append]]
  kernel_rfl
def ty44 : TI := { size := 9, agg := true, zero := [zi, zi, zi, zi, zi, zi, zi, zi, zi], sh := .array 3 3 true, eq := some [.i .i64, .i .i64, .i .i64, .i .i64, .i .i64, .i .i64, .i .i64, .i .i64, .i .i64] }
theorem ty44_ok : TIOk Tryd.prog 44 ty44 := by
  refine ⟨by kernel_rfl, by kernel_rfl, fun ρ => ?_, ⟨_, Tryd.underlying44, by kernel_rfl, by kernel_rfl, by decide⟩, fun ks h => by cases h; exact ⟨by kernel_rfl, by kernel_rfl, rfl⟩⟩
  rw [show cellsL ρ ty44.zero = [.int .i64 0, .int .i64 0, .int .i64 0, .int .i64 0, .int .i64 0, .int .i64 0, .int .i64 0, .int .i64 0, .int .i64 0] from by simp only [ty44, cellsL, List.flatMap_cons, List.flatMap_nil, cells_zi, List.cons_append, List.nil_append]]
  kernel_rfl
def ty45 : TI := { size := 9, agg := true, zero := [zi, zi, zi, zi, zi, zi, zi, zi, zi], sh := .array 3 3 true, eq := some [.i .i64, .i .i64, .i .i64, .i .i64, .i .i64, .i .i64, .i .i64, .i .i64, .i .i64] }
theorem ty45_ok : TIOk Tryd.prog 45 ty45 := by
  refine ⟨by kernel_rfl, by kernel_rfl, fun ρ => ?_, ⟨_, Tryd.underlying45, by kernel_rfl, by kernel_rfl, by decide⟩, fun ks h => by cases h; exact ⟨by kernel_rfl, by kernel_rfl, rfl⟩⟩
  rw [show cellsL ρ ty45.zero = [.int .i64 0, .int .i64 0, .int .i64 0, .int .i64 0, .int .i64 0, .int .i64 0, .int .i64 0, .int .i64 0, .int .i64 0] from by simp only [ty45, cellsL, List.flatMap_cons, List.flatMap_nil, cells_zi, List.cons_append, List.nil_append]]
  kernel_rfl
def ty52 : TI := { size := 3, agg := true, zero := [zi, zi, zi], sh := .array 3 1 false, eq := some [.i .i64, .i .i64, .i .i64] }
theorem ty52_ok : TIOk Tryd.prog 52 ty52 := by
  refine ⟨by kernel_rfl, by kernel_rfl, fun ρ => ?_, ⟨_, Tryd.underlying52, by kernel_rfl, by kernel_rfl, by decide⟩, fun ks h => by cases h; exact ⟨by kernel_rfl, by kernel_rfl, rfl⟩⟩
  rw [show cellsL ρ ty52.zero = [.int .i64 0, .int .i64 0, .int .i64 0] from by simp only [ty52, cellsL, List.flatMap_cons, List.flatMap_nil, cells_zi, List.cons_append, List.nil_append]]
  kernel_rfl
def ty53 : TI := { size := 2, agg := true, zero := [zi, zi], sh := .array 2 1 false, eq := some [.i .i64, .i .i64] }
theorem ty53_ok : TIOk Tryd.prog 53 ty53 := by
  refine ⟨by kernel_rfl, by kernel_rfl, fun ρ => ?_, ⟨_, Tryd.underlying53, by kernel_rfl, by kernel_rfl, by decide⟩, fun ks h => by cases h; exact ⟨by kernel_rfl, by kernel_rfl, rfl⟩⟩
  rw [show cellsL ρ ty53.zero = [.int .i64 0, .int .i64 0] from by simp only [ty53, cellsL, List.flatMap_cons, List.flatMap_nil, cells_zi, List.cons_append, List.nil_append]]
  kernel_rfl
def ty60 : TI := { size := 1, agg := false, zero := [.val (.slice none 0 0)], sh := .slice 3 1 [zi], eq := none }
theorem ty60_ok : TIOk Tryd.prog 60 ty60 := by
  refine ⟨by kernel_rfl, by kernel_rfl, fun ρ => ?_, ⟨Tryd.underlying60, by kernel_rfl, by kernel_rfl, by decide, by kernel_rfl, fun ρ => ⟨by rw [show cellsL ρ [zi] = [.int .i64 0] from by simp only [cellsL, List.flatMap_cons, List.flatMap_nil, cells_zi, List.cons_append, List.nil_append]]; kernel_rfl, by rw [show cellsL ρ [zi] = [.int .i64 0] from by simp only [cellsL, List.flatMap_cons, List.flatMap_nil, cells_zi, List.cons_append, List.nil_append]]; rfl⟩⟩, (fun _ h => nomatch h)⟩
  rw [show cellsL ρ ty60.zero = [.slice none 0 0] from by simp only [ty60, cellsL, List.flatMap_cons, List.flatMap_nil, cells_val, List.cons_append, List.nil_append]]
  kernel_rfl
def ty61 : TI := { size := 1, agg := false, zero := [.val (.int .u64 0)], sh := .int .u64, eq := none }
theorem ty61_ok : TIOk Tryd.prog 61 ty61 := by
  refine ⟨by kernel_rfl, by kernel_rfl, fun ρ => ?_, Tryd.underlying61, (fun _ h => nomatch h)⟩
  rw [show cellsL ρ ty61.zero = [.int .u64 0] from by simp only [ty61, cellsL, List.flatMap_cons, List.flatMap_nil, cells_val, List.cons_append, List.nil_append]]
  kernel_rfl
def ty62 : TI := { size := 1, agg := false, zero := [.val (.map none)], sh := .other, eq := none }
theorem ty62_ok : TIOk Tryd.prog 62 ty62 := by
  refine ⟨by kernel_rfl, by kernel_rfl, fun ρ => ?_, trivial, (fun _ h => nomatch h)⟩
  rw [show cellsL ρ ty62.zero = [.map none] from by simp only [ty62, cellsL, List.flatMap_cons, List.flatMap_nil, cells_val, List.cons_append, List.nil_append]]
  kernel_rfl
def ty73 : TI := { size := 3, agg := true, zero := [.val .nilFunc, .val .nilFunc, .val .nilFunc], sh := .array 3 1 false, eq := none }
theorem ty73_ok : TIOk Tryd.prog 73 ty73 := by
  refine ⟨by kernel_rfl, by kernel_rfl, fun ρ => ?_, ⟨_, Tryd.underlying73, by kernel_rfl, by kernel_rfl, by decide⟩, (fun _ h => nomatch h)⟩
  rw [show cellsL ρ ty73.zero = [.nilFunc, .nilFunc, .nilFunc] from by simp only [ty73, cellsL, List.flatMap_cons, List.flatMap_nil, cells_val, List.cons_append, List.nil_append]]
  kernel_rfl
def ty75 : TI := { size := 3, agg := true, zero := [zi, zi, zi], sh := .struct [(0, 1, false), (1, 1, false), (2, 1, false)], eq := some [.i .i64, .i .i64, .i .i64] }
theorem ty75_ok : TIOk Tryd.prog 75 ty75 := by
  refine ⟨by kernel_rfl, by kernel_rfl, fun ρ => ?_, ⟨_, Tryd.underlying75, by kernel_rfl, by decide⟩, fun ks h => by cases h; exact ⟨by kernel_rfl, by kernel_rfl, rfl⟩⟩
  rw [show cellsL ρ ty75.zero = [.int .i64 0, .int .i64 0, .int .i64 0] from by simp only [ty75, cellsL, List.flatMap_cons, List.flatMap_nil, cells_zi, List.cons_append, List.nil_append]]
  kernel_rfl
def ty79 : TI := { size := 3, agg := true, zero := [zi, zi, zi], sh := .array 3 1 false, eq := some [.i .i64, .i .i64, .i .i64] }
theorem ty79_ok : TIOk Tryd.prog 79 ty79 := by
  refine ⟨by kernel_rfl, by kernel_rfl, fun ρ => ?_, ⟨_, Tryd.underlying79, by kernel_rfl, by kernel_rfl, by decide⟩, fun ks h => by cases h; exact ⟨by kernel_rfl, by kernel_rfl, rfl⟩⟩
  rw [show cellsL ρ ty79.zero = [.int .i64 0, .int .i64 0, .int .i64 0] from by simp only [ty79, cellsL, List.flatMap_cons, List.flatMap_nil, cells_zi, List.cons_append, List.nil_append]]
  kernel_rfl
def ty84 : TI := { size := 2, agg := true, zero := [zw], sh := .struct [(0, 1, false), (1, 1, false)], eq := some [.b, .s] }
theorem ty84_ok : TIOk Tryd.prog 84 ty84 := by
  refine ⟨by kernel_rfl, by kernel_rfl, fun ρ => ?_, ⟨_, Tryd.underlying84, by kernel_rfl, by decide⟩, fun ks h => by cases h; exact ⟨by kernel_rfl, by kernel_rfl, rfl⟩⟩
  rw [show cellsL ρ ty84.zero = [.bool false, .string ⟨#[]⟩] from by simp only [ty84, cellsL, List.flatMap_cons, List.flatMap_nil, cells_zw, List.cons_append, List.nil_append]]
  kernel_rfl
def ty85 : TI := { size := 6, agg := true, zero := [zw, zw, zw], sh := .array 3 2 true, eq := some [.b, .s, .b, .s, .b, .s] }
theorem ty85_ok : TIOk Tryd.prog 85 ty85 := by
  refine ⟨by kernel_rfl, by kernel_rfl, fun ρ => ?_, ⟨_, Tryd.underlying85, by kernel_rfl, by kernel_rfl, by decide⟩, fun ks h => by cases h; exact ⟨by kernel_rfl, by kernel_rfl, rfl⟩⟩
  rw [show cellsL ρ ty85.zero = [.bool false, .string ⟨#[]⟩, .bool false, .string ⟨#[]⟩, .bool false, .string ⟨#[]⟩] from by simp only [ty85, cellsL, List.flatMap_cons, List.flatMap_nil, cells_zw, List.cons_append, List.nil_append]]
  kernel_rfl
def ty86 : TI := { size := 6, agg := true, zero := [zw, zw, zw], sh := .array 3 2 true, eq := some [.b, .s, .b, .s, .b, .s] }
theorem ty86_ok : TIOk Tryd.prog 86 ty86 := by
  refine ⟨by kernel_rfl, by kernel_rfl, fun ρ => ?_, ⟨_, Tryd.underlying86, by kernel_rfl, by kernel_rfl, by decide⟩, fun ks h => by cases h; exact ⟨by kernel_rfl, by kernel_rfl, rfl⟩⟩
  rw [show cellsL ρ ty86.zero = [.bool false, .string ⟨#[]⟩, .bool false, .string ⟨#[]⟩, .bool false, .string ⟨#[]⟩] from by simp only [ty86, cellsL, List.flatMap_cons, List.flatMap_nil, cells_zw, List.cons_append, List.nil_append]]
  kernel_rfl
def ty96 : TI := { size := 1, agg := false, zero := [.val (.int .u64 0)], sh := .int .u64, eq := none }
theorem ty96_ok : TIOk Tryd.prog 96 ty96 := by
  refine ⟨by kernel_rfl, by kernel_rfl, fun ρ => ?_, Tryd.underlying96, (fun _ h => nomatch h)⟩
  rw [show cellsL ρ ty96.zero = [.int .u64 0] from by simp only [ty96, cellsL, List.flatMap_cons, List.flatMap_nil, cells_val, List.cons_append, List.nil_append]]
  kernel_rfl
def ty101 : TI := { size := 1, agg := false, zero := [.val (.slice none 0 0)], sh := .slice 96 1 [.val (.int .u64 0)], eq := none }
theorem ty101_ok : TIOk Tryd.prog 101 ty101 := by
  refine ⟨by kernel_rfl, by kernel_rfl, fun ρ => ?_, ⟨Tryd.underlying101, by kernel_rfl, by kernel_rfl, by decide, by kernel_rfl, fun ρ => ⟨by rw [show cellsL ρ [.val (.int .u64 0)] = [.int .u64 0] from by simp only [cellsL, List.flatMap_cons, List.flatMap_nil, cells_val, List.cons_append, List.nil_append]]; kernel_rfl, by rw [show cellsL ρ [.val (.int .u64 0)] = [.int .u64 0] from by simp only [cellsL, List.flatMap_cons, List.flatMap_nil, cells_val, List.cons_append, List.nil_append]]; rfl⟩⟩, (fun _ h => nomatch h)⟩
  rw [show cellsL ρ ty101.zero = [.slice none 0 0] from by simp only [ty101, cellsL, List.flatMap_cons, List.flatMap_nil, cells_val, List.cons_append, List.nil_append]]
  kernel_rfl
def ty102 : TI := { size := 1, agg := false, zero := [.val (.slice none 0 0)], sh := .slice 96 1 [.val (.int .u64 0)], eq := none }
theorem ty102_ok : TIOk Tryd.prog 102 ty102 := by
  refine ⟨by kernel_rfl, by kernel_rfl, fun ρ => ?_, ⟨Tryd.underlying102, by kernel_rfl, by kernel_rfl, by decide, by kernel_rfl, fun ρ => ⟨by rw [show cellsL ρ [.val (.int .u64 0)] = [.int .u64 0] from by simp only [cellsL, List.flatMap_cons, List.flatMap_nil, cells_val, List.cons_append, List.nil_append]]; kernel_rfl, by rw [show cellsL ρ [.val (.int .u64 0)] = [.int .u64 0] from by simp only [cellsL, List.flatMap_cons, List.flatMap_nil, cells_val, List.cons_append, List.nil_append]]; rfl⟩⟩, (fun _ h => nomatch h)⟩
  rw [show cellsL ρ ty102.zero = [.slice none 0 0] from by simp only [ty102, cellsL, List.flatMap_cons, List.flatMap_nil, cells_val, List.cons_append, List.nil_append]]
  kernel_rfl
def ty135 : TI := { size := 32, agg := true, zero := [.val (.int .u8 0), .val (.int .u8 0), .val (.int .u8 0), .val (.int .u8 0), .val (.int .u8 0), .val (.int .u8 0), .val (.int .u8 0), .val (.int .u8 0), .val (.int .u8 0), .val (.int .u8 0), .val (.int .u8 0), .val (.int .u8 0), .val (.int .u8 0), .val (.int .u8 0), .val (.int .u8 0), .val (.int .u8 0), .val (.int .u8 0), .val (.int .u8 0), .val (.int .u8 0), .val (.int .u8 0), .val (.int .u8 0), .val (.int .u8 0), .val (.int .u8 0), .val (.int .u8 0), .val (.int .u8 0), .val (.int .u8 0), .val (.int .u8 0), .val (.int .u8 0), .val (.int .u8 0), .val (.int .u8 0), .val (.int .u8 0), .val (.int .u8 0)], sh := .array 16 2 true, eq := some [.i .u8, .i .u8, .i .u8, .i .u8, .i .u8, .i .u8, .i .u8, .i .u8, .i .u8, .i .u8, .i .u8, .i .u8, .i .u8, .i .u8, .i .u8, .i .u8, .i .u8, .i .u8, .i .u8, .i .u8, .i .u8, .i .u8, .i .u8, .i .u8, .i .u8, .i .u8, .i .u8, .i .u8, .i .u8, .i .u8, .i .u8, .i .u8] }
theorem ty135_ok : TIOk Tryd.prog 135 ty135 := by
  refine ⟨by kernel_rfl, by kernel_rfl, fun ρ => ?_, ⟨_, Tryd.underlying135, by kernel_rfl, by kernel_rfl, by decide⟩, fun ks h => by cases h; exact ⟨by kernel_rfl, by kernel_rfl, rfl⟩⟩
  rw [show cellsL ρ ty135.zero = [.int .u8 0, .int .u8 0, .int .u8 0, .int .u8 0, .int .u8 0, .int .u8 0, .int .u8 0, .int .u8 0, .int .u8 0, .int .u8 0, .int .u8 0, .int .u8 0, .int .u8 0, .int .u8 0, .int .u8 0, .int .u8 0, .int .u8 0, .int .u8 0, .int .u8 0, .int .u8 0, .int .u8 0, .int .u8 0, .int .u8 0, .int .u8 0, .int .u8 0, .int .u8 0, .int .u8 0, .int .u8 0, .int .u8 0, .int .u8 0, .int .u8 0, .int .u8 0] from by simp only [ty135, cellsL, List.flatMap_cons, List.flatMap_nil, cells_val, List.cons_append, List.nil_append]]
  kernel_rfl
def ty145 : TI := { size := 1, agg := false, zero := [.val (.int .u32 0)], sh := .int .u32, eq := none }
theorem ty145_ok : TIOk Tryd.prog 145 ty145 := by
  refine ⟨by kernel_rfl, by kernel_rfl, fun ρ => ?_, Tryd.underlying145, (fun _ h => nomatch h)⟩
  rw [show cellsL ρ ty145.zero = [.int .u32 0] from by simp only [ty145, cellsL, List.flatMap_cons, List.flatMap_nil, cells_val, List.cons_append, List.nil_append]]
  kernel_rfl
def tyL : List (TypeId × TI) := [(2, ty2), (3, ty3), (4, ty4), (5, ty5), (9, ty9), (12, ty12), (21, ty21), (22, ty22), (25, ty25), (29, ty29), (30, ty30), (31, ty31), (32, ty32), (34, ty34), (36, ty36), (37, ty37), (41, ty41), (42, ty42), (43, ty43), (44, ty44), (45, ty45), (52, ty52), (53, ty53), (60, ty60), (61, ty61), (62, ty62), (73, ty73), (75, ty75), (79, ty79), (84, ty84), (85, ty85), (86, ty86), (96, ty96), (101, ty101), (102, ty102), (135, ty135), (145, ty145)]
def tyT (t : TypeId) : Option TI := lk tyL t
theorem tyT_ok : TOk Tryd.prog tyT := fun t ti h => by
  have h := lk_mem h
  simp only [tyL, List.mem_cons, List.not_mem_nil, or_false, Prod.mk.injEq] at h
  rcases h with ⟨rfl, rfl⟩ | ⟨rfl, rfl⟩ | ⟨rfl, rfl⟩ | ⟨rfl, rfl⟩ | ⟨rfl, rfl⟩ | ⟨rfl, rfl⟩ | ⟨rfl, rfl⟩ | ⟨rfl, rfl⟩ | ⟨rfl, rfl⟩ | ⟨rfl, rfl⟩ | ⟨rfl, rfl⟩ | ⟨rfl, rfl⟩ | ⟨rfl, rfl⟩ | ⟨rfl, rfl⟩ | ⟨rfl, rfl⟩ | ⟨rfl, rfl⟩ | ⟨rfl, rfl⟩ | ⟨rfl, rfl⟩ | ⟨rfl, rfl⟩ | ⟨rfl, rfl⟩ | ⟨rfl, rfl⟩ | ⟨rfl, rfl⟩ | ⟨rfl, rfl⟩ | ⟨rfl, rfl⟩ | ⟨rfl, rfl⟩ | ⟨rfl, rfl⟩ | ⟨rfl, rfl⟩ | ⟨rfl, rfl⟩ | ⟨rfl, rfl⟩ | ⟨rfl, rfl⟩ | ⟨rfl, rfl⟩ | ⟨rfl, rfl⟩ | ⟨rfl, rfl⟩ | ⟨rfl, rfl⟩ | ⟨rfl, rfl⟩ | ⟨rfl, rfl⟩ | ⟨rfl, rfl⟩
  · exact ty2_ok
  · exact ty3_ok
  · exact ty4_ok
  · exact ty5_ok
  · exact ty9_ok
  · exact ty12_ok
  · exact ty21_ok
  · exact ty22_ok
  · exact ty25_ok
  · exact ty29_ok
  · exact ty30_ok
  · exact ty31_ok
  · exact ty32_ok
  · exact ty34_ok
  · exact ty36_ok
  · exact ty37_ok
  · exact ty41_ok
  · exact ty42_ok
  · exact ty43_ok
  · exact ty44_ok
  · exact ty45_ok
  · exact ty52_ok
  · exact ty53_ok
  · exact ty60_ok
  · exact ty61_ok
  · exact ty62_ok
  · exact ty73_ok
  · exact ty75_ok
  · exact ty79_ok
  · exact ty84_ok
  · exact ty85_ok
  · exact ty86_ok
  · exact ty96_ok
  · exact ty101_ok
  · exact ty102_ok
  · exact ty135_ok
  · exact ty145_ok
end Go.Proofs.YtdjpbccaglkafaaDoor
