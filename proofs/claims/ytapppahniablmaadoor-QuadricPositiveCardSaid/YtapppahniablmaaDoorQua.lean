/- The types' table. What is known of functions, for the reckoner: the numbers' arithmetic. exact's vectors and normals, by the reckoner. exact.Normal, ref02.Normal, by the reckoner. quadric and lithophaneref10: planes, by the reckoner. quadric and lithophaneref10: quadrics, by the reckoner. quadric: quadrics, by the reckoner. Functions that read slices of their caller's, for the reckoner; points and triangles. quadric.Around and the reference, by the reckoner. the reference of Around, by the reckoner. -/
import Derived.Test.YtapppahniablmaaDoorEng
import Derived.Test.YtapppahniablmaaDoorProg
import Derived.KernelRfl
import Derived.Test.YtapppahniablmaaDoorArith2
import Derived.Test.YtapppahniablmaaDoorRArith
import Derived.Test.YtapppahniablmaaDoorRFrom
namespace Go.Proofs.YtapppahniablmaaDoor
open Go.RowKit

def zi : C := .int 0 (by unfold IR; omega)
def zw : C := .wid 0 0 (by unfold Sm; decide)
def zb : C := .val (.bool false)
def zs : C := .val (.string ⟨#[]⟩)
theorem cells_zw (ρ : Rho) : zw.cells ρ = [.bool false, .string ⟨#[]⟩] := by simp [zw, C.cells, mag_zero]
theorem cells_zi (ρ : Rho) : zi.cells ρ = [.int .i64 0] := rfl
theorem cells_zb (ρ : Rho) : zb.cells ρ = [.bool false] := rfl
theorem cells_zs (ρ : Rho) : zs.cells ρ = [.string ⟨#[]⟩] := rfl
theorem cells_val (ρ : Rho) (v : Value) : (C.val v).cells ρ = [v] := rfl
def lk {α : Type} : List (Nat × α) → Nat → Option α
  | [], _ => none
  | (a, x) :: l, n => if a = n then some x else lk l n
theorem lk_mem {α : Type} {l : List (Nat × α)} {n : Nat} {x : α} (h : lk l n = some x) : (n, x) ∈ l := by
  induction l with
  | nil => simp [lk] at h
  | cons p l ih =>
    obtain ⟨a, y⟩ := p
    unfold lk at h
    split at h
    · rename_i e; cases h; subst e; simp
    · simp [ih h]
set_option maxRecDepth 100000
def ty2 : TI := { size := 1, agg := false, zero := [zi], sh := .int .i64, eq := none }
theorem ty2_ok : TIOk Tryd.prog 2 ty2 := by
  refine ⟨by kernel_rfl, by kernel_rfl, fun ρ => ?_, Tryd.underlying2, (fun _ h => nomatch h)⟩
  rw [show cellsL ρ ty2.zero = [.int .i64 0] from by simp only [ty2, cellsL, List.flatMap_cons, List.flatMap_nil, cells_zi, List.cons_append, List.nil_append]]
  kernel_rfl
def ty3 : TI := { size := 1, agg := false, zero := [zi], sh := .int .i64, eq := none }
theorem ty3_ok : TIOk Tryd.prog 3 ty3 := by
  refine ⟨by kernel_rfl, by kernel_rfl, fun ρ => ?_, Tryd.underlying3, (fun _ h => nomatch h)⟩
  rw [show cellsL ρ ty3.zero = [.int .i64 0] from by simp only [ty3, cellsL, List.flatMap_cons, List.flatMap_nil, cells_zi, List.cons_append, List.nil_append]]
  kernel_rfl
def ty4 : TI := { size := 1, agg := false, zero := [zb], sh := .bool, eq := none }
theorem ty4_ok : TIOk Tryd.prog 4 ty4 := by
  refine ⟨by kernel_rfl, by kernel_rfl, fun ρ => ?_, Tryd.underlying4, (fun _ h => nomatch h)⟩
  rw [show cellsL ρ ty4.zero = [.bool false] from by simp only [ty4, cellsL, List.flatMap_cons, List.flatMap_nil, cells_zb, List.cons_append, List.nil_append]]
  kernel_rfl
def ty5 : TI := { size := 1, agg := false, zero := [.val (.int .u8 0)], sh := .int .u8, eq := none }
theorem ty5_ok : TIOk Tryd.prog 5 ty5 := by
  refine ⟨by kernel_rfl, by kernel_rfl, fun ρ => ?_, Tryd.underlying5, (fun _ h => nomatch h)⟩
  rw [show cellsL ρ ty5.zero = [.int .u8 0] from by simp only [ty5, cellsL, List.flatMap_cons, List.flatMap_nil, cells_val, List.cons_append, List.nil_append]]
  kernel_rfl
def ty9 : TI := { size := 1, agg := false, zero := [zs], sh := .string, eq := none }
theorem ty9_ok : TIOk Tryd.prog 9 ty9 := by
  refine ⟨by kernel_rfl, by kernel_rfl, fun ρ => ?_, Tryd.underlying9, (fun _ h => nomatch h)⟩
  rw [show cellsL ρ ty9.zero = [.string ⟨#[]⟩] from by simp only [ty9, cellsL, List.flatMap_cons, List.flatMap_nil, cells_zs, List.cons_append, List.nil_append]]
  kernel_rfl
def ty12 : TI := { size := 1, agg := false, zero := [.val (.int .u64 0)], sh := .int .u64, eq := none }
theorem ty12_ok : TIOk Tryd.prog 12 ty12 := by
  refine ⟨by kernel_rfl, by kernel_rfl, fun ρ => ?_, Tryd.underlying12, (fun _ h => nomatch h)⟩
  rw [show cellsL ρ ty12.zero = [.int .u64 0] from by simp only [ty12, cellsL, List.flatMap_cons, List.flatMap_nil, cells_val, List.cons_append, List.nil_append]]
  kernel_rfl
def ty21 : TI := { size := 1, agg := false, zero := [.val (.int .i32 0)], sh := .int .i32, eq := none }
theorem ty21_ok : TIOk Tryd.prog 21 ty21 := by
  refine ⟨by kernel_rfl, by kernel_rfl, fun ρ => ?_, Tryd.underlying21, (fun _ h => nomatch h)⟩
  rw [show cellsL ρ ty21.zero = [.int .i32 0] from by simp only [ty21, cellsL, List.flatMap_cons, List.flatMap_nil, cells_val, List.cons_append, List.nil_append]]
  kernel_rfl
def ty23 : TI := { size := 3, agg := true, zero := [zi, zi, zi], sh := .struct [(0, 1, false), (1, 1, false), (2, 1, false)], eq := some [.i .i64, .i .i64, .i .i64] }
theorem ty23_ok : TIOk Tryd.prog 23 ty23 := by
  refine ⟨by kernel_rfl, by kernel_rfl, fun ρ => ?_, ⟨_, Tryd.underlying23, by kernel_rfl, by decide⟩, fun ks h => by cases h; exact ⟨by kernel_rfl, by kernel_rfl, rfl⟩⟩
  rw [show cellsL ρ ty23.zero = [.int .i64 0, .int .i64 0, .int .i64 0] from by simp only [ty23, cellsL, List.flatMap_cons, List.flatMap_nil, cells_zi, List.cons_append, List.nil_append]]
  kernel_rfl
def ty26 : TI := { size := 2, agg := true, zero := [zw], sh := .struct [(0, 1, false), (1, 1, false)], eq := some [.b, .s] }
theorem ty26_ok : TIOk Tryd.prog 26 ty26 := by
  refine ⟨by kernel_rfl, by kernel_rfl, fun ρ => ?_, ⟨_, Tryd.underlying26, by kernel_rfl, by decide⟩, fun ks h => by cases h; exact ⟨by kernel_rfl, by kernel_rfl, rfl⟩⟩
  rw [show cellsL ρ ty26.zero = [.bool false, .string ⟨#[]⟩] from by simp only [ty26, cellsL, List.flatMap_cons, List.flatMap_nil, cells_zw, List.cons_append, List.nil_append]]
  kernel_rfl
def ty27 : TI := { size := 20, agg := true, zero := [zw, zw, zw, zw, zw, zw, zw, zw, zw, zw], sh := .array 10 2 true, eq := some [.b, .s, .b, .s, .b, .s, .b, .s, .b, .s, .b, .s, .b, .s, .b, .s, .b, .s, .b, .s] }
theorem ty27_ok : TIOk Tryd.prog 27 ty27 := by
  refine ⟨by kernel_rfl, by kernel_rfl, fun ρ => ?_, ⟨_, Tryd.underlying27, by kernel_rfl, by kernel_rfl, by decide⟩, fun ks h => by cases h; exact ⟨by kernel_rfl, by kernel_rfl, rfl⟩⟩
  rw [show cellsL ρ ty27.zero = [.bool false, .string ⟨#[]⟩, .bool false, .string ⟨#[]⟩, .bool false, .string ⟨#[]⟩, .bool false, .string ⟨#[]⟩, .bool false, .string ⟨#[]⟩, .bool false, .string ⟨#[]⟩, .bool false, .string ⟨#[]⟩, .bool false, .string ⟨#[]⟩, .bool false, .string ⟨#[]⟩, .bool false, .string ⟨#[]⟩] from by simp only [ty27, cellsL, List.flatMap_cons, List.flatMap_nil, cells_zw, List.cons_append, List.nil_append]]
  kernel_rfl
def ty28 : TI := { size := 20, agg := true, zero := [zw, zw, zw, zw, zw, zw, zw, zw, zw, zw], sh := .array 10 2 true, eq := some [.b, .s, .b, .s, .b, .s, .b, .s, .b, .s, .b, .s, .b, .s, .b, .s, .b, .s, .b, .s] }
theorem ty28_ok : TIOk Tryd.prog 28 ty28 := by
  refine ⟨by kernel_rfl, by kernel_rfl, fun ρ => ?_, ⟨_, Tryd.underlying28, by kernel_rfl, by kernel_rfl, by decide⟩, fun ks h => by cases h; exact ⟨by kernel_rfl, by kernel_rfl, rfl⟩⟩
  rw [show cellsL ρ ty28.zero = [.bool false, .string ⟨#[]⟩, .bool false, .string ⟨#[]⟩, .bool false, .string ⟨#[]⟩, .bool false, .string ⟨#[]⟩, .bool false, .string ⟨#[]⟩, .bool false, .string ⟨#[]⟩, .bool false, .string ⟨#[]⟩, .bool false, .string ⟨#[]⟩, .bool false, .string ⟨#[]⟩, .bool false, .string ⟨#[]⟩] from by simp only [ty28, cellsL, List.flatMap_cons, List.flatMap_nil, cells_zw, List.cons_append, List.nil_append]]
  kernel_rfl
def ty30 : TI := { size := 9, agg := true, zero := [zi, zi, zi, zi, zi, zi, zi, zi, zi], sh := .array 3 3 true, eq := some [.i .i64, .i .i64, .i .i64, .i .i64, .i .i64, .i .i64, .i .i64, .i .i64, .i .i64] }
theorem ty30_ok : TIOk Tryd.prog 30 ty30 := by
  refine ⟨by kernel_rfl, by kernel_rfl, fun ρ => ?_, ⟨_, Tryd.underlying30, by kernel_rfl, by kernel_rfl, by decide⟩, fun ks h => by cases h; exact ⟨by kernel_rfl, by kernel_rfl, rfl⟩⟩
  rw [show cellsL ρ ty30.zero = [.int .i64 0, .int .i64 0, .int .i64 0, .int .i64 0, .int .i64 0, .int .i64 0, .int .i64 0, .int .i64 0, .int .i64 0] from by simp only [ty30, cellsL, List.flatMap_cons, List.flatMap_nil, cells_zi, List.cons_append, List.nil_append]]
  kernel_rfl
def ty31 : TI := { size := 9, agg := true, zero := [zi, zi, zi, zi, zi, zi, zi, zi, zi], sh := .array 3 3 true, eq := some [.i .i64, .i .i64, .i .i64, .i .i64, .i .i64, .i .i64, .i .i64, .i .i64, .i .i64] }
theorem ty31_ok : TIOk Tryd.prog 31 ty31 := by
  refine ⟨by kernel_rfl, by kernel_rfl, fun ρ => ?_, ⟨_, Tryd.underlying31, by kernel_rfl, by kernel_rfl, by decide⟩, fun ks h => by cases h; exact ⟨by kernel_rfl, by kernel_rfl, rfl⟩⟩
  rw [show cellsL ρ ty31.zero = [.int .i64 0, .int .i64 0, .int .i64 0, .int .i64 0, .int .i64 0, .int .i64 0, .int .i64 0, .int .i64 0, .int .i64 0] from by simp only [ty31, cellsL, List.flatMap_cons, List.flatMap_nil, cells_zi, List.cons_append, List.nil_append]]
  kernel_rfl
def ty37 : TI := { size := 10, agg := true, zero := [zi, zi, zi, zi, zi, zi, zi, zi, zi, zi], sh := .array 10 1 false, eq := some [.i .i64, .i .i64, .i .i64, .i .i64, .i .i64, .i .i64, .i .i64, .i .i64, .i .i64, .i .i64] }
theorem ty37_ok : TIOk Tryd.prog 37 ty37 := by
  refine ⟨by kernel_rfl, by kernel_rfl, fun ρ => ?_, ⟨_, Tryd.underlying37, by kernel_rfl, by kernel_rfl, by decide⟩, fun ks h => by cases h; exact ⟨by kernel_rfl, by kernel_rfl, rfl⟩⟩
  rw [show cellsL ρ ty37.zero = [.int .i64 0, .int .i64 0, .int .i64 0, .int .i64 0, .int .i64 0, .int .i64 0, .int .i64 0, .int .i64 0, .int .i64 0, .int .i64 0] from by simp only [ty37, cellsL, List.flatMap_cons, List.flatMap_nil, cells_zi, List.cons_append, List.nil_append]]
  kernel_rfl
def ty38 : TI := { size := 10, agg := true, zero := [.val (.int .u8 0), .val (.int .u8 0), .val (.int .u8 0), .val (.int .u8 0), .val (.int .u8 0), .val (.int .u8 0), .val (.int .u8 0), .val (.int .u8 0), .val (.int .u8 0), .val (.int .u8 0)], sh := .array 10 1 false, eq := some [.i .u8, .i .u8, .i .u8, .i .u8, .i .u8, .i .u8, .i .u8, .i .u8, .i .u8, .i .u8] }
theorem ty38_ok : TIOk Tryd.prog 38 ty38 := by
  refine ⟨by kernel_rfl, by kernel_rfl, fun ρ => ?_, ⟨_, Tryd.underlying38, by kernel_rfl, by kernel_rfl, by decide⟩, fun ks h => by cases h; exact ⟨by kernel_rfl, by kernel_rfl, rfl⟩⟩
  rw [show cellsL ρ ty38.zero = [.int .u8 0, .int .u8 0, .int .u8 0, .int .u8 0, .int .u8 0, .int .u8 0, .int .u8 0, .int .u8 0, .int .u8 0, .int .u8 0] from by simp only [ty38, cellsL, List.flatMap_cons, List.flatMap_nil, cells_val, List.cons_append, List.nil_append]]
  kernel_rfl
def ty41 : TI := { size := 12, agg := true, zero := [zi, zi, zi, zi, zi, zi, zi, zi, zi, zi, zi, zi], sh := .array 4 3 true, eq := some [.i .i64, .i .i64, .i .i64, .i .i64, .i .i64, .i .i64, .i .i64, .i .i64, .i .i64, .i .i64, .i .i64, .i .i64] }
theorem ty41_ok : TIOk Tryd.prog 41 ty41 := by
  refine ⟨by kernel_rfl, by kernel_rfl, fun ρ => ?_, ⟨_, Tryd.underlying41, by kernel_rfl, by kernel_rfl, by decide⟩, fun ks h => by cases h; exact ⟨by kernel_rfl, by kernel_rfl, rfl⟩⟩
  rw [show cellsL ρ ty41.zero = [.int .i64 0, .int .i64 0, .int .i64 0, .int .i64 0, .int .i64 0, .int .i64 0, .int .i64 0, .int .i64 0, .int .i64 0, .int .i64 0, .int .i64 0, .int .i64 0] from by simp only [ty41, cellsL, List.flatMap_cons, List.flatMap_nil, cells_zi, List.cons_append, List.nil_append]]
  kernel_rfl
def ty44 : TI := { size := 1, agg := false, zero := [.val (.int .u32 0)], sh := .int .u32, eq := none }
theorem ty44_ok : TIOk Tryd.prog 44 ty44 := by
  refine ⟨by kernel_rfl, by kernel_rfl, fun ρ => ?_, Tryd.underlying44, (fun _ h => nomatch h)⟩
  rw [show cellsL ρ ty44.zero = [.int .u32 0] from by simp only [ty44, cellsL, List.flatMap_cons, List.flatMap_nil, cells_val, List.cons_append, List.nil_append]]
  kernel_rfl
def ty45 : TI := { size := 1, agg := false, zero := [.val (.slice none 0 0)], sh := .slice 3 1 [zi], eq := none }
theorem ty45_ok : TIOk Tryd.prog 45 ty45 := by
  refine ⟨by kernel_rfl, by kernel_rfl, fun ρ => ?_, ⟨Tryd.underlying45, by kernel_rfl, by kernel_rfl, by decide, by kernel_rfl, fun ρ => ⟨by rw [show cellsL ρ [zi] = [.int .i64 0] from by simp only [cellsL, List.flatMap_cons, List.flatMap_nil, cells_zi, List.cons_append, List.nil_append]]; kernel_rfl, by rw [show cellsL ρ [zi] = [.int .i64 0] from by simp only [cellsL, List.flatMap_cons, List.flatMap_nil, cells_zi, List.cons_append, List.nil_append]]; rfl⟩⟩, (fun _ h => nomatch h)⟩
  rw [show cellsL ρ ty45.zero = [.slice none 0 0] from by simp only [ty45, cellsL, List.flatMap_cons, List.flatMap_nil, cells_val, List.cons_append, List.nil_append]]
  kernel_rfl
def ty46 : TI := { size := 1, agg := false, zero := [.val (.slice none 0 0)], sh := .slice 31 9 [zi, zi, zi, zi, zi, zi, zi, zi, zi], eq := none }
theorem ty46_ok : TIOk Tryd.prog 46 ty46 := by
  refine ⟨by kernel_rfl, by kernel_rfl, fun ρ => ?_, ⟨Tryd.underlying46, by kernel_rfl, by kernel_rfl, by decide, by kernel_rfl, fun ρ => ⟨by rw [show cellsL ρ [zi, zi, zi, zi, zi, zi, zi, zi, zi] = [.int .i64 0, .int .i64 0, .int .i64 0, .int .i64 0, .int .i64 0, .int .i64 0, .int .i64 0, .int .i64 0, .int .i64 0] from by simp only [cellsL, List.flatMap_cons, List.flatMap_nil, cells_zi, List.cons_append, List.nil_append]]; kernel_rfl, by rw [show cellsL ρ [zi, zi, zi, zi, zi, zi, zi, zi, zi] = [.int .i64 0, .int .i64 0, .int .i64 0, .int .i64 0, .int .i64 0, .int .i64 0, .int .i64 0, .int .i64 0, .int .i64 0] from by simp only [cellsL, List.flatMap_cons, List.flatMap_nil, cells_zi, List.cons_append, List.nil_append]]; rfl⟩⟩, (fun _ h => nomatch h)⟩
  rw [show cellsL ρ ty46.zero = [.slice none 0 0] from by simp only [ty46, cellsL, List.flatMap_cons, List.flatMap_nil, cells_val, List.cons_append, List.nil_append]]
  kernel_rfl
def ty50 : TI := { size := 1, agg := false, zero := [.val (.slice none 0 0)], sh := .slice 23 3 [zi, zi, zi], eq := none }
theorem ty50_ok : TIOk Tryd.prog 50 ty50 := by
  refine ⟨by kernel_rfl, by kernel_rfl, fun ρ => ?_, ⟨Tryd.underlying50, by kernel_rfl, by kernel_rfl, by decide, by kernel_rfl, fun ρ => ⟨by rw [show cellsL ρ [zi, zi, zi] = [.int .i64 0, .int .i64 0, .int .i64 0] from by simp only [cellsL, List.flatMap_cons, List.flatMap_nil, cells_zi, List.cons_append, List.nil_append]]; kernel_rfl, by rw [show cellsL ρ [zi, zi, zi] = [.int .i64 0, .int .i64 0, .int .i64 0] from by simp only [cellsL, List.flatMap_cons, List.flatMap_nil, cells_zi, List.cons_append, List.nil_append]]; rfl⟩⟩, (fun _ h => nomatch h)⟩
  rw [show cellsL ρ ty50.zero = [.slice none 0 0] from by simp only [ty50, cellsL, List.flatMap_cons, List.flatMap_nil, cells_val, List.cons_append, List.nil_append]]
  kernel_rfl
def ty56 : TI := { size := 8, agg := true, zero := [zw, zw, zw, zw], sh := .array 4 2 true, eq := some [.b, .s, .b, .s, .b, .s, .b, .s] }
theorem ty56_ok : TIOk Tryd.prog 56 ty56 := by
  refine ⟨by kernel_rfl, by kernel_rfl, fun ρ => ?_, ⟨_, Tryd.underlying56, by kernel_rfl, by kernel_rfl, by decide⟩, fun ks h => by cases h; exact ⟨by kernel_rfl, by kernel_rfl, rfl⟩⟩
  rw [show cellsL ρ ty56.zero = [.bool false, .string ⟨#[]⟩, .bool false, .string ⟨#[]⟩, .bool false, .string ⟨#[]⟩, .bool false, .string ⟨#[]⟩] from by simp only [ty56, cellsL, List.flatMap_cons, List.flatMap_nil, cells_zw, List.cons_append, List.nil_append]]
  kernel_rfl
def ty57 : TI := { size := 8, agg := true, zero := [zw, zw, zw, zw], sh := .array 4 2 true, eq := some [.b, .s, .b, .s, .b, .s, .b, .s] }
theorem ty57_ok : TIOk Tryd.prog 57 ty57 := by
  refine ⟨by kernel_rfl, by kernel_rfl, fun ρ => ?_, ⟨_, Tryd.underlying57, by kernel_rfl, by kernel_rfl, by decide⟩, fun ks h => by cases h; exact ⟨by kernel_rfl, by kernel_rfl, rfl⟩⟩
  rw [show cellsL ρ ty57.zero = [.bool false, .string ⟨#[]⟩, .bool false, .string ⟨#[]⟩, .bool false, .string ⟨#[]⟩, .bool false, .string ⟨#[]⟩] from by simp only [ty57, cellsL, List.flatMap_cons, List.flatMap_nil, cells_zw, List.cons_append, List.nil_append]]
  kernel_rfl
def ty69 : TI := { size := 6, agg := true, zero := [zw, zw, zw], sh := .array 3 2 true, eq := some [.b, .s, .b, .s, .b, .s] }
theorem ty69_ok : TIOk Tryd.prog 69 ty69 := by
  refine ⟨by kernel_rfl, by kernel_rfl, fun ρ => ?_, ⟨_, Tryd.underlying69, by kernel_rfl, by kernel_rfl, by decide⟩, fun ks h => by cases h; exact ⟨by kernel_rfl, by kernel_rfl, rfl⟩⟩
  rw [show cellsL ρ ty69.zero = [.bool false, .string ⟨#[]⟩, .bool false, .string ⟨#[]⟩, .bool false, .string ⟨#[]⟩] from by simp only [ty69, cellsL, List.flatMap_cons, List.flatMap_nil, cells_zw, List.cons_append, List.nil_append]]
  kernel_rfl
def ty71 : TI := { size := 3, agg := true, zero := [zi, zi, zi], sh := .array 3 1 false, eq := some [.i .i64, .i .i64, .i .i64] }
theorem ty71_ok : TIOk Tryd.prog 71 ty71 := by
  refine ⟨by kernel_rfl, by kernel_rfl, fun ρ => ?_, ⟨_, Tryd.underlying71, by kernel_rfl, by kernel_rfl, by decide⟩, fun ks h => by cases h; exact ⟨by kernel_rfl, by kernel_rfl, rfl⟩⟩
  rw [show cellsL ρ ty71.zero = [.int .i64 0, .int .i64 0, .int .i64 0] from by simp only [ty71, cellsL, List.flatMap_cons, List.flatMap_nil, cells_zi, List.cons_append, List.nil_append]]
  kernel_rfl
def ty72 : TI := { size := 1, agg := false, zero := [.val (.int .u64 0)], sh := .int .u64, eq := none }
theorem ty72_ok : TIOk Tryd.prog 72 ty72 := by
  refine ⟨by kernel_rfl, by kernel_rfl, fun ρ => ?_, Tryd.underlying72, (fun _ h => nomatch h)⟩
  rw [show cellsL ρ ty72.zero = [.int .u64 0] from by simp only [ty72, cellsL, List.flatMap_cons, List.flatMap_nil, cells_val, List.cons_append, List.nil_append]]
  kernel_rfl
def ty73 : TI := { size := 1, agg := false, zero := [.val (.int .u64 0)], sh := .int .u64, eq := none }
theorem ty73_ok : TIOk Tryd.prog 73 ty73 := by
  refine ⟨by kernel_rfl, by kernel_rfl, fun ρ => ?_, Tryd.underlying73, (fun _ h => nomatch h)⟩
  rw [show cellsL ρ ty73.zero = [.int .u64 0] from by simp only [ty73, cellsL, List.flatMap_cons, List.flatMap_nil, cells_val, List.cons_append, List.nil_append]]
  kernel_rfl
def ty74 : TI := { size := 1, agg := false, zero := [.val (.slice none 0 0)], sh := .slice 72 1 [.val (.int .u64 0)], eq := none }
theorem ty74_ok : TIOk Tryd.prog 74 ty74 := by
  refine ⟨by kernel_rfl, by kernel_rfl, fun ρ => ?_, ⟨Tryd.underlying74, by kernel_rfl, by kernel_rfl, by decide, by kernel_rfl, fun ρ => ⟨by rw [show cellsL ρ [.val (.int .u64 0)] = [.int .u64 0] from by simp only [cellsL, List.flatMap_cons, List.flatMap_nil, cells_val, List.cons_append, List.nil_append]]; kernel_rfl, by rw [show cellsL ρ [.val (.int .u64 0)] = [.int .u64 0] from by simp only [cellsL, List.flatMap_cons, List.flatMap_nil, cells_val, List.cons_append, List.nil_append]]; rfl⟩⟩, (fun _ h => nomatch h)⟩
  rw [show cellsL ρ ty74.zero = [.slice none 0 0] from by simp only [ty74, cellsL, List.flatMap_cons, List.flatMap_nil, cells_val, List.cons_append, List.nil_append]]
  kernel_rfl
def ty75 : TI := { size := 1, agg := false, zero := [.val (.slice none 0 0)], sh := .slice 72 1 [.val (.int .u64 0)], eq := none }
theorem ty75_ok : TIOk Tryd.prog 75 ty75 := by
  refine ⟨by kernel_rfl, by kernel_rfl, fun ρ => ?_, ⟨Tryd.underlying75, by kernel_rfl, by kernel_rfl, by decide, by kernel_rfl, fun ρ => ⟨by rw [show cellsL ρ [.val (.int .u64 0)] = [.int .u64 0] from by simp only [cellsL, List.flatMap_cons, List.flatMap_nil, cells_val, List.cons_append, List.nil_append]]; kernel_rfl, by rw [show cellsL ρ [.val (.int .u64 0)] = [.int .u64 0] from by simp only [cellsL, List.flatMap_cons, List.flatMap_nil, cells_val, List.cons_append, List.nil_append]]; rfl⟩⟩, (fun _ h => nomatch h)⟩
  rw [show cellsL ρ ty75.zero = [.slice none 0 0] from by simp only [ty75, cellsL, List.flatMap_cons, List.flatMap_nil, cells_val, List.cons_append, List.nil_append]]
  kernel_rfl
def ty81 : TI := { size := 1, agg := false, zero := [.val (.slice none 0 0)], sh := .slice 5 1 [.val (.int .u8 0)], eq := none }
theorem ty81_ok : TIOk Tryd.prog 81 ty81 := by
  refine ⟨by kernel_rfl, by kernel_rfl, fun ρ => ?_, ⟨Tryd.underlying81, by kernel_rfl, by kernel_rfl, by decide, by kernel_rfl, fun ρ => ⟨by rw [show cellsL ρ [.val (.int .u8 0)] = [.int .u8 0] from by simp only [cellsL, List.flatMap_cons, List.flatMap_nil, cells_val, List.cons_append, List.nil_append]]; kernel_rfl, by rw [show cellsL ρ [.val (.int .u8 0)] = [.int .u8 0] from by simp only [cellsL, List.flatMap_cons, List.flatMap_nil, cells_val, List.cons_append, List.nil_append]]; rfl⟩⟩, (fun _ h => nomatch h)⟩
  rw [show cellsL ρ ty81.zero = [.slice none 0 0] from by simp only [ty81, cellsL, List.flatMap_cons, List.flatMap_nil, cells_val, List.cons_append, List.nil_append]]
  kernel_rfl
def ty86 : TI := { size := 18, agg := true, zero := [zi, zi, zi, zi, zi, zi, zi, zi, zi, zi, zi, zi, zi, zi, zi, zi, zi, zi], sh := .array 6 3 true, eq := some [.i .i64, .i .i64, .i .i64, .i .i64, .i .i64, .i .i64, .i .i64, .i .i64, .i .i64, .i .i64, .i .i64, .i .i64, .i .i64, .i .i64, .i .i64, .i .i64, .i .i64, .i .i64] }
theorem ty86_ok : TIOk Tryd.prog 86 ty86 := by
  refine ⟨by kernel_rfl, by kernel_rfl, fun ρ => ?_, ⟨_, Tryd.underlying86, by kernel_rfl, by kernel_rfl, by decide⟩, fun ks h => by cases h; exact ⟨by kernel_rfl, by kernel_rfl, rfl⟩⟩
  rw [show cellsL ρ ty86.zero = [.int .i64 0, .int .i64 0, .int .i64 0, .int .i64 0, .int .i64 0, .int .i64 0, .int .i64 0, .int .i64 0, .int .i64 0, .int .i64 0, .int .i64 0, .int .i64 0, .int .i64 0, .int .i64 0, .int .i64 0, .int .i64 0, .int .i64 0, .int .i64 0] from by simp only [ty86, cellsL, List.flatMap_cons, List.flatMap_nil, cells_zi, List.cons_append, List.nil_append]]
  kernel_rfl
def ty88 : TI := { size := 6, agg := true, zero := [zw, zw, zw], sh := .array 3 2 true, eq := some [.b, .s, .b, .s, .b, .s] }
theorem ty88_ok : TIOk Tryd.prog 88 ty88 := by
  refine ⟨by kernel_rfl, by kernel_rfl, fun ρ => ?_, ⟨_, Tryd.underlying88, by kernel_rfl, by kernel_rfl, by decide⟩, fun ks h => by cases h; exact ⟨by kernel_rfl, by kernel_rfl, rfl⟩⟩
  rw [show cellsL ρ ty88.zero = [.bool false, .string ⟨#[]⟩, .bool false, .string ⟨#[]⟩, .bool false, .string ⟨#[]⟩] from by simp only [ty88, cellsL, List.flatMap_cons, List.flatMap_nil, cells_zw, List.cons_append, List.nil_append]]
  kernel_rfl
def ty99 : TI := { size := 24, agg := true, zero := [zi, zi, zi, zi, zi, zi, zi, zi, zi, zi, zi, zi, zi, zi, zi, zi, zi, zi, zi, zi, zi, zi, zi, zi], sh := .array 8 3 true, eq := some [.i .i64, .i .i64, .i .i64, .i .i64, .i .i64, .i .i64, .i .i64, .i .i64, .i .i64, .i .i64, .i .i64, .i .i64, .i .i64, .i .i64, .i .i64, .i .i64, .i .i64, .i .i64, .i .i64, .i .i64, .i .i64, .i .i64, .i .i64, .i .i64] }
theorem ty99_ok : TIOk Tryd.prog 99 ty99 := by
  refine ⟨by kernel_rfl, by kernel_rfl, fun ρ => ?_, ⟨_, Tryd.underlying99, by kernel_rfl, by kernel_rfl, by decide⟩, fun ks h => by cases h; exact ⟨by kernel_rfl, by kernel_rfl, rfl⟩⟩
  rw [show cellsL ρ ty99.zero = [.int .i64 0, .int .i64 0, .int .i64 0, .int .i64 0, .int .i64 0, .int .i64 0, .int .i64 0, .int .i64 0, .int .i64 0, .int .i64 0, .int .i64 0, .int .i64 0, .int .i64 0, .int .i64 0, .int .i64 0, .int .i64 0, .int .i64 0, .int .i64 0, .int .i64 0, .int .i64 0, .int .i64 0, .int .i64 0, .int .i64 0, .int .i64 0] from by simp only [ty99, cellsL, List.flatMap_cons, List.flatMap_nil, cells_zi, List.cons_append, List.nil_append]]
  kernel_rfl
def ty101 : TI := { size := 3, agg := true, zero := [.val .nilFunc, .val .nilFunc, .val .nilFunc], sh := .array 3 1 false, eq := none }
theorem ty101_ok : TIOk Tryd.prog 101 ty101 := by
  refine ⟨by kernel_rfl, by kernel_rfl, fun ρ => ?_, ⟨_, Tryd.underlying101, by kernel_rfl, by kernel_rfl, by decide⟩, (fun _ h => nomatch h)⟩
  rw [show cellsL ρ ty101.zero = [.nilFunc, .nilFunc, .nilFunc] from by simp only [ty101, cellsL, List.flatMap_cons, List.flatMap_nil, cells_val, List.cons_append, List.nil_append]]
  kernel_rfl
def ty103 : TI := { size := 3, agg := true, zero := [zi, zi, zi], sh := .struct [(0, 1, false), (1, 1, false), (2, 1, false)], eq := some [.i .i64, .i .i64, .i .i64] }
theorem ty103_ok : TIOk Tryd.prog 103 ty103 := by
  refine ⟨by kernel_rfl, by kernel_rfl, fun ρ => ?_, ⟨_, Tryd.underlying103, by kernel_rfl, by decide⟩, fun ks h => by cases h; exact ⟨by kernel_rfl, by kernel_rfl, rfl⟩⟩
  rw [show cellsL ρ ty103.zero = [.int .i64 0, .int .i64 0, .int .i64 0] from by simp only [ty103, cellsL, List.flatMap_cons, List.flatMap_nil, cells_zi, List.cons_append, List.nil_append]]
  kernel_rfl
def ty124 : TI := { size := 32, agg := true, zero := [.val (.int .u8 0), .val (.int .u8 0), .val (.int .u8 0), .val (.int .u8 0), .val (.int .u8 0), .val (.int .u8 0), .val (.int .u8 0), .val (.int .u8 0), .val (.int .u8 0), .val (.int .u8 0), .val (.int .u8 0), .val (.int .u8 0), .val (.int .u8 0), .val (.int .u8 0), .val (.int .u8 0), .val (.int .u8 0), .val (.int .u8 0), .val (.int .u8 0), .val (.int .u8 0), .val (.int .u8 0), .val (.int .u8 0), .val (.int .u8 0), .val (.int .u8 0), .val (.int .u8 0), .val (.int .u8 0), .val (.int .u8 0), .val (.int .u8 0), .val (.int .u8 0), .val (.int .u8 0), .val (.int .u8 0), .val (.int .u8 0), .val (.int .u8 0)], sh := .array 16 2 true, eq := some [.i .u8, .i .u8, .i .u8, .i .u8, .i .u8, .i .u8, .i .u8, .i .u8, .i .u8, .i .u8, .i .u8, .i .u8, .i .u8, .i .u8, .i .u8, .i .u8, .i .u8, .i .u8, .i .u8, .i .u8, .i .u8, .i .u8, .i .u8, .i .u8, .i .u8, .i .u8, .i .u8, .i .u8, .i .u8, .i .u8, .i .u8, .i .u8] }
theorem ty124_ok : TIOk Tryd.prog 124 ty124 := by
  refine ⟨by kernel_rfl, by kernel_rfl, fun ρ => ?_, ⟨_, Tryd.underlying124, by kernel_rfl, by kernel_rfl, by decide⟩, fun ks h => by cases h; exact ⟨by kernel_rfl, by kernel_rfl, rfl⟩⟩
  rw [show cellsL ρ ty124.zero = [.int .u8 0, .int .u8 0, .int .u8 0, .int .u8 0, .int .u8 0, .int .u8 0, .int .u8 0, .int .u8 0, .int .u8 0, .int .u8 0, .int .u8 0, .int .u8 0, .int .u8 0, .int .u8 0, .int .u8 0, .int .u8 0, .int .u8 0, .int .u8 0, .int .u8 0, .int .u8 0, .int .u8 0, .int .u8 0, .int .u8 0, .int .u8 0, .int .u8 0, .int .u8 0, .int .u8 0, .int .u8 0, .int .u8 0, .int .u8 0, .int .u8 0, .int .u8 0] from by simp only [ty124, cellsL, List.flatMap_cons, List.flatMap_nil, cells_val, List.cons_append, List.nil_append]]
  kernel_rfl
def tyL : List (TypeId × TI) := [(2, ty2), (3, ty3), (4, ty4), (5, ty5), (9, ty9), (12, ty12), (21, ty21), (23, ty23), (26, ty26), (27, ty27), (28, ty28), (30, ty30), (31, ty31), (37, ty37), (38, ty38), (41, ty41), (44, ty44), (45, ty45), (46, ty46), (50, ty50), (56, ty56), (57, ty57), (69, ty69), (71, ty71), (72, ty72), (73, ty73), (74, ty74), (75, ty75), (81, ty81), (86, ty86), (88, ty88), (99, ty99), (101, ty101), (103, ty103), (124, ty124)]
def tyT (t : TypeId) : Option TI := lk tyL t
theorem tyT_ok : TOk Tryd.prog tyT := fun t ti h => by
  have h := lk_mem h
  simp only [tyL, List.mem_cons, List.not_mem_nil, or_false, Prod.mk.injEq] at h
  rcases h with ⟨rfl, rfl⟩ | ⟨rfl, rfl⟩ | ⟨rfl, rfl⟩ | ⟨rfl, rfl⟩ | ⟨rfl, rfl⟩ | ⟨rfl, rfl⟩ | ⟨rfl, rfl⟩ | ⟨rfl, rfl⟩ | ⟨rfl, rfl⟩ | ⟨rfl, rfl⟩ | ⟨rfl, rfl⟩ | ⟨rfl, rfl⟩ | ⟨rfl, rfl⟩ | ⟨rfl, rfl⟩ | ⟨rfl, rfl⟩ | ⟨rfl, rfl⟩ | ⟨rfl, rfl⟩ | ⟨rfl, rfl⟩ | ⟨rfl, rfl⟩ | ⟨rfl, rfl⟩ | ⟨rfl, rfl⟩ | ⟨rfl, rfl⟩ | ⟨rfl, rfl⟩ | ⟨rfl, rfl⟩ | ⟨rfl, rfl⟩ | ⟨rfl, rfl⟩ | ⟨rfl, rfl⟩ | ⟨rfl, rfl⟩ | ⟨rfl, rfl⟩ | ⟨rfl, rfl⟩ | ⟨rfl, rfl⟩ | ⟨rfl, rfl⟩ | ⟨rfl, rfl⟩ | ⟨rfl, rfl⟩ | ⟨rfl, rfl⟩
  · exact ty2_ok
  · exact ty3_ok
  · exact ty4_ok
  · exact ty5_ok
  · exact ty9_ok
  · exact ty12_ok
  · exact ty21_ok
  · exact ty23_ok
  · exact ty26_ok
  · exact ty27_ok
  · exact ty28_ok
  · exact ty30_ok
  · exact ty31_ok
  · exact ty37_ok
  · exact ty38_ok
  · exact ty41_ok
  · exact ty44_ok
  · exact ty45_ok
  · exact ty46_ok
  · exact ty50_ok
  · exact ty56_ok
  · exact ty57_ok
  · exact ty69_ok
  · exact ty71_ok
  · exact ty72_ok
  · exact ty73_ok
  · exact ty74_ok
  · exact ty75_ok
  · exact ty81_ok
  · exact ty86_ok
  · exact ty88_ok
  · exact ty99_ok
  · exact ty101_ok
  · exact ty103_ok
  · exact ty124_ok
end Go.Proofs.YtapppahniablmaaDoor

namespace Go.Proofs.YtapppahniablmaaDoor
open Go.RowKit

abbrev Dn := List SV → Option (Option Prop × SV)
def SpOk (P : Program) (f : FuncId) (d : Dn) : Prop := Callable P f ∧ ∀ args p v, d args = some (p, v) → (∀ ρ ρ', v.den ρ = v.den ρ') ∧
  ((∀ q, p = some q → q) → ∀ ρ w, Calls P f (args.map (SV.den ρ)).toArray w fun e w' => e = .returned (v.den ρ) ∧ Below w.heap.size w w')
def lkD : List (FuncId × Dn) → FuncId → Dn
  | [], _, _ => none
  | (g, d) :: l, f, args => if f = g then d args else lkD l f args
def env (un : Nat) (l : List (FuncId × Dn)) : Env where
  T := tyT
  un := un
  D := fun f args _ => lkD l f args
  O := oAppend tyT
def AllOk (l : List (FuncId × Dn)) : Prop := ∀ x ∈ l, SpOk Tryd.prog x.1 x.2
theorem AllOk.nil : AllOk [] := fun x hx => by simp at hx
theorem AllOk.cons {f : FuncId} {d : Dn} {l : List (FuncId × Dn)} (h : SpOk Tryd.prog f d) (hl : AllOk l) : AllOk ((f, d) :: l) := fun x hx => by
  rcases List.mem_cons.1 hx with rfl | hx
  · exact h
  · exact hl x hx
theorem lkD_ok {l : List (FuncId × Dn)} (hl : AllOk l) : ∀ {f : FuncId} {args : List SV} {r}, lkD l f args = some r → ∃ d, SpOk Tryd.prog f d ∧ d args = some r := by
  intro f args r h
  induction l with
  | nil => simp [lkD] at h
  | cons x l ih =>
    obtain ⟨g, d⟩ := x
    unfold lkD at h
    split at h
    · rename_i e; rw [e]; exact ⟨d, hl (g, d) List.mem_cons_self, h⟩
    · exact ih (fun y hy => hl y (List.mem_cons_of_mem _ hy)) h
theorem env_ok {l : List (FuncId × Dn)} (hl : AllOk l) (un : Nat) : EOk Tryd.prog (env un l) where
  T := tyT_ok
  D f args hf p v h := by
    obtain ⟨d, hd, hr⟩ := lkD_ok hl h
    obtain ⟨h1, h2⟩ := hd.2 args p v hr
    exact ⟨hd.1, h1, fun hp ρ w _ => h2 hp ρ w⟩
  O := oAppend_ok tyT_ok
set_option maxRecDepth 100000 in
theorem mixed : Tryd.prog.follows .mixedOrders = true := by kernel_rfl

theorem gives_sp {k : Nat} {z : Int} {w : World} {e : Ending} {w' : World} (h : GivesW k z w e w') (ρ : Rho) {j : Nat} (hz : Sm j z) : e = .returned ((SV.agg [.wid j z hz]).den ρ) ∧ Below w.heap.size w w' := by
  obtain ⟨b, s, h1, ⟨rfl, rfl⟩, -, h4⟩ := h
  exact ⟨h1, h4⟩
theorem num_wid {k : Nat} {z : Int} (h : Sm k z) : Num (k + 7) (decide (z < 0)) ⟨(mag z.natAbs).toArray⟩ z := Can.num ⟨rfl, rfl⟩ h
theorem sm_addj {j k : Nat} {y z : Int} (h : Sm j y) (h' : Sm k z) : Sm (j + k + 1) (y + z) := (h.mono (by omega : j ≤ j + k)).add (h'.mono (by omega : k ≤ j + k))
theorem sm_subj {j k : Nat} {y z : Int} (h : Sm j y) (h' : Sm k z) : Sm (j + k + 1) (y - z) := (h.mono (by omega : j ≤ j + k)).sub (h'.mono (by omega : k ≤ j + k))
def dFrom : Dn
  | [.c (.int n h)] => some (none, .agg [.wid 64 n (Sm.int h.1 h.2)])
  | _ => none
def dMul : Dn
  | [.agg [.wid j y hy], .agg [.wid k z hz]] => if j ≤ 80000000 ∧ k ≤ 80000000 then some (none, .agg [.wid (j + k) (y * z) (hy.mul hz)]) else none
  | _ => none
def dAdd : Dn
  | [.agg [.wid j y hy], .agg [.wid k z hz]] => if j ≤ 80000000 ∧ k ≤ 80000000 then some (none, .agg [.wid (j + k + 1) (y + z) (sm_addj hy hz)]) else none
  | _ => none
def dSub : Dn
  | [.agg [.wid j y hy], .agg [.wid k z hz]] => if j ≤ 80000000 ∧ k ≤ 80000000 then some (none, .agg [.wid (j + k + 1) (y - z) (sm_subj hy hz)]) else none
  | _ => none
def dNeg : Dn
  | [.agg [.wid j y hy]] => if j ≤ 80000000 then some (none, .agg [.wid j (-y) hy.neg]) else none
  | _ => none
theorem wid_args2 {j k : Nat} {y z : Int} (hy : Sm j y) (hz : Sm k z) (ρ : Rho) : (([.agg [.wid j y hy], .agg [.wid k z hz]] : List SV).map (SV.den ρ)).toArray =
    #[.agg #[.bool (decide (y < 0)), .string ⟨(mag y.natAbs).toArray⟩], .agg #[.bool (decide (z < 0)), .string ⟨(mag z.natAbs).toArray⟩]] := rfl
theorem spFrom {f : FuncId} (hc : Callable Tryd.prog f) (h : ∀ n, -9223372036854775808 ≤ n → n ≤ 9223372036854775807 → ∀ w, Calls Tryd.prog f #[.int .i64 n] w (GivesW 71 n w)) : SpOk Tryd.prog f dFrom := by
  refine ⟨hc, fun args p v hd => ?_⟩
  unfold dFrom at hd
  split at hd
  · rename_i n hn
    cases hd
    exact ⟨fun _ _ => rfl, fun _ ρ w => (h n hn.1 hn.2 w).mono fun e w' he => gives_sp he ρ _⟩
  · cases hd
theorem spMul {f : FuncId} (hc : Callable Tryd.prog f) (h : ∀ {k1 k2 : Nat} {b1 b2 : Bool} {s1 s2 : ByteArray} {z1 z2 : Int}, Num k1 b1 s1 z1 → Num k2 b2 s2 z2 → k1 ≤ 90000000 → k2 ≤ 90000000 → ∀ w, Calls Tryd.prog f #[.agg #[.bool b1, .string s1], .agg #[.bool b2, .string s2]] w (GivesW (k1 + k2 + 7) (z1 * z2) w)) :
    SpOk Tryd.prog f dMul := by
  refine ⟨hc, fun args p v hd => ?_⟩
  unfold dMul at hd
  split at hd
  · rename_i j y hy k z hz
    split at hd
    · rename_i hjk
      cases hd
      refine ⟨fun _ _ => rfl, fun _ ρ w => ?_⟩
      rw [wid_args2]
      exact (h (num_wid hy) (num_wid hz) (by omega) (by omega) w).mono fun e w' he => gives_sp he ρ _
    · cases hd
  · cases hd
theorem spAdd {f : FuncId} (hc : Callable Tryd.prog f) (h : ∀ {k1 k2 : Nat} {b1 b2 : Bool} {s1 s2 : ByteArray} {z1 z2 : Int}, Num k1 b1 s1 z1 → Num k2 b2 s2 z2 → k1 ≤ 90000000 → k2 ≤ 90000000 → ∀ w, Calls Tryd.prog f #[.agg #[.bool b1, .string s1], .agg #[.bool b2, .string s2]] w (GivesW (k1 + k2 + 8) (z1 + z2) w)) :
    SpOk Tryd.prog f dAdd := by
  refine ⟨hc, fun args p v hd => ?_⟩
  unfold dAdd at hd
  split at hd
  · rename_i j y hy k z hz
    split at hd
    · rename_i hjk
      cases hd
      refine ⟨fun _ _ => rfl, fun _ ρ w => ?_⟩
      rw [wid_args2]
      exact (h (num_wid hy) (num_wid hz) (by omega) (by omega) w).mono fun e w' he => gives_sp he ρ _
    · cases hd
  · cases hd
theorem spSub {f : FuncId} (hc : Callable Tryd.prog f) (h : ∀ {k1 k2 : Nat} {b1 b2 : Bool} {s1 s2 : ByteArray} {z1 z2 : Int}, Num k1 b1 s1 z1 → Num k2 b2 s2 z2 → k1 ≤ 90000000 → k2 ≤ 90000000 → ∀ w, Calls Tryd.prog f #[.agg #[.bool b1, .string s1], .agg #[.bool b2, .string s2]] w (GivesW (k1 + k2 + 15) (z1 - z2) w)) :
    SpOk Tryd.prog f dSub := by
  refine ⟨hc, fun args p v hd => ?_⟩
  unfold dSub at hd
  split at hd
  · rename_i j y hy k z hz
    split at hd
    · rename_i hjk
      cases hd
      refine ⟨fun _ _ => rfl, fun _ ρ w => ?_⟩
      rw [wid_args2]
      exact (h (num_wid hy) (num_wid hz) (by omega) (by omega) w).mono fun e w' he => gives_sp he ρ _
    · cases hd
  · cases hd
theorem spNeg {f : FuncId} (hc : Callable Tryd.prog f) (h : ∀ {k1 : Nat} {b1 : Bool} {s1 : ByteArray} {z1 : Int}, Num k1 b1 s1 z1 → k1 ≤ 90000000 → ∀ w, Calls Tryd.prog f #[.agg #[.bool b1, .string s1]] w (GivesW (k1 + 7) (-z1) w)) :
    SpOk Tryd.prog f dNeg := by
  refine ⟨hc, fun args p v hd => ?_⟩
  unfold dNeg at hd
  split at hd
  · rename_i j y hy
    split at hd
    · rename_i hjk
      cases hd
      refine ⟨fun _ _ => rfl, fun _ ρ w => ?_⟩
      exact (h (num_wid hy) (by omega) w).mono fun e w' he => gives_sp he ρ _
    · cases hd
  · cases hd

def base : List (FuncId × Dn) := [(29, dFrom), (32, dMul), (38, dAdd), (50, dSub), (67, dNeg),
  (42, dFrom), (16, dMul), (20, dAdd), (55, dSub), (73, dNeg)]
theorem base_ok : AllOk base :=
  .cons (spFrom ⟨_, Tryd.func29, by kernel_rfl, by kernel_rfl⟩ From_any) <|
  .cons (spMul ⟨_, Tryd.func32, by kernel_rfl, by kernel_rfl⟩ fun h1 h2 h3 h4 w => Mul_any h1 h2 (by omega) (by omega) w) <|
  .cons (spAdd ⟨_, Tryd.func38, by kernel_rfl, by kernel_rfl⟩ fun h1 h2 h3 h4 w => Add_any h1 h2 (by omega) (by omega) w) <|
  .cons (spSub ⟨_, Tryd.func50, by kernel_rfl, by kernel_rfl⟩ fun h1 h2 h3 h4 w => Sub_any h1 h2 (by omega) (by omega) w) <|
  .cons (spNeg ⟨_, Tryd.func67, by kernel_rfl, by kernel_rfl⟩ fun h1 h2 w => Neg_any h1 (by omega) w) <|
  .cons (spFrom ⟨_, Tryd.func42, by kernel_rfl, by kernel_rfl⟩ RFrom_any) <|
  .cons (spMul ⟨_, Tryd.func16, by kernel_rfl, by kernel_rfl⟩ fun h1 h2 h3 h4 w => RMul_any h1 h2 (by omega) (by omega) w) <|
  .cons (spAdd ⟨_, Tryd.func20, by kernel_rfl, by kernel_rfl⟩ fun h1 h2 h3 h4 w => RAdd_any h1 h2 (by omega) (by omega) w) <|
  .cons (spSub ⟨_, Tryd.func55, by kernel_rfl, by kernel_rfl⟩ fun h1 h2 h3 h4 w => RSub_any h1 h2 (by omega) (by omega) w) <|
  .cons (spNeg ⟨_, Tryd.func73, by kernel_rfl, by kernel_rfl⟩ fun h1 h2 w => RNeg_any h1 (by omega) w) .nil

/-- functions that are walked in place -/
theorem sp_of {f : FuncId} {fn : Func} (hf : FnOk Tryd.prog f fn) {un : Nat} {l : List (FuncId × Dn)} (hl : AllOk l) {F : FuncId → Option Func} (hF : ∀ f fn, F f = some fn → FnOk Tryd.prog f fn) {n : Nat} {d : Dn}
    (h : ∀ args p v, d args = some (p, v) → (∀ ρ ρ', v.den ρ = v.den ρ') ∧ (∀ ρ ρ', args.map (SV.den ρ) = args.map (SV.den ρ')) ∧ ((∀ q, p = some q → q) → vcF (env un l) (inl (env un l) F n) fn args [] fun u _ => ∀ ρ, u.den ρ = v.den ρ)) : SpOk Tryd.prog f d :=
  ⟨hf.callable, fun args p v hd => by
    obtain ⟨h1, h2, h3⟩ := h args p v hd
    exact ⟨h1, fun hp ρ w => pure_ok (env_ok hl un) mixed hF hf h1 h2 (h3 hp) ρ w⟩⟩
theorem sp_of2 {f : FuncId} {fn : Func} (hf : FnOk Tryd.prog f fn) {un : Nat} {l : List (FuncId × Dn)} (hl : AllOk l) {F : FuncId → Option Func} (hF : ∀ f fn, F f = some fn → FnOk Tryd.prog f fn) {n : Nat} {d : Dn}
    (h : ∀ args p v, d args = some (p, v) → ∃ args', (∀ ρ, args.map (SV.den ρ) = args'.map (SV.den ρ)) ∧ (∀ ρ ρ', v.den ρ = v.den ρ') ∧ (∀ ρ ρ', args'.map (SV.den ρ) = args'.map (SV.den ρ')) ∧
      ((∀ q, p = some q → q) → vcF (env un l) (inl (env un l) F n) fn args' [] fun u _ => ∀ ρ, u.den ρ = v.den ρ)) : SpOk Tryd.prog f d :=
  ⟨hf.callable, fun args p v hd => by
    obtain ⟨args', h0, h1, h2, h3⟩ := h args p v hd
    exact ⟨h1, fun hp ρ w => by rw [h0]; exact pure_ok (env_ok hl un) mixed hF hf h1 h2 (h3 hp) ρ w⟩⟩
def noF : FuncId → Option Func := fun _ => none
theorem noF_ok : ∀ f fn, noF f = some fn → FnOk Tryd.prog f fn := fun f fn h => by cases h
theorem lkF_ok {l : List (FuncId × Func)} (hl : ∀ x ∈ l, FnOk Tryd.prog x.1 x.2) : ∀ f fn, lk l f = some fn → FnOk Tryd.prog f fn := fun _ _ h => hl _ (lk_mem h)
end Go.Proofs.YtapppahniablmaaDoor

namespace Go.Proofs.YtapppahniablmaaDoor
open Go.RowKit
set_option maxRecDepth 100000

theorem smI {n : Int} (h : IR n) : Sm 64 n := Sm.int h.1 h.2
theorem sm0 : Sm 0 0 := by unfold Sm; decide
def dX : Dn
  | [.agg [.int x hx, .int _ _, .int _ _]] => some (none, .c (.int x hx))
  | _ => none
def dY : Dn
  | [.agg [.int _ _, .int y hy, .int _ _]] => some (none, .c (.int y hy))
  | _ => none
def dZ : Dn
  | [.agg [.int _ _, .int _ _, .int z hz]] => some (none, .c (.int z hz))
  | _ => none
theorem spX : SpOk Tryd.prog 82 dX := sp_of (un := 20) (n := 0) ⟨Tryd.func82, by kernel_rfl, by kernel_rfl⟩ base_ok noF_ok fun args p v hd => by
  unfold dX at hd
  split at hd
  · cases hd
    refine ⟨fun _ _ => rfl, fun _ _ => rfl, fun _ => ?_⟩
    conv => whnf
    exact fun _ => rfl
  · cases hd
theorem spY : SpOk Tryd.prog 83 dY := sp_of (un := 20) (n := 0) ⟨Tryd.func83, by kernel_rfl, by kernel_rfl⟩ base_ok noF_ok fun args p v hd => by
  unfold dY at hd
  split at hd
  · cases hd
    refine ⟨fun _ _ => rfl, fun _ _ => rfl, fun _ => ?_⟩
    conv => whnf
    exact fun _ => rfl
  · cases hd
theorem spZ : SpOk Tryd.prog 84 dZ := sp_of (un := 20) (n := 0) ⟨Tryd.func84, by kernel_rfl, by kernel_rfl⟩ base_ok noF_ok fun args p v hd => by
  unfold dZ at hd
  split at hd
  · cases hd
    refine ⟨fun _ _ => rfl, fun _ _ => rfl, fun _ => ?_⟩
    conv => whnf
    exact fun _ => rfl
  · cases hd
def base1 : List (FuncId × Dn) := (82, dX) :: (83, dY) :: (84, dZ) :: base
theorem base1_ok : AllOk base1 := .cons spX <| .cons spY <| .cons spZ base_ok
noncomputable def fx1 : FuncId → Option Func := lk [(74, Tryd.f74), (75, Tryd.f75)]
theorem fx1_ok : ∀ f fn, fx1 f = some fn → FnOk Tryd.prog f fn := lkF_ok fun x hx => by
  simp only [List.mem_cons, List.not_mem_nil, or_false] at hx
  rcases hx with rfl | rfl
  · exact ⟨Tryd.func74, by kernel_rfl, by kernel_rfl⟩
  · exact ⟨Tryd.func75, by kernel_rfl, by kernel_rfl⟩
def dFar : Dn
  | [.agg [.int x1 h1, .int y1 h2, .int z1 h3], .agg [.int x2 h4, .int y2 h5, .int z2 h6]] =>
    some (none, .agg [.wid 129 (x2 - x1) (sm_subj (smI h4) (smI h1)), .wid 129 (y2 - y1) (sm_subj (smI h5) (smI h2)), .wid 129 (z2 - z1) (sm_subj (smI h6) (smI h3))])
  | _ => none
theorem spFar : SpOk Tryd.prog 65 dFar := sp_of (un := 20) (n := 3) ⟨Tryd.func65, by kernel_rfl, by kernel_rfl⟩ base1_ok fx1_ok fun args p v hd => by
  unfold dFar at hd
  split at hd
  · cases hd
    refine ⟨fun _ _ => rfl, fun _ _ => rfl, fun _ => ?_⟩
    conv => whnf
    exact fun _ => rfl
  · cases hd
end Go.Proofs.YtapppahniablmaaDoor

namespace Go.Proofs.YtapppahniablmaaDoor
open Go.RowKit
set_option maxRecDepth 100000

def dProd : Dn
  | [.agg [.wid ju0 u0 hu0, .wid ju1 u1 hu1, .wid ju2 u2 hu2], .agg [.wid jv0 v0 hv0, .wid jv1 v1 hv1, .wid jv2 v2 hv2]] =>
    if ju0 ≤ 10000000 ∧ ju1 ≤ 10000000 ∧ ju2 ≤ 10000000 ∧ jv0 ≤ 10000000 ∧ jv1 ≤ 10000000 ∧ jv2 ≤ 10000000 then some (none, .agg [.wid ((ju1 + jv2) + (ju2 + jv1) + 1) (u1 * v2 - u2 * v1) (sm_subj (Sm.mul hu1 hv2) (Sm.mul hu2 hv1)), .wid ((ju2 + jv0) + (ju0 + jv2) + 1) (u2 * v0 - u0 * v2) (sm_subj (Sm.mul hu2 hv0) (Sm.mul hu0 hv2)), .wid ((ju0 + jv1) + (ju1 + jv0) + 1) (u0 * v1 - u1 * v0) (sm_subj (Sm.mul hu0 hv1) (Sm.mul hu1 hv0))]) else none
  | _ => none
theorem spProd : SpOk Tryd.prog 66 dProd := sp_of2 (un := 20) (n := 3) ⟨Tryd.func66, by kernel_rfl, by kernel_rfl⟩ base1_ok fx1_ok fun args p v hd => by
  unfold dProd at hd
  split at hd
  · rename_i ju0 u0 hu0 ju1 u1 hu1 ju2 u2 hu2 jv0 v0 hv0 jv1 v1 hv1 jv2 v2 hv2
    split at hd
    · rename_i hcon
      cases hd
      refine ⟨[.agg [.wid 10000000 u0 (hu0.mono hcon.1), .wid 10000000 u1 (hu1.mono hcon.2.1), .wid 10000000 u2 (hu2.mono hcon.2.2.1)], .agg [.wid 10000000 v0 (hv0.mono hcon.2.2.2.1), .wid 10000000 v1 (hv1.mono hcon.2.2.2.2.1), .wid 10000000 v2 (hv2.mono hcon.2.2.2.2.2)]], fun _ => rfl, fun _ _ => rfl, fun _ _ => rfl, fun _ => ?_⟩
      conv => whnf
      exact fun _ => rfl
    · cases hd
  · cases hd
def base2 : List (FuncId × Dn) := (65, dFar) :: (66, dProd) :: base1
theorem base2_ok : AllOk base2 := .cons spFar <| .cons spProd <| base1_ok
def dNormal : Dn
  | [.agg [.int x1 hx1, .int y1 hy1, .int z1 hz1, .int x2 hx2, .int y2 hy2, .int z2 hz2, .int x3 hx3, .int y3 hy3, .int z3 hz3]] =>
    some (none, .agg [.wid 517 ((y2 - y1) * (z3 - z1) - (z2 - z1) * (y3 - y1)) (sm_subj (Sm.mul (sm_subj (smI hy2) (smI hy1)) (sm_subj (smI hz3) (smI hz1))) (Sm.mul (sm_subj (smI hz2) (smI hz1)) (sm_subj (smI hy3) (smI hy1)))), .wid 517 ((z2 - z1) * (x3 - x1) - (x2 - x1) * (z3 - z1)) (sm_subj (Sm.mul (sm_subj (smI hz2) (smI hz1)) (sm_subj (smI hx3) (smI hx1))) (Sm.mul (sm_subj (smI hx2) (smI hx1)) (sm_subj (smI hz3) (smI hz1)))), .wid 517 ((x2 - x1) * (y3 - y1) - (y2 - y1) * (x3 - x1)) (sm_subj (Sm.mul (sm_subj (smI hx2) (smI hx1)) (sm_subj (smI hy3) (smI hy1))) (Sm.mul (sm_subj (smI hy2) (smI hy1)) (sm_subj (smI hx3) (smI hx1))))])
  | _ => none
theorem spNormal : SpOk Tryd.prog 49 dNormal := sp_of2 (un := 20) (n := 0) ⟨Tryd.func49, by kernel_rfl, by kernel_rfl⟩ base2_ok noF_ok fun args p v hd => by
  unfold dNormal at hd
  split at hd
  · rename_i x1 hx1 y1 hy1 z1 hz1 x2 hx2 y2 hy2 z2 hz2 x3 hx3 y3 hy3 z3 hz3
    cases hd
    refine ⟨[.agg [.int x1 hx1, .int y1 hy1, .int z1 hz1, .int x2 hx2, .int y2 hy2, .int z2 hz2, .int x3 hx3, .int y3 hy3, .int z3 hz3]], fun _ => rfl, fun _ _ => rfl, fun _ _ => rfl, fun _ => ?_⟩
    conv => whnf
    exact fun _ => rfl
  · cases hd
def dMinus2 : Dn
  | [.agg [.wid ja a ha], .agg [.wid jb b hb], .agg [.wid jc c hc], .agg [.wid jd d hd]] =>
    if ja ≤ 20000000 ∧ jb ≤ 20000000 ∧ jc ≤ 20000000 ∧ jd ≤ 20000000 then some (none, .agg [.wid ((ja + jb) + (jc + jd) + 1) (a * b - c * d) (sm_subj (Sm.mul ha hb) (Sm.mul hc hd))]) else none
  | _ => none
theorem spMinus2 : SpOk Tryd.prog 81 dMinus2 := sp_of2 (un := 20) (n := 0) ⟨Tryd.func81, by kernel_rfl, by kernel_rfl⟩ base2_ok noF_ok fun args p v hd => by
  unfold dMinus2 at hd
  split at hd
  · rename_i ja a ha jb b hb jc c hc jd d hd
    split at hd
    · rename_i hcon
      cases hd
      refine ⟨[.agg [.wid 20000000 a (ha.mono hcon.1)], .agg [.wid 20000000 b (hb.mono hcon.2.1)], .agg [.wid 20000000 c (hc.mono hcon.2.2.1)], .agg [.wid 20000000 d (hd.mono hcon.2.2.2)]], fun _ => rfl, fun _ _ => rfl, fun _ _ => rfl, fun _ => ?_⟩
      conv => whnf
      exact fun _ => rfl
    · cases hd
  · cases hd
def dWide2 : Dn
  | [.agg [.int x1 hx1, .int y1 hy1, .int z1 hz1], .agg [.int x2 hx2, .int y2 hy2, .int z2 hz2]] =>
    some (none, .agg [.wid 129 (x2 - x1) (sm_subj (smI hx2) (smI hx1)), .wid 129 (y2 - y1) (sm_subj (smI hy2) (smI hy1)), .wid 129 (z2 - z1) (sm_subj (smI hz2) (smI hz1))])
  | _ => none
theorem spWide2 : SpOk Tryd.prog 72 dWide2 := sp_of2 (un := 20) (n := 0) ⟨Tryd.func72, by kernel_rfl, by kernel_rfl⟩ base2_ok noF_ok fun args p v hd => by
  unfold dWide2 at hd
  split at hd
  · rename_i x1 hx1 y1 hy1 z1 hz1 x2 hx2 y2 hy2 z2 hz2
    cases hd
    refine ⟨[.agg [.int x1 hx1, .int y1 hy1, .int z1 hz1], .agg [.int x2 hx2, .int y2 hy2, .int z2 hz2]], fun _ => rfl, fun _ _ => rfl, fun _ _ => rfl, fun _ => ?_⟩
    conv => whnf
    exact fun _ => rfl
  · cases hd
def base3 : List (FuncId × Dn) := (49, dNormal) :: (81, dMinus2) :: (72, dWide2) :: base2
theorem base3_ok : AllOk base3 := .cons spNormal <| .cons spMinus2 <| .cons spWide2 <| base2_ok
def dWProd2 : Dn
  | [.agg [.wid ju0 u0 hu0, .wid ju1 u1 hu1, .wid ju2 u2 hu2], .agg [.wid jv0 v0 hv0, .wid jv1 v1 hv1, .wid jv2 v2 hv2]] =>
    if ju0 ≤ 10000000 ∧ ju1 ≤ 10000000 ∧ ju2 ≤ 10000000 ∧ jv0 ≤ 10000000 ∧ jv1 ≤ 10000000 ∧ jv2 ≤ 10000000 then some (none, .agg [.wid ((ju1 + jv2) + (ju2 + jv1) + 1) (u1 * v2 - u2 * v1) (sm_subj (Sm.mul hu1 hv2) (Sm.mul hu2 hv1)), .wid ((ju2 + jv0) + (ju0 + jv2) + 1) (u2 * v0 - u0 * v2) (sm_subj (Sm.mul hu2 hv0) (Sm.mul hu0 hv2)), .wid ((ju0 + jv1) + (ju1 + jv0) + 1) (u0 * v1 - u1 * v0) (sm_subj (Sm.mul hu0 hv1) (Sm.mul hu1 hv0))]) else none
  | _ => none
theorem spWProd2 : SpOk Tryd.prog 71 dWProd2 := sp_of2 (un := 20) (n := 0) ⟨Tryd.func71, by kernel_rfl, by kernel_rfl⟩ base3_ok noF_ok fun args p v hd => by
  unfold dWProd2 at hd
  split at hd
  · rename_i ju0 u0 hu0 ju1 u1 hu1 ju2 u2 hu2 jv0 v0 hv0 jv1 v1 hv1 jv2 v2 hv2
    split at hd
    · rename_i hcon
      cases hd
      refine ⟨[.agg [.wid 10000000 u0 (hu0.mono hcon.1), .wid 10000000 u1 (hu1.mono hcon.2.1), .wid 10000000 u2 (hu2.mono hcon.2.2.1)], .agg [.wid 10000000 v0 (hv0.mono hcon.2.2.2.1), .wid 10000000 v1 (hv1.mono hcon.2.2.2.2.1), .wid 10000000 v2 (hv2.mono hcon.2.2.2.2.2)]], fun _ => rfl, fun _ _ => rfl, fun _ _ => rfl, fun _ => ?_⟩
      conv => whnf
      exact fun _ => rfl
    · cases hd
  · cases hd
def base4 : List (FuncId × Dn) := (71, dWProd2) :: base3
theorem base4_ok : AllOk base4 := .cons spWProd2 <| base3_ok
def dNormal2 : Dn
  | [.agg [.int x1 hx1, .int y1 hy1, .int z1 hz1, .int x2 hx2, .int y2 hy2, .int z2 hz2, .int x3 hx3, .int y3 hy3, .int z3 hz3]] =>
    some (none, .agg [.wid 517 ((y2 - y1) * (z3 - z1) - (z2 - z1) * (y3 - y1)) (sm_subj (Sm.mul (sm_subj (smI hy2) (smI hy1)) (sm_subj (smI hz3) (smI hz1))) (Sm.mul (sm_subj (smI hz2) (smI hz1)) (sm_subj (smI hy3) (smI hy1)))), .wid 517 ((z2 - z1) * (x3 - x1) - (x2 - x1) * (z3 - z1)) (sm_subj (Sm.mul (sm_subj (smI hz2) (smI hz1)) (sm_subj (smI hx3) (smI hx1))) (Sm.mul (sm_subj (smI hx2) (smI hx1)) (sm_subj (smI hz3) (smI hz1)))), .wid 517 ((x2 - x1) * (y3 - y1) - (y2 - y1) * (x3 - x1)) (sm_subj (Sm.mul (sm_subj (smI hx2) (smI hx1)) (sm_subj (smI hy3) (smI hy1))) (Sm.mul (sm_subj (smI hy2) (smI hy1)) (sm_subj (smI hx3) (smI hx1))))])
  | _ => none
theorem spNormal2 : SpOk Tryd.prog 54 dNormal2 := sp_of2 (un := 20) (n := 0) ⟨Tryd.func54, by kernel_rfl, by kernel_rfl⟩ base4_ok noF_ok fun args p v hd => by
  unfold dNormal2 at hd
  split at hd
  · rename_i x1 hx1 y1 hy1 z1 hz1 x2 hx2 y2 hy2 z2 hz2 x3 hx3 y3 hy3 z3 hz3
    cases hd
    refine ⟨[.agg [.int x1 hx1, .int y1 hy1, .int z1 hz1, .int x2 hx2, .int y2 hy2, .int z2 hz2, .int x3 hx3, .int y3 hy3, .int z3 hz3]], fun _ => rfl, fun _ _ => rfl, fun _ _ => rfl, fun _ => ?_⟩
    conv => whnf
    exact fun _ => rfl
  · cases hd
def dNum10 : Dn
  | [.c (.int n hn)] =>
    some (none, .agg [.wid 64 (n) (smI hn)])
  | _ => none
theorem spNum10 : SpOk Tryd.prog 34 dNum10 := sp_of2 (un := 20) (n := 0) ⟨Tryd.func34, by kernel_rfl, by kernel_rfl⟩ base4_ok noF_ok fun args p v hd => by
  unfold dNum10 at hd
  split at hd
  · rename_i n hn
    cases hd
    refine ⟨[.c (.int n hn)], fun _ => rfl, fun _ _ => rfl, fun _ _ => rfl, fun _ => ?_⟩
    conv => whnf
    exact fun _ => rfl
  · cases hd
def dMul10 : Dn
  | [.agg [.wid ja a ha], .agg [.wid jb b hb]] =>
    if ja ≤ 80000000 ∧ jb ≤ 80000000 then some (none, .agg [.wid (ja + jb) (a * b) (Sm.mul ha hb)]) else none
  | _ => none
theorem spMul10 : SpOk Tryd.prog 35 dMul10 := sp_of2 (un := 20) (n := 0) ⟨Tryd.func35, by kernel_rfl, by kernel_rfl⟩ base4_ok noF_ok fun args p v hd => by
  unfold dMul10 at hd
  split at hd
  · rename_i ja a ha jb b hb
    split at hd
    · rename_i hcon
      cases hd
      refine ⟨[.agg [.wid 80000000 a (ha.mono hcon.1)], .agg [.wid 80000000 b (hb.mono hcon.2)]], fun _ => rfl, fun _ _ => rfl, fun _ _ => rfl, fun _ => ?_⟩
      conv => whnf
      exact fun _ => rfl
    · cases hd
  · cases hd
def dAdd10 : Dn
  | [.agg [.wid ja a ha], .agg [.wid jb b hb]] =>
    if ja ≤ 80000000 ∧ jb ≤ 80000000 then some (none, .agg [.wid (ja + jb + 1) (a + b) (sm_addj ha hb)]) else none
  | _ => none
theorem spAdd10 : SpOk Tryd.prog 36 dAdd10 := sp_of2 (un := 20) (n := 0) ⟨Tryd.func36, by kernel_rfl, by kernel_rfl⟩ base4_ok noF_ok fun args p v hd => by
  unfold dAdd10 at hd
  split at hd
  · rename_i ja a ha jb b hb
    split at hd
    · rename_i hcon
      cases hd
      refine ⟨[.agg [.wid 80000000 a (ha.mono hcon.1)], .agg [.wid 80000000 b (hb.mono hcon.2)]], fun _ => rfl, fun _ _ => rfl, fun _ _ => rfl, fun _ => ?_⟩
      conv => whnf
      exact fun _ => rfl
    · cases hd
  · cases hd
end Go.Proofs.YtapppahniablmaaDoor

namespace Go.Proofs.YtapppahniablmaaDoor
open Go.RowKit
set_option maxRecDepth 100000

theorem wid_eq {j k : Nat} {y z : Int} {hy : Sm j y} {hz : Sm k z} (h : y = z) (ρ : Rho) : (C.wid j y hy).cells ρ = (C.wid k z hz).cells ρ := by subst h; rfl
theorem cells_congr {ρ : Rho} {x y : C} {l m : List C} (h1 : x.cells ρ = y.cells ρ) (h2 : cellsL ρ l = cellsL ρ m) : cellsL ρ (x :: l) = cellsL ρ (y :: m) := by rw [cellsL_cons, cellsL_cons, h1, h2]
theorem agg_congr {ρ : Rho} {l m : List C} (h : cellsL ρ l = cellsL ρ m) : (SV.agg l).den ρ = (SV.agg m).den ρ := by rw [den_agg, den_agg, h]
def base5 : List (FuncId × Dn) := (54, dNormal2) :: (34, dNum10) :: (35, dMul10) :: (36, dAdd10) :: base4
theorem base5_ok : AllOk base5 := .cons spNormal2 <| .cons spNum10 <| .cons spMul10 <| .cons spAdd10 <| base4_ok
def dPlane10 : Dn
  | [.agg [.int x1 hx1, .int y1 hy1, .int z1 hz1, .int x2 hx2, .int y2 hy2, .int z2 hz2, .int x3 hx3, .int y3 hy3, .int z3 hz3]] =>
    some (none, .agg [.wid 517 ((y2 - y1) * (z3 - z1) - (z2 - z1) * (y3 - y1)) (sm_subj (Sm.mul (sm_subj (smI hy2) (smI hy1)) (sm_subj (smI hz3) (smI hz1))) (Sm.mul (sm_subj (smI hz2) (smI hz1)) (sm_subj (smI hy3) (smI hy1)))), .wid 517 ((z2 - z1) * (x3 - x1) - (x2 - x1) * (z3 - z1)) (sm_subj (Sm.mul (sm_subj (smI hz2) (smI hz1)) (sm_subj (smI hx3) (smI hx1))) (Sm.mul (sm_subj (smI hx2) (smI hx1)) (sm_subj (smI hz3) (smI hz1)))), .wid 517 ((x2 - x1) * (y3 - y1) - (y2 - y1) * (x3 - x1)) (sm_subj (Sm.mul (sm_subj (smI hx2) (smI hx1)) (sm_subj (smI hy3) (smI hy1))) (Sm.mul (sm_subj (smI hy2) (smI hy1)) (sm_subj (smI hx3) (smI hx1)))), .wid 1810 (0 - (((y2 - y1) * (z3 - z1) - (z2 - z1) * (y3 - y1)) * x1 + (((z2 - z1) * (x3 - x1) - (x2 - x1) * (z3 - z1)) * y1 + ((x2 - x1) * (y3 - y1) - (y2 - y1) * (x3 - x1)) * z1))) (sm_subj (smI (n := 0) (by decide)) (sm_addj (Sm.mul (sm_subj (Sm.mul (sm_subj (smI hy2) (smI hy1)) (sm_subj (smI hz3) (smI hz1))) (Sm.mul (sm_subj (smI hz2) (smI hz1)) (sm_subj (smI hy3) (smI hy1)))) (smI hx1)) (sm_addj (Sm.mul (sm_subj (Sm.mul (sm_subj (smI hz2) (smI hz1)) (sm_subj (smI hx3) (smI hx1))) (Sm.mul (sm_subj (smI hx2) (smI hx1)) (sm_subj (smI hz3) (smI hz1)))) (smI hy1)) (Sm.mul (sm_subj (Sm.mul (sm_subj (smI hx2) (smI hx1)) (sm_subj (smI hy3) (smI hy1))) (Sm.mul (sm_subj (smI hy2) (smI hy1)) (sm_subj (smI hx3) (smI hx1)))) (smI hz1)))))])
  | _ => none
theorem spPlane10 : SpOk Tryd.prog 33 dPlane10 := sp_of2 (un := 20) (n := 0) ⟨Tryd.func33, by kernel_rfl, by kernel_rfl⟩ base5_ok noF_ok fun args p v hd => by
  unfold dPlane10 at hd
  split at hd
  · rename_i x1 hx1 y1 hy1 z1 hz1 x2 hx2 y2 hy2 z2 hz2 x3 hx3 y3 hy3 z3 hz3
    cases hd
    refine ⟨[.agg [.int x1 hx1, .int y1 hy1, .int z1 hz1, .int x2 hx2, .int y2 hy2, .int z2 hz2, .int x3 hx3, .int y3 hy3, .int z3 hz3]], fun _ => rfl, fun _ _ => rfl, fun _ _ => rfl, fun _ => ?_⟩
    conv => whnf
    exact fun _ => rfl
  · cases hd
set_option maxHeartbeats 4000000 in
def dPlaneQ : Dn
  | [.agg [.int x1 hx1, .int y1 hy1, .int z1 hz1, .int x2 hx2, .int y2 hy2, .int z2 hz2, .int x3 hx3, .int y3 hy3, .int z3 hz3]] =>
    some (none, .agg [.wid 517 ((y2 - y1) * (z3 - z1) - (z2 - z1) * (y3 - y1)) (sm_subj (Sm.mul (sm_subj (smI hy2) (smI hy1)) (sm_subj (smI hz3) (smI hz1))) (Sm.mul (sm_subj (smI hz2) (smI hz1)) (sm_subj (smI hy3) (smI hy1)))), .wid 517 ((z2 - z1) * (x3 - x1) - (x2 - x1) * (z3 - z1)) (sm_subj (Sm.mul (sm_subj (smI hz2) (smI hz1)) (sm_subj (smI hx3) (smI hx1))) (Sm.mul (sm_subj (smI hx2) (smI hx1)) (sm_subj (smI hz3) (smI hz1)))), .wid 517 ((x2 - x1) * (y3 - y1) - (y2 - y1) * (x3 - x1)) (sm_subj (Sm.mul (sm_subj (smI hx2) (smI hx1)) (sm_subj (smI hy3) (smI hy1))) (Sm.mul (sm_subj (smI hy2) (smI hy1)) (sm_subj (smI hx3) (smI hx1)))), .wid 1746 (0 - ((y2 - y1) * (z3 - z1) - (z2 - z1) * (y3 - y1)) * x1 - ((z2 - z1) * (x3 - x1) - (x2 - x1) * (z3 - z1)) * y1 - ((x2 - x1) * (y3 - y1) - (y2 - y1) * (x3 - x1)) * z1) (sm_subj (sm_subj (sm_subj sm0 (Sm.mul (sm_subj (Sm.mul (sm_subj (smI hy2) (smI hy1)) (sm_subj (smI hz3) (smI hz1))) (Sm.mul (sm_subj (smI hz2) (smI hz1)) (sm_subj (smI hy3) (smI hy1)))) (smI hx1))) (Sm.mul (sm_subj (Sm.mul (sm_subj (smI hz2) (smI hz1)) (sm_subj (smI hx3) (smI hx1))) (Sm.mul (sm_subj (smI hx2) (smI hx1)) (sm_subj (smI hz3) (smI hz1)))) (smI hy1))) (Sm.mul (sm_subj (Sm.mul (sm_subj (smI hx2) (smI hx1)) (sm_subj (smI hy3) (smI hy1))) (Sm.mul (sm_subj (smI hy2) (smI hy1)) (sm_subj (smI hx3) (smI hx1)))) (smI hz1)))])
  | _ => none
theorem spPlaneQ : SpOk Tryd.prog 28 dPlaneQ := sp_of2 (un := 20) (n := 2) ⟨Tryd.func28, by kernel_rfl, by kernel_rfl⟩ base5_ok noF_ok fun args p v hd => by
  unfold dPlaneQ at hd
  split at hd
  · rename_i x1 hx1 y1 hy1 z1 hz1 x2 hx2 y2 hy2 z2 hz2 x3 hx3 y3 hy3 z3 hz3
    cases hd
    refine ⟨[.agg [.int x1 hx1, .int y1 hy1, .int z1 hz1, .int x2 hx2, .int y2 hy2, .int z2 hz2, .int x3 hx3, .int y3 hy3, .int z3 hz3]], fun _ => rfl, fun _ _ => rfl, fun _ _ => rfl, fun _ => ?_⟩
    conv => whnf
    exact fun _ => rfl
  · cases hd
def base6 : List (FuncId × Dn) := (33, dPlane10) :: (28, dPlaneQ) :: base5
theorem base6_ok : AllOk base6 := .cons spPlane10 <| .cons spPlaneQ <| base5_ok
end Go.Proofs.YtapppahniablmaaDoor

namespace Go.Proofs.YtapppahniablmaaDoor
open Go.RowKit
set_option maxRecDepth 100000

/-- the plane of a triangle -/
def plA (_ y1 z1 _ y2 z2 _ y3 z3 : Int) : Int := (y2 - y1) * (z3 - z1) - (z2 - z1) * (y3 - y1)
def plB (x1 _ z1 x2 _ z2 x3 _ z3 : Int) : Int := (z2 - z1) * (x3 - x1) - (x2 - x1) * (z3 - z1)
def plC (x1 y1 _ x2 y2 _ x3 y3 _ : Int) : Int := (x2 - x1) * (y3 - y1) - (y2 - y1) * (x3 - x1)
def plD (x1 y1 z1 x2 y2 z2 x3 y3 z3 : Int) : Int := -(plA x1 y1 z1 x2 y2 z2 x3 y3 z3 * x1 + plB x1 y1 z1 x2 y2 z2 x3 y3 z3 * y1 + plC x1 y1 z1 x2 y2 z2 x3 y3 z3 * z1)
section
variable {x1 y1 z1 x2 y2 z2 x3 y3 z3 : Int} (h1 : IR x1) (h2 : IR y1) (h3 : IR z1) (h4 : IR x2) (h5 : IR y2) (h6 : IR z2) (h7 : IR x3) (h8 : IR y3) (h9 : IR z3)
include h1 h2 h3 h4 h5 h6 h7 h8 h9
theorem plA_sm : Sm 517 (plA x1 y1 z1 x2 y2 z2 x3 y3 z3) := by
  have _ := h1; have _ := h4; have _ := h7
  exact sm_subj (Sm.mul (sm_subj (smI h5) (smI h2)) (sm_subj (smI h9) (smI h3))) (Sm.mul (sm_subj (smI h6) (smI h3)) (sm_subj (smI h8) (smI h2)))
theorem plB_sm : Sm 517 (plB x1 y1 z1 x2 y2 z2 x3 y3 z3) := by
  have _ := h2; have _ := h5; have _ := h8
  exact sm_subj (Sm.mul (sm_subj (smI h6) (smI h3)) (sm_subj (smI h7) (smI h1))) (Sm.mul (sm_subj (smI h4) (smI h1)) (sm_subj (smI h9) (smI h3)))
theorem plC_sm : Sm 517 (plC x1 y1 z1 x2 y2 z2 x3 y3 z3) := by
  have _ := h3; have _ := h6; have _ := h9
  exact sm_subj (Sm.mul (sm_subj (smI h4) (smI h1)) (sm_subj (smI h8) (smI h2))) (Sm.mul (sm_subj (smI h5) (smI h2)) (sm_subj (smI h7) (smI h1)))
theorem plD_sm : Sm 1745 (plD x1 y1 z1 x2 y2 z2 x3 y3 z3) :=
  (sm_addj (sm_addj (Sm.mul (plA_sm h1 h2 h3 h4 h5 h6 h7 h8 h9) (smI h1)) (Sm.mul (plB_sm h1 h2 h3 h4 h5 h6 h7 h8 h9) (smI h2))) (Sm.mul (plC_sm h1 h2 h3 h4 h5 h6 h7 h8 h9) (smI h3))).neg
end
def dPlane10b : Dn
  | [.agg [.int x1 hx1, .int y1 hy1, .int z1 hz1, .int x2 hx2, .int y2 hy2, .int z2 hz2, .int x3 hx3, .int y3 hy3, .int z3 hz3]] => some (none, .agg [.wid 517 (plA x1 y1 z1 x2 y2 z2 x3 y3 z3) (plA_sm hx1 hy1 hz1 hx2 hy2 hz2 hx3 hy3 hz3), .wid 517 (plB x1 y1 z1 x2 y2 z2 x3 y3 z3) (plB_sm hx1 hy1 hz1 hx2 hy2 hz2 hx3 hy3 hz3), .wid 517 (plC x1 y1 z1 x2 y2 z2 x3 y3 z3) (plC_sm hx1 hy1 hz1 hx2 hy2 hz2 hx3 hy3 hz3), .wid 1745 (plD x1 y1 z1 x2 y2 z2 x3 y3 z3) (plD_sm hx1 hy1 hz1 hx2 hy2 hz2 hx3 hy3 hz3)])
  | _ => none
theorem spPlane10b : SpOk Tryd.prog 33 dPlane10b := ⟨spPlane10.1, fun args p v hd => by
  unfold dPlane10b at hd
  split at hd
  · rename_i x1 hx1 y1 hy1 z1 hz1 x2 hx2 y2 hy2 z2 hz2 x3 hx3 y3 hy3 z3 hz3
    cases hd
    refine ⟨fun _ _ => rfl, fun _ ρ w => ?_⟩
    refine ((spPlane10.2 _ _ _ rfl).2 (fun q hq => by cases hq) ρ w).mono fun e w' he => ⟨he.1.trans (congrArg Ending.returned ?_), he.2⟩
    refine agg_congr (cells_congr rfl (cells_congr rfl (cells_congr rfl (cells_congr (wid_eq ?_ ρ) rfl))))
    unfold plD plA plB plC
    simp only [Int.sub_eq_add_neg, Int.neg_add, Int.zero_add, Int.add_assoc]
  · cases hd⟩
def dPlaneQb : Dn
  | [.agg [.int x1 hx1, .int y1 hy1, .int z1 hz1, .int x2 hx2, .int y2 hy2, .int z2 hz2, .int x3 hx3, .int y3 hy3, .int z3 hz3]] => some (none, .agg [.wid 517 (plA x1 y1 z1 x2 y2 z2 x3 y3 z3) (plA_sm hx1 hy1 hz1 hx2 hy2 hz2 hx3 hy3 hz3), .wid 517 (plB x1 y1 z1 x2 y2 z2 x3 y3 z3) (plB_sm hx1 hy1 hz1 hx2 hy2 hz2 hx3 hy3 hz3), .wid 517 (plC x1 y1 z1 x2 y2 z2 x3 y3 z3) (plC_sm hx1 hy1 hz1 hx2 hy2 hz2 hx3 hy3 hz3), .wid 1745 (plD x1 y1 z1 x2 y2 z2 x3 y3 z3) (plD_sm hx1 hy1 hz1 hx2 hy2 hz2 hx3 hy3 hz3)])
  | _ => none
theorem spPlaneQb : SpOk Tryd.prog 28 dPlaneQb := ⟨spPlaneQ.1, fun args p v hd => by
  unfold dPlaneQb at hd
  split at hd
  · rename_i x1 hx1 y1 hy1 z1 hz1 x2 hx2 y2 hy2 z2 hz2 x3 hx3 y3 hy3 z3 hz3
    cases hd
    refine ⟨fun _ _ => rfl, fun _ ρ w => ?_⟩
    refine ((spPlaneQ.2 _ _ _ rfl).2 (fun q hq => by cases hq) ρ w).mono fun e w' he => ⟨he.1.trans (congrArg Ending.returned ?_), he.2⟩
    refine agg_congr (cells_congr rfl (cells_congr rfl (cells_congr rfl (cells_congr (wid_eq ?_ ρ) rfl))))
    unfold plD plA plB plC
    simp only [Int.sub_eq_add_neg, Int.neg_add, Int.zero_add, Int.add_assoc]
  · cases hd⟩
def base7 : List (FuncId × Dn) := (33, dPlane10b) :: (28, dPlaneQb) :: base5
theorem base7_ok : AllOk base7 := .cons spPlane10b <| .cons spPlaneQb <| base5_ok
set_option maxHeartbeats 4000000 in
def dOf10 : Dn
  | [.agg [.int x1 hx1, .int y1 hy1, .int z1 hz1, .int x2 hx2, .int y2 hy2, .int z2 hz2, .int x3 hx3, .int y3 hy3, .int z3 hz3]] =>
    some (none, .agg [.wid 1034 (plA x1 y1 z1 x2 y2 z2 x3 y3 z3 * plA x1 y1 z1 x2 y2 z2 x3 y3 z3) (Sm.mul (plA_sm hx1 hy1 hz1 hx2 hy2 hz2 hx3 hy3 hz3) (plA_sm hx1 hy1 hz1 hx2 hy2 hz2 hx3 hy3 hz3)), .wid 1098 (2 * (plA x1 y1 z1 x2 y2 z2 x3 y3 z3 * plB x1 y1 z1 x2 y2 z2 x3 y3 z3)) (Sm.mul (smI (n := 2) (by decide)) (Sm.mul (plA_sm hx1 hy1 hz1 hx2 hy2 hz2 hx3 hy3 hz3) (plB_sm hx1 hy1 hz1 hx2 hy2 hz2 hx3 hy3 hz3))), .wid 1098 (2 * (plA x1 y1 z1 x2 y2 z2 x3 y3 z3 * plC x1 y1 z1 x2 y2 z2 x3 y3 z3)) (Sm.mul (smI (n := 2) (by decide)) (Sm.mul (plA_sm hx1 hy1 hz1 hx2 hy2 hz2 hx3 hy3 hz3) (plC_sm hx1 hy1 hz1 hx2 hy2 hz2 hx3 hy3 hz3))), .wid 2326 (2 * (plA x1 y1 z1 x2 y2 z2 x3 y3 z3 * plD x1 y1 z1 x2 y2 z2 x3 y3 z3)) (Sm.mul (smI (n := 2) (by decide)) (Sm.mul (plA_sm hx1 hy1 hz1 hx2 hy2 hz2 hx3 hy3 hz3) (plD_sm hx1 hy1 hz1 hx2 hy2 hz2 hx3 hy3 hz3))), .wid 1034 (plB x1 y1 z1 x2 y2 z2 x3 y3 z3 * plB x1 y1 z1 x2 y2 z2 x3 y3 z3) (Sm.mul (plB_sm hx1 hy1 hz1 hx2 hy2 hz2 hx3 hy3 hz3) (plB_sm hx1 hy1 hz1 hx2 hy2 hz2 hx3 hy3 hz3)), .wid 1098 (2 * (plB x1 y1 z1 x2 y2 z2 x3 y3 z3 * plC x1 y1 z1 x2 y2 z2 x3 y3 z3)) (Sm.mul (smI (n := 2) (by decide)) (Sm.mul (plB_sm hx1 hy1 hz1 hx2 hy2 hz2 hx3 hy3 hz3) (plC_sm hx1 hy1 hz1 hx2 hy2 hz2 hx3 hy3 hz3))), .wid 2326 (2 * (plB x1 y1 z1 x2 y2 z2 x3 y3 z3 * plD x1 y1 z1 x2 y2 z2 x3 y3 z3)) (Sm.mul (smI (n := 2) (by decide)) (Sm.mul (plB_sm hx1 hy1 hz1 hx2 hy2 hz2 hx3 hy3 hz3) (plD_sm hx1 hy1 hz1 hx2 hy2 hz2 hx3 hy3 hz3))), .wid 1034 (plC x1 y1 z1 x2 y2 z2 x3 y3 z3 * plC x1 y1 z1 x2 y2 z2 x3 y3 z3) (Sm.mul (plC_sm hx1 hy1 hz1 hx2 hy2 hz2 hx3 hy3 hz3) (plC_sm hx1 hy1 hz1 hx2 hy2 hz2 hx3 hy3 hz3)), .wid 2326 (2 * (plC x1 y1 z1 x2 y2 z2 x3 y3 z3 * plD x1 y1 z1 x2 y2 z2 x3 y3 z3)) (Sm.mul (smI (n := 2) (by decide)) (Sm.mul (plC_sm hx1 hy1 hz1 hx2 hy2 hz2 hx3 hy3 hz3) (plD_sm hx1 hy1 hz1 hx2 hy2 hz2 hx3 hy3 hz3))), .wid 3490 (plD x1 y1 z1 x2 y2 z2 x3 y3 z3 * plD x1 y1 z1 x2 y2 z2 x3 y3 z3) (Sm.mul (plD_sm hx1 hy1 hz1 hx2 hy2 hz2 hx3 hy3 hz3) (plD_sm hx1 hy1 hz1 hx2 hy2 hz2 hx3 hy3 hz3))])
  | _ => none
theorem spOf10 : SpOk Tryd.prog 13 dOf10 := sp_of2 (un := 20) (n := 0) ⟨Tryd.func13, by kernel_rfl, by kernel_rfl⟩ base7_ok noF_ok fun args p v hd => by
  unfold dOf10 at hd
  split at hd
  · rename_i x1 hx1 y1 hy1 z1 hz1 x2 hx2 y2 hy2 z2 hz2 x3 hx3 y3 hy3 z3 hz3
    cases hd
    refine ⟨[.agg [.int x1 hx1, .int y1 hy1, .int z1 hz1, .int x2 hx2, .int y2 hy2, .int z2 hz2, .int x3 hx3, .int y3 hy3, .int z3 hz3]], fun _ => rfl, fun _ _ => rfl, fun _ _ => rfl, fun _ => ?_⟩
    conv => whnf
    exact fun _ => rfl
  · cases hd
end Go.Proofs.YtapppahniablmaaDoor

namespace Go.Proofs.YtapppahniablmaaDoor
open Go.RowKit
set_option maxRecDepth 100000

noncomputable def fxq : FuncId → Option Func := lk [(30, Tryd.f30), (31, Tryd.f31), (37, Tryd.f37)]
theorem fxq_ok : ∀ f fn, fxq f = some fn → FnOk Tryd.prog f fn := lkF_ok fun x hx => by
  simp only [List.mem_cons, List.not_mem_nil, or_false] at hx
  rcases hx with rfl | rfl | rfl
  · exact ⟨Tryd.func30, by kernel_rfl, by kernel_rfl⟩
  · exact ⟨Tryd.func31, by kernel_rfl, by kernel_rfl⟩
  · exact ⟨Tryd.func37, by kernel_rfl, by kernel_rfl⟩
theorem two_mul (x : Int) : x * 2 = 2 * x := Int.mul_comm _ _
set_option maxHeartbeats 8000000 in
def dOfQ : Dn
  | [.agg [.int x1 hx1, .int y1 hy1, .int z1 hz1, .int x2 hx2, .int y2 hy2, .int z2 hz2, .int x3 hx3, .int y3 hy3, .int z3 hz3]] =>
    some (none, .agg [.wid 1034 (plA x1 y1 z1 x2 y2 z2 x3 y3 z3 * plA x1 y1 z1 x2 y2 z2 x3 y3 z3) (Sm.mul (plA_sm hx1 hy1 hz1 hx2 hy2 hz2 hx3 hy3 hz3) (plA_sm hx1 hy1 hz1 hx2 hy2 hz2 hx3 hy3 hz3)), .wid 1098 (2 * (plA x1 y1 z1 x2 y2 z2 x3 y3 z3 * plB x1 y1 z1 x2 y2 z2 x3 y3 z3)) (Sm.mul (smI (n := 2) (by decide)) (Sm.mul (plA_sm hx1 hy1 hz1 hx2 hy2 hz2 hx3 hy3 hz3) (plB_sm hx1 hy1 hz1 hx2 hy2 hz2 hx3 hy3 hz3))), .wid 1098 (2 * (plA x1 y1 z1 x2 y2 z2 x3 y3 z3 * plC x1 y1 z1 x2 y2 z2 x3 y3 z3)) (Sm.mul (smI (n := 2) (by decide)) (Sm.mul (plA_sm hx1 hy1 hz1 hx2 hy2 hz2 hx3 hy3 hz3) (plC_sm hx1 hy1 hz1 hx2 hy2 hz2 hx3 hy3 hz3))), .wid 2326 (2 * (plA x1 y1 z1 x2 y2 z2 x3 y3 z3 * plD x1 y1 z1 x2 y2 z2 x3 y3 z3)) (Sm.mul (smI (n := 2) (by decide)) (Sm.mul (plA_sm hx1 hy1 hz1 hx2 hy2 hz2 hx3 hy3 hz3) (plD_sm hx1 hy1 hz1 hx2 hy2 hz2 hx3 hy3 hz3))), .wid 1034 (plB x1 y1 z1 x2 y2 z2 x3 y3 z3 * plB x1 y1 z1 x2 y2 z2 x3 y3 z3) (Sm.mul (plB_sm hx1 hy1 hz1 hx2 hy2 hz2 hx3 hy3 hz3) (plB_sm hx1 hy1 hz1 hx2 hy2 hz2 hx3 hy3 hz3)), .wid 1098 (2 * (plB x1 y1 z1 x2 y2 z2 x3 y3 z3 * plC x1 y1 z1 x2 y2 z2 x3 y3 z3)) (Sm.mul (smI (n := 2) (by decide)) (Sm.mul (plB_sm hx1 hy1 hz1 hx2 hy2 hz2 hx3 hy3 hz3) (plC_sm hx1 hy1 hz1 hx2 hy2 hz2 hx3 hy3 hz3))), .wid 2326 (2 * (plB x1 y1 z1 x2 y2 z2 x3 y3 z3 * plD x1 y1 z1 x2 y2 z2 x3 y3 z3)) (Sm.mul (smI (n := 2) (by decide)) (Sm.mul (plB_sm hx1 hy1 hz1 hx2 hy2 hz2 hx3 hy3 hz3) (plD_sm hx1 hy1 hz1 hx2 hy2 hz2 hx3 hy3 hz3))), .wid 1034 (plC x1 y1 z1 x2 y2 z2 x3 y3 z3 * plC x1 y1 z1 x2 y2 z2 x3 y3 z3) (Sm.mul (plC_sm hx1 hy1 hz1 hx2 hy2 hz2 hx3 hy3 hz3) (plC_sm hx1 hy1 hz1 hx2 hy2 hz2 hx3 hy3 hz3)), .wid 2326 (2 * (plC x1 y1 z1 x2 y2 z2 x3 y3 z3 * plD x1 y1 z1 x2 y2 z2 x3 y3 z3)) (Sm.mul (smI (n := 2) (by decide)) (Sm.mul (plC_sm hx1 hy1 hz1 hx2 hy2 hz2 hx3 hy3 hz3) (plD_sm hx1 hy1 hz1 hx2 hy2 hz2 hx3 hy3 hz3))), .wid 3490 (plD x1 y1 z1 x2 y2 z2 x3 y3 z3 * plD x1 y1 z1 x2 y2 z2 x3 y3 z3) (Sm.mul (plD_sm hx1 hy1 hz1 hx2 hy2 hz2 hx3 hy3 hz3) (plD_sm hx1 hy1 hz1 hx2 hy2 hz2 hx3 hy3 hz3))])
  | _ => none
theorem spOfQ : SpOk Tryd.prog 12 dOfQ := sp_of2 (un := 20) (n := 5) ⟨Tryd.func12, by kernel_rfl, by kernel_rfl⟩ base7_ok fxq_ok fun args p v hd => by
  unfold dOfQ at hd
  split at hd
  · rename_i x1 hx1 y1 hy1 z1 hz1 x2 hx2 y2 hy2 z2 hz2 x3 hx3 y3 hy3 z3 hz3
    cases hd
    refine ⟨[.agg [.int x1 hx1, .int y1 hy1, .int z1 hz1, .int x2 hx2, .int y2 hy2, .int z2 hz2, .int x3 hx3, .int y3 hy3, .int z3 hz3]], fun _ => rfl, fun _ _ => rfl, fun _ _ => rfl, fun _ => ?_⟩
    conv => whnf
    refine bcase_intro (fun h => ?_) (fun _ => ?_)
    · conv => whnf
      intro ρ
      simp only [Bool.and_eq_true, decide_eq_true_eq] at h
      obtain ⟨e1, e2, e3, e4⟩ := h
      refine agg_congr (cells_congr (wid_eq ?_ ρ) (cells_congr (wid_eq ?_ ρ) (cells_congr (wid_eq ?_ ρ) (cells_congr (wid_eq ?_ ρ) (cells_congr (wid_eq ?_ ρ) (cells_congr (wid_eq ?_ ρ) (cells_congr (wid_eq ?_ ρ) (cells_congr (wid_eq ?_ ρ) (cells_congr (wid_eq ?_ ρ) (cells_congr (wid_eq ?_ ρ) rfl))))))))))
      all_goals simp [e1, e2, e3, e4]
    · conv => whnf
      intro ρ
      refine agg_congr (cells_congr (wid_eq ?_ ρ) (cells_congr (wid_eq ?_ ρ) (cells_congr (wid_eq ?_ ρ) (cells_congr (wid_eq ?_ ρ) (cells_congr (wid_eq ?_ ρ) (cells_congr (wid_eq ?_ ρ) (cells_congr (wid_eq ?_ ρ) (cells_congr (wid_eq ?_ ρ) (cells_congr (wid_eq ?_ ρ) (cells_congr (wid_eq ?_ ρ) rfl))))))))))
      all_goals first | rfl | exact two_mul _
  · cases hd
set_option maxHeartbeats 8000000 in
def dSumQ : Dn
  | [.agg [.wid ja0 a0 ha0, .wid ja1 a1 ha1, .wid ja2 a2 ha2, .wid ja3 a3 ha3, .wid ja4 a4 ha4, .wid ja5 a5 ha5, .wid ja6 a6 ha6, .wid ja7 a7 ha7, .wid ja8 a8 ha8, .wid ja9 a9 ha9], .agg [.wid jb0 b0 hb0, .wid jb1 b1 hb1, .wid jb2 b2 hb2, .wid jb3 b3 hb3, .wid jb4 b4 hb4, .wid jb5 b5 hb5, .wid jb6 b6 hb6, .wid jb7 b7 hb7, .wid jb8 b8 hb8, .wid jb9 b9 hb9]] =>
    if ja0 ≤ 20000000 ∧ ja1 ≤ 20000000 ∧ ja2 ≤ 20000000 ∧ ja3 ≤ 20000000 ∧ ja4 ≤ 20000000 ∧ ja5 ≤ 20000000 ∧ ja6 ≤ 20000000 ∧ ja7 ≤ 20000000 ∧ ja8 ≤ 20000000 ∧ ja9 ≤ 20000000 ∧ jb0 ≤ 20000000 ∧ jb1 ≤ 20000000 ∧ jb2 ≤ 20000000 ∧ jb3 ≤ 20000000 ∧ jb4 ≤ 20000000 ∧ jb5 ≤ 20000000 ∧ jb6 ≤ 20000000 ∧ jb7 ≤ 20000000 ∧ jb8 ≤ 20000000 ∧ jb9 ≤ 20000000 then some (none, .agg [.wid (ja0 + jb0 + 1) (a0 + b0) (sm_addj ha0 hb0), .wid (ja1 + jb1 + 1) (a1 + b1) (sm_addj ha1 hb1), .wid (ja2 + jb2 + 1) (a2 + b2) (sm_addj ha2 hb2), .wid (ja3 + jb3 + 1) (a3 + b3) (sm_addj ha3 hb3), .wid (ja4 + jb4 + 1) (a4 + b4) (sm_addj ha4 hb4), .wid (ja5 + jb5 + 1) (a5 + b5) (sm_addj ha5 hb5), .wid (ja6 + jb6 + 1) (a6 + b6) (sm_addj ha6 hb6), .wid (ja7 + jb7 + 1) (a7 + b7) (sm_addj ha7 hb7), .wid (ja8 + jb8 + 1) (a8 + b8) (sm_addj ha8 hb8), .wid (ja9 + jb9 + 1) (a9 + b9) (sm_addj ha9 hb9)]) else none
  | _ => none
theorem spSumQ : SpOk Tryd.prog 19 dSumQ := sp_of2 (un := 20) (n := 0) ⟨Tryd.func19, by kernel_rfl, by kernel_rfl⟩ base7_ok noF_ok fun args p v hd => by
  unfold dSumQ at hd
  split at hd
  · rename_i ja0 a0 ha0 ja1 a1 ha1 ja2 a2 ha2 ja3 a3 ha3 ja4 a4 ha4 ja5 a5 ha5 ja6 a6 ha6 ja7 a7 ha7 ja8 a8 ha8 ja9 a9 ha9 jb0 b0 hb0 jb1 b1 hb1 jb2 b2 hb2 jb3 b3 hb3 jb4 b4 hb4 jb5 b5 hb5 jb6 b6 hb6 jb7 b7 hb7 jb8 b8 hb8 jb9 b9 hb9
    split at hd
    · rename_i hcon
      cases hd
      refine ⟨[.agg [.wid 20000000 a0 (ha0.mono hcon.1), .wid 20000000 a1 (ha1.mono hcon.2.1), .wid 20000000 a2 (ha2.mono hcon.2.2.1), .wid 20000000 a3 (ha3.mono hcon.2.2.2.1), .wid 20000000 a4 (ha4.mono hcon.2.2.2.2.1), .wid 20000000 a5 (ha5.mono hcon.2.2.2.2.2.1), .wid 20000000 a6 (ha6.mono hcon.2.2.2.2.2.2.1), .wid 20000000 a7 (ha7.mono hcon.2.2.2.2.2.2.2.1), .wid 20000000 a8 (ha8.mono hcon.2.2.2.2.2.2.2.2.1), .wid 20000000 a9 (ha9.mono hcon.2.2.2.2.2.2.2.2.2.1)], .agg [.wid 20000000 b0 (hb0.mono hcon.2.2.2.2.2.2.2.2.2.2.1), .wid 20000000 b1 (hb1.mono hcon.2.2.2.2.2.2.2.2.2.2.2.1), .wid 20000000 b2 (hb2.mono hcon.2.2.2.2.2.2.2.2.2.2.2.2.1), .wid 20000000 b3 (hb3.mono hcon.2.2.2.2.2.2.2.2.2.2.2.2.2.1), .wid 20000000 b4 (hb4.mono hcon.2.2.2.2.2.2.2.2.2.2.2.2.2.2.1), .wid 20000000 b5 (hb5.mono hcon.2.2.2.2.2.2.2.2.2.2.2.2.2.2.2.1), .wid 20000000 b6 (hb6.mono hcon.2.2.2.2.2.2.2.2.2.2.2.2.2.2.2.2.1), .wid 20000000 b7 (hb7.mono hcon.2.2.2.2.2.2.2.2.2.2.2.2.2.2.2.2.2.1), .wid 20000000 b8 (hb8.mono hcon.2.2.2.2.2.2.2.2.2.2.2.2.2.2.2.2.2.2.1), .wid 20000000 b9 (hb9.mono hcon.2.2.2.2.2.2.2.2.2.2.2.2.2.2.2.2.2.2.2)]], fun _ => rfl, fun _ _ => rfl, fun _ _ => rfl, fun _ => ?_⟩
      conv => whnf
      exact fun _ => rfl
    · cases hd
  · cases hd
set_option maxHeartbeats 8000000 in
def dSum10 : Dn
  | [.agg [.wid ja0 a0 ha0, .wid ja1 a1 ha1, .wid ja2 a2 ha2, .wid ja3 a3 ha3, .wid ja4 a4 ha4, .wid ja5 a5 ha5, .wid ja6 a6 ha6, .wid ja7 a7 ha7, .wid ja8 a8 ha8, .wid ja9 a9 ha9], .agg [.wid jb0 b0 hb0, .wid jb1 b1 hb1, .wid jb2 b2 hb2, .wid jb3 b3 hb3, .wid jb4 b4 hb4, .wid jb5 b5 hb5, .wid jb6 b6 hb6, .wid jb7 b7 hb7, .wid jb8 b8 hb8, .wid jb9 b9 hb9]] =>
    if ja0 ≤ 20000000 ∧ ja1 ≤ 20000000 ∧ ja2 ≤ 20000000 ∧ ja3 ≤ 20000000 ∧ ja4 ≤ 20000000 ∧ ja5 ≤ 20000000 ∧ ja6 ≤ 20000000 ∧ ja7 ≤ 20000000 ∧ ja8 ≤ 20000000 ∧ ja9 ≤ 20000000 ∧ jb0 ≤ 20000000 ∧ jb1 ≤ 20000000 ∧ jb2 ≤ 20000000 ∧ jb3 ≤ 20000000 ∧ jb4 ≤ 20000000 ∧ jb5 ≤ 20000000 ∧ jb6 ≤ 20000000 ∧ jb7 ≤ 20000000 ∧ jb8 ≤ 20000000 ∧ jb9 ≤ 20000000 then some (none, .agg [.wid (ja0 + jb0 + 1) (a0 + b0) (sm_addj ha0 hb0), .wid (ja1 + jb1 + 1) (a1 + b1) (sm_addj ha1 hb1), .wid (ja2 + jb2 + 1) (a2 + b2) (sm_addj ha2 hb2), .wid (ja3 + jb3 + 1) (a3 + b3) (sm_addj ha3 hb3), .wid (ja4 + jb4 + 1) (a4 + b4) (sm_addj ha4 hb4), .wid (ja5 + jb5 + 1) (a5 + b5) (sm_addj ha5 hb5), .wid (ja6 + jb6 + 1) (a6 + b6) (sm_addj ha6 hb6), .wid (ja7 + jb7 + 1) (a7 + b7) (sm_addj ha7 hb7), .wid (ja8 + jb8 + 1) (a8 + b8) (sm_addj ha8 hb8), .wid (ja9 + jb9 + 1) (a9 + b9) (sm_addj ha9 hb9)]) else none
  | _ => none
theorem spSum10 : SpOk Tryd.prog 21 dSum10 := sp_of2 (un := 20) (n := 0) ⟨Tryd.func21, by kernel_rfl, by kernel_rfl⟩ base7_ok noF_ok fun args p v hd => by
  unfold dSum10 at hd
  split at hd
  · rename_i ja0 a0 ha0 ja1 a1 ha1 ja2 a2 ha2 ja3 a3 ha3 ja4 a4 ha4 ja5 a5 ha5 ja6 a6 ha6 ja7 a7 ha7 ja8 a8 ha8 ja9 a9 ha9 jb0 b0 hb0 jb1 b1 hb1 jb2 b2 hb2 jb3 b3 hb3 jb4 b4 hb4 jb5 b5 hb5 jb6 b6 hb6 jb7 b7 hb7 jb8 b8 hb8 jb9 b9 hb9
    split at hd
    · rename_i hcon
      cases hd
      refine ⟨[.agg [.wid 20000000 a0 (ha0.mono hcon.1), .wid 20000000 a1 (ha1.mono hcon.2.1), .wid 20000000 a2 (ha2.mono hcon.2.2.1), .wid 20000000 a3 (ha3.mono hcon.2.2.2.1), .wid 20000000 a4 (ha4.mono hcon.2.2.2.2.1), .wid 20000000 a5 (ha5.mono hcon.2.2.2.2.2.1), .wid 20000000 a6 (ha6.mono hcon.2.2.2.2.2.2.1), .wid 20000000 a7 (ha7.mono hcon.2.2.2.2.2.2.2.1), .wid 20000000 a8 (ha8.mono hcon.2.2.2.2.2.2.2.2.1), .wid 20000000 a9 (ha9.mono hcon.2.2.2.2.2.2.2.2.2.1)], .agg [.wid 20000000 b0 (hb0.mono hcon.2.2.2.2.2.2.2.2.2.2.1), .wid 20000000 b1 (hb1.mono hcon.2.2.2.2.2.2.2.2.2.2.2.1), .wid 20000000 b2 (hb2.mono hcon.2.2.2.2.2.2.2.2.2.2.2.2.1), .wid 20000000 b3 (hb3.mono hcon.2.2.2.2.2.2.2.2.2.2.2.2.2.1), .wid 20000000 b4 (hb4.mono hcon.2.2.2.2.2.2.2.2.2.2.2.2.2.2.1), .wid 20000000 b5 (hb5.mono hcon.2.2.2.2.2.2.2.2.2.2.2.2.2.2.2.1), .wid 20000000 b6 (hb6.mono hcon.2.2.2.2.2.2.2.2.2.2.2.2.2.2.2.2.1), .wid 20000000 b7 (hb7.mono hcon.2.2.2.2.2.2.2.2.2.2.2.2.2.2.2.2.2.1), .wid 20000000 b8 (hb8.mono hcon.2.2.2.2.2.2.2.2.2.2.2.2.2.2.2.2.2.2.1), .wid 20000000 b9 (hb9.mono hcon.2.2.2.2.2.2.2.2.2.2.2.2.2.2.2.2.2.2.2)]], fun _ => rfl, fun _ _ => rfl, fun _ _ => rfl, fun _ => ?_⟩
      conv => whnf
      exact fun _ => rfl
    · cases hd
  · cases hd
/-- the value of a quadric at a point -/
def qAt (q0 q1 q2 q3 q4 q5 q6 q7 q8 q9 x y z : Int) : Int :=
  q0 * (x * x) + q1 * (x * y) + q2 * (x * z) + q3 * x + q4 * (y * y) + q5 * (y * z) + q6 * y + q7 * (z * z) + q8 * z + q9
set_option maxHeartbeats 8000000 in
def dAt10 : Dn
  | [.agg [.wid jq0 q0 hq0, .wid jq1 q1 hq1, .wid jq2 q2 hq2, .wid jq3 q3 hq3, .wid jq4 q4 hq4, .wid jq5 q5 hq5, .wid jq6 q6 hq6, .wid jq7 q7 hq7, .wid jq8 q8 hq8, .wid jq9 q9 hq9], .agg [.int x hx, .int y hy, .int z hz]] =>
    if jq0 ≤ 1000000 ∧ jq1 ≤ 1000000 ∧ jq2 ≤ 1000000 ∧ jq3 ≤ 1000000 ∧ jq4 ≤ 1000000 ∧ jq5 ≤ 1000000 ∧ jq6 ≤ 1000000 ∧ jq7 ≤ 1000000 ∧ jq8 ≤ 1000000 ∧ jq9 ≤ 1000000 then some (none, .agg [.wid ((((((((((0 + (jq0 + 128) + 1) + (jq1 + 128) + 1) + (jq2 + 128) + 1) + (jq3 + 128) + 1) + (jq4 + 128) + 1) + (jq5 + 128) + 1) + (jq6 + 128) + 1) + (jq7 + 128) + 1) + (jq8 + 128) + 1) + (jq9 + 128) + 1) (qAt q0 q1 q2 q3 q4 q5 q6 q7 q8 q9 x y z) (by have h := (sm_addj (sm_addj (sm_addj (sm_addj (sm_addj (sm_addj (sm_addj (sm_addj (sm_addj (sm_addj sm0 (Sm.mul hq0 (Sm.mul (smI hx) (smI hx)))) (Sm.mul hq1 (Sm.mul (smI hx) (smI hy)))) (Sm.mul hq2 (Sm.mul (smI hx) (smI hz)))) (Sm.mul hq3 (Sm.mul (smI hx) (smI (n := 1) (by decide))))) (Sm.mul hq4 (Sm.mul (smI hy) (smI hy)))) (Sm.mul hq5 (Sm.mul (smI hy) (smI hz)))) (Sm.mul hq6 (Sm.mul (smI hy) (smI (n := 1) (by decide))))) (Sm.mul hq7 (Sm.mul (smI hz) (smI hz)))) (Sm.mul hq8 (Sm.mul (smI hz) (smI (n := 1) (by decide))))) (Sm.mul hq9 (Sm.mul (smI (n := 1) (by decide)) (smI (n := 1) (by decide))))); have e : qAt q0 q1 q2 q3 q4 q5 q6 q7 q8 q9 x y z = 0 + q0 * (x * x) + q1 * (x * y) + q2 * (x * z) + q3 * (x * 1) + q4 * (y * y) + q5 * (y * z) + q6 * (y * 1) + q7 * (z * z) + q8 * (z * 1) + q9 * (1 * 1) := (by unfold qAt; grind); rw [e]; exact h)]) else none
  | _ => none
theorem spAt10 : SpOk Tryd.prog 18 dAt10 := sp_of2 (un := 20) (n := 0) ⟨Tryd.func18, by kernel_rfl, by kernel_rfl⟩ base7_ok noF_ok fun args p v hd => by
  unfold dAt10 at hd
  split at hd
  · rename_i jq0 q0 hq0 jq1 q1 hq1 jq2 q2 hq2 jq3 q3 hq3 jq4 q4 hq4 jq5 q5 hq5 jq6 q6 hq6 jq7 q7 hq7 jq8 q8 hq8 jq9 q9 hq9 x hx y hy z hz
    split at hd
    · rename_i hcon
      cases hd
      refine ⟨[.agg [.wid 1000000 q0 (hq0.mono hcon.1), .wid 1000000 q1 (hq1.mono hcon.2.1), .wid 1000000 q2 (hq2.mono hcon.2.2.1), .wid 1000000 q3 (hq3.mono hcon.2.2.2.1), .wid 1000000 q4 (hq4.mono hcon.2.2.2.2.1), .wid 1000000 q5 (hq5.mono hcon.2.2.2.2.2.1), .wid 1000000 q6 (hq6.mono hcon.2.2.2.2.2.2.1), .wid 1000000 q7 (hq7.mono hcon.2.2.2.2.2.2.2.1), .wid 1000000 q8 (hq8.mono hcon.2.2.2.2.2.2.2.2.1), .wid 1000000 q9 (hq9.mono hcon.2.2.2.2.2.2.2.2.2)], .agg [.int x hx, .int y hy, .int z hz]], fun _ => rfl, fun _ _ => rfl, fun _ _ => rfl, fun _ => ?_⟩
      conv => whnf
      intro ρ
      refine agg_congr (cells_congr (wid_eq ?_ ρ) rfl)
      unfold qAt
      grind
    · cases hd
  · cases hd
set_option maxHeartbeats 8000000 in
def dAtQ : Dn
  | [.agg [.wid jq0 q0 hq0, .wid jq1 q1 hq1, .wid jq2 q2 hq2, .wid jq3 q3 hq3, .wid jq4 q4 hq4, .wid jq5 q5 hq5, .wid jq6 q6 hq6, .wid jq7 q7 hq7, .wid jq8 q8 hq8, .wid jq9 q9 hq9], .agg [.int x hx, .int y hy, .int z hz]] =>
    if jq0 ≤ 1000000 ∧ jq1 ≤ 1000000 ∧ jq2 ≤ 1000000 ∧ jq3 ≤ 1000000 ∧ jq4 ≤ 1000000 ∧ jq5 ≤ 1000000 ∧ jq6 ≤ 1000000 ∧ jq7 ≤ 1000000 ∧ jq8 ≤ 1000000 ∧ jq9 ≤ 1000000 then some (none, .agg [.wid ((((((((((0 + (jq0 + 128) + 1) + (jq1 + 128) + 1) + (jq2 + 128) + 1) + (jq3 + 128) + 1) + (jq4 + 128) + 1) + (jq5 + 128) + 1) + (jq6 + 128) + 1) + (jq7 + 128) + 1) + (jq8 + 128) + 1) + (jq9 + 128) + 1) (qAt q0 q1 q2 q3 q4 q5 q6 q7 q8 q9 x y z) (by have h := (sm_addj (sm_addj (sm_addj (sm_addj (sm_addj (sm_addj (sm_addj (sm_addj (sm_addj (sm_addj sm0 (Sm.mul hq0 (Sm.mul (smI hx) (smI hx)))) (Sm.mul hq1 (Sm.mul (smI hx) (smI hy)))) (Sm.mul hq2 (Sm.mul (smI hx) (smI hz)))) (Sm.mul hq3 (Sm.mul (smI hx) (smI (n := 1) (by decide))))) (Sm.mul hq4 (Sm.mul (smI hy) (smI hy)))) (Sm.mul hq5 (Sm.mul (smI hy) (smI hz)))) (Sm.mul hq6 (Sm.mul (smI hy) (smI (n := 1) (by decide))))) (Sm.mul hq7 (Sm.mul (smI hz) (smI hz)))) (Sm.mul hq8 (Sm.mul (smI hz) (smI (n := 1) (by decide))))) (Sm.mul hq9 (Sm.mul (smI (n := 1) (by decide)) (smI (n := 1) (by decide))))); have e : qAt q0 q1 q2 q3 q4 q5 q6 q7 q8 q9 x y z = 0 + q0 * (x * x) + q1 * (x * y) + q2 * (x * z) + q3 * (x * 1) + q4 * (y * y) + q5 * (y * z) + q6 * (y * 1) + q7 * (z * z) + q8 * (z * 1) + q9 * (1 * 1) := (by unfold qAt; grind); rw [e]; exact h)]) else none
  | _ => none
theorem spAtQ : SpOk Tryd.prog 15 dAtQ := sp_of2 (un := 20) (n := 5) ⟨Tryd.func15, by kernel_rfl, by kernel_rfl⟩ base7_ok fxq_ok fun args p v hd => by
  unfold dAtQ at hd
  split at hd
  · rename_i jq0 q0 hq0 jq1 q1 hq1 jq2 q2 hq2 jq3 q3 hq3 jq4 q4 hq4 jq5 q5 hq5 jq6 q6 hq6 jq7 q7 hq7 jq8 q8 hq8 jq9 q9 hq9 x hx y hy z hz
    split at hd
    · rename_i hcon
      cases hd
      refine ⟨[.agg [.wid 1000000 q0 (hq0.mono hcon.1), .wid 1000000 q1 (hq1.mono hcon.2.1), .wid 1000000 q2 (hq2.mono hcon.2.2.1), .wid 1000000 q3 (hq3.mono hcon.2.2.2.1), .wid 1000000 q4 (hq4.mono hcon.2.2.2.2.1), .wid 1000000 q5 (hq5.mono hcon.2.2.2.2.2.1), .wid 1000000 q6 (hq6.mono hcon.2.2.2.2.2.2.1), .wid 1000000 q7 (hq7.mono hcon.2.2.2.2.2.2.2.1), .wid 1000000 q8 (hq8.mono hcon.2.2.2.2.2.2.2.2.1), .wid 1000000 q9 (hq9.mono hcon.2.2.2.2.2.2.2.2.2)], .agg [.int x hx, .int y hy, .int z hz]], fun _ => rfl, fun _ _ => rfl, fun _ _ => rfl, fun _ => ?_⟩
      conv => whnf
      intro ρ
      refine agg_congr (cells_congr (wid_eq ?_ ρ) rfl)
      unfold qAt
      grind
    · cases hd
  · cases hd
end Go.Proofs.YtapppahniablmaaDoor

namespace Go.Proofs.YtapppahniablmaaDoor
open Go.RowKit

abbrev Dr := List SV → (Nat → Option Blk) → Option (Option Prop × SV)
def SpR (P : Program) (f : FuncId) (d : Dr) : Prop := Callable P f ∧ ∀ args hf p v, d args hf = some (p, v) → (∀ ρ ρ', v.den ρ = v.den ρ') ∧
  ((∀ q, p = some q → q) → ∀ ρ w, (∀ b blk, hf b = some blk → Holds ρ blk b w) → Calls P f (args.map (SV.den ρ)).toArray w fun e w' => e = .returned (v.den ρ) ∧ Below w.heap.size w w')
def lkR : List (FuncId × Dr) → FuncId → Dr
  | [], _, _, _ => none
  | (g, d) :: l, f, args, hf => if f = g then d args hf else lkR l f args hf
def envR (un : Nat) (l : List (FuncId × Dn)) (r : List (FuncId × Dr)) : Env where
  T := tyT
  un := un
  D := fun f args hf => match lkD l f args with | some x => some x | none => lkR r f args hf
  O := oAppend tyT
def AllR (l : List (FuncId × Dr)) : Prop := ∀ x ∈ l, SpR Tryd.prog x.1 x.2
theorem AllR.nil : AllR [] := fun x hx => by simp at hx
theorem AllR.cons {f : FuncId} {d : Dr} {l : List (FuncId × Dr)} (h : SpR Tryd.prog f d) (hl : AllR l) : AllR ((f, d) :: l) := fun x hx => by
  rcases List.mem_cons.1 hx with rfl | hx
  · exact h
  · exact hl x hx
theorem lkR_ok {l : List (FuncId × Dr)} (hl : AllR l) : ∀ {f : FuncId} {args : List SV} {hf} {r}, lkR l f args hf = some r → ∃ d, SpR Tryd.prog f d ∧ d args hf = some r := by
  intro f args hf r h
  induction l with
  | nil => simp [lkR] at h
  | cons x l ih =>
    obtain ⟨g, d⟩ := x
    unfold lkR at h
    split at h
    · rename_i e; rw [e]; exact ⟨d, hl (g, d) List.mem_cons_self, h⟩
    · exact ih (fun y hy => hl y (List.mem_cons_of_mem _ hy)) h
theorem envR_ok {l : List (FuncId × Dn)} (hl : AllOk l) {r : List (FuncId × Dr)} (hr : AllR r) (un : Nat) : EOk Tryd.prog (envR un l r) where
  T := tyT_ok
  D f args hf p v h := by
    unfold envR at h
    simp only at h
    split at h
    · rename_i x hx
      cases h
      obtain ⟨d, hd, he⟩ := lkD_ok hl hx
      obtain ⟨h1, h2⟩ := hd.2 args p v he
      exact ⟨hd.1, h1, fun hp ρ w _ => h2 hp ρ w⟩
    · obtain ⟨d, hd, he⟩ := lkR_ok hr h
      obtain ⟨h1, h2⟩ := hd.2 args hf p v he
      exact ⟨hd.1, h1, h2⟩
  O := oAppend_ok tyT_ok
theorem sp_of3 {f : FuncId} {fn : Func} (hf : FnOk Tryd.prog f fn) {un : Nat} {l : List (FuncId × Dn)} (hl : AllOk l) {r : List (FuncId × Dr)} (hr : AllR r) {F : FuncId → Option Func} (hF : ∀ f fn, F f = some fn → FnOk Tryd.prog f fn) {n : Nat} {d : Dn}
    (h : ∀ args p v, d args = some (p, v) → ∃ args', (∀ ρ, args.map (SV.den ρ) = args'.map (SV.den ρ)) ∧ (∀ ρ ρ', v.den ρ = v.den ρ') ∧ (∀ ρ ρ', args'.map (SV.den ρ) = args'.map (SV.den ρ')) ∧
      ((∀ q, p = some q → q) → vcF (envR un l r) (inl (envR un l r) F n) fn args' [] fun u _ => ∀ ρ, u.den ρ = v.den ρ)) : SpOk Tryd.prog f d :=
  ⟨hf.callable, fun args p v hd => by
    obtain ⟨args', h0, h1, h2, h3⟩ := h args p v hd
    exact ⟨h1, fun hp ρ w => by rw [h0]; exact pure_ok (envR_ok hl hr un) mixed hF hf h1 h2 (h3 hp) ρ w⟩⟩

/-- a point, a triangle -/
structure PT where
  x : Int
  y : Int
  z : Int
  hx : IR x
  hy : IR y
  hz : IR z
structure TR where
  a : PT
  b : PT
  c : PT
def ptC (p : PT) : List C := [.int p.x p.hx, .int p.y p.hy, .int p.z p.hz]
def trC (t : TR) : List C := [.int t.a.x t.a.hx, .int t.a.y t.a.hy, .int t.a.z t.a.hz, .int t.b.x t.b.hx, .int t.b.y t.b.hy, .int t.b.z t.b.hz, .int t.c.x t.c.hx, .int t.c.y t.c.hy, .int t.c.z t.c.hz]
def trsC : List TR → List C
  | [] => []
  | t :: l => trC t ++ trsC l
/-- triangles out of cells -/
def toTrs : List C → Option (List TR)
  | [] => some []
  | .int x1 h1 :: .int y1 h2 :: .int z1 h3 :: .int x2 h4 :: .int y2 h5 :: .int z2 h6 :: .int x3 h7 :: .int y3 h8 :: .int z3 h9 :: l =>
    (match toTrs l with | some m => some (⟨⟨x1, y1, z1, h1, h2, h3⟩, ⟨x2, y2, z2, h4, h5, h6⟩, ⟨x3, y3, z3, h7, h8, h9⟩⟩ :: m) | none => none)
  | _ => none
theorem toTrs_ok : ∀ {l : List C} {m : List TR}, toTrs l = some m → l = trsC m := by
  intro l
  induction l using toTrs.induct with
  | case1 => intro m h; simp [toTrs] at h; subst h; rfl
  | case2 x1 h1 y1 h2 z1 h3 x2 h4 y2 h5 z2 h6 x3 h7 y3 h8 z3 h9 l m' hm ih =>
    intro m h
    simp only [toTrs, hm, Option.some.injEq] at h
    subst h
    rw [ih hm]; rfl
  | case3 x1 h1 y1 h2 z1 h3 x2 h4 y2 h5 z2 h6 x3 h7 y3 h8 z3 h9 l hm ih =>
    intro m h
    simp [toTrs, hm] at h
  | case4 l h1 h2 =>
    intro m h
    rw [toTrs] at h
    · cases h
    all_goals assumption
theorem toTrs_trs : ∀ m : List TR, toTrs (trsC m) = some m
  | [] => rfl
  | t :: m => by simp [trsC, trC, toTrs, toTrs_trs m]
theorem trsC_size : ∀ l : List TR, sizeC (trsC l) = 9 * l.length
  | [] => rfl
  | t :: l => by rw [trsC, sizeC_append, trsC_size l]; simp [trC, sizeC, C.n]; omega
theorem trsC_pure : ∀ (l : List TR) (ρ ρ' : Rho), cellsL ρ (trsC l) = cellsL ρ' (trsC l)
  | [], _, _ => rfl
  | t :: l, ρ, ρ' => by rw [trsC, cellsL_append, cellsL_append, trsC_pure l ρ ρ']; rfl
theorem takeC_app : ∀ (a b : List C), takeC (sizeC a) (a ++ b) = some (a, b)
  | [], b => by cases b <;> rfl
  | x :: a, b => by
    have hx : 0 < x.n := by cases x <;> simp [C.n]
    have e : sizeC (x :: a) = (x.n + sizeC a - 1) + 1 := by simp [sizeC]; omega
    rw [e, List.cons_append, takeC, if_pos (by omega), show x.n + sizeC a - 1 + 1 - x.n = sizeC a by omega, takeC_app a b]
theorem subC_app (a m b : List C) : subC (a ++ (m ++ b)) (sizeC a) (sizeC m) = some m := by
  unfold subC
  rw [takeC_app]
  simp only
  rw [takeC_app]
theorem trsC_append (a b : List TR) : trsC (a ++ b) = trsC a ++ trsC b := by
  induction a with
  | nil => rfl
  | cons t a ih => simp [trsC, ih]
/-- the triangle at a place -/
theorem subC_trs (l : List TR) {k : Nat} (hk : k < l.length) : subC (trsC l) (k * 9) 9 = some (trC l[k]) := by
  have e : trsC l = trsC (l.take k) ++ (trC l[k] ++ trsC (l.drop (k + 1))) := by
    have h : l = l.take k ++ (l[k] :: l.drop (k + 1)) := by rw [← List.drop_eq_getElem_cons hk, List.take_append_drop]
    rw [show trsC l = trsC (l.take k ++ (l[k] :: l.drop (k + 1))) by rw [← h], trsC_append]
    rfl
  have s : sizeC (trsC (l.take k)) = k * 9 := by rw [trsC_size]; simp; omega
  rw [e, ← s]
  exact subC_app _ (trC l[k]) _
/-- steps that need a fact -/
theorem vcOp_val {E : Env} {H : FuncId → List SV → List Blk → (SV → List Blk → Prop) → Prop} {o : Oper} {tm : List SV} {hp : List Blk} {K : List SV → List Blk → Prop} {v : SV} (h : eff E.T o.op (evm tm) (nthO hp) = some (.val v))
    (hK : v.force fun v => putK o.dst v tm fun tm => K tm hp) : vcOp E H o tm hp K := by
  unfold vcOp; rw [h]; exact hK
theorem pureL_trs (l : List TR) : PureL (trsC l) := trsC_pure l
theorem allOne_append (a b : List C) : allOne (a ++ b) = (allOne a && allOne b) := by
  induction a with
  | nil => rfl
  | cons x a ih => simp [allOne, ih, Bool.and_assoc]
theorem allOne_trs : ∀ l : List TR, allOne (trsC l) = true
  | [] => rfl
  | t :: l => by rw [trsC, allOne_append, allOne_trs l]; rfl
theorem eff_index_sli {T : TypeId → Option TI} {op : Op} {ev : Operand → SV} {hp : Nat → Option Blk} {t : TypeId} {x i : Operand} (ho : op = .indexAddr t x i) {sz : Nat} {ag : Bool} {z : List C} {e : TypeId} {esz : Nat} {ez : List C} {eq : Option (List K)} (hT : T t = some ⟨sz, ag, z, .slice e esz ez, eq⟩)
    {nl : Bool} {b off len cap : Nat} {hl : SliOk nl len cap} (hx : ev x = .c (.sli nl b off len cap hl)) {k : Nat} {hi : IR k} (hk : ev i = .c (.int k hi)) (hlt : k < len) : eff T op ev hp = some (.val (.c (.ptr b (off + k * esz)))) := by
  subst ho
  simp only [eff, hT, hx, hk]
  show (if k < len then _ else _) = _
  rw [if_pos hlt]
theorem eff_load_sub {T : TypeId → Option TI} {op : Op} {ev : Operand → SV} {hp : Nat → Option Blk} {t : TypeId} {x : Operand} (ho : op = .load t x) {ti : TI} (hT : T t = some ti) {b off : Nat} (hx : ev x = .c (.ptr b off)) {blk : Blk} (hb : hp b = some blk) {m : List C} (hm : subC blk.cs off ti.size = some m)
    {v : SV} (hv : wrapV ti.agg m = some v) : eff T op ev hp = some (.val v) := by
  subst ho
  simp only [eff, hT, hx, hb, partC, hm, hv]
theorem SameTm.refl : ∀ l : List SV, SameTm l l
  | [] => trivial
  | _ :: l => ⟨fun _ => rfl, SameTm.refl l⟩
theorem wrap_id {z : Int} (h : IR z) : IntKind.i64.wrap z = z := by
  unfold IR at h; unfold IntKind.wrap; simp [IntKind.bits, IntKind.signed]; split <;> omega
theorem wrap_add1 {k n : Nat} (h : k < n) (hn : IR n) : IntKind.i64.wrap ((k : Int) + 1) = ((k + 1 : Nat) : Int) := by
  rw [wrap_id (by unfold IR at *; omega)]; rfl
/-- a loop by what holds at each head: the state there is a function of what is left open -/
theorem loop_st {n0 : Nat} {b : List SV → List Blk → (SE → List SV → List Blk → Prop) → Prop} {tm : List SV} {hp : List Blk} {Q : SE → List SV → List Blk → Prop} {G : Type} (st : G → List SV) (hs : G → List Blk) (mu : G → Nat)
    (hent : entK n0 tm hp fun tm2 hp2 => ∃ g, tm2 = st g ∧ hp2 = hs g)
    (hround : ∀ g, b (st g) (hs g) fun e tm' hp' => (match e with
      | .normal => entK n0 tm' hp' fun tm2 hp2 => ∃ g', mu g' < mu g ∧ tm2 = st g' ∧ hp2 = hs g'
      | .exit id => Q (.exit id) tm' hp'
      | .ret => Q .ret tm' hp')) :
    (∃ n, rounds b Q n tm hp) ∨ ∃ (I : Nat → List SV → List Blk → Prop), entK n0 tm hp (fun tm hp => ∃ n, I n tm hp) ∧
      ∀ n tm' hp', I n tm' hp' → b tm' hp' fun e tm' hp' => (match e with
        | .normal => entK n0 tm' hp' fun tm hp => ∃ n', n' < n ∧ I n' tm hp
        | .exit id => Q (.exit id) tm' hp'
        | .ret => Q .ret tm' hp') := by
  have e1 : (fun (tm2 : List SV) (hp2 : List Blk) => ∃ g, tm2 = st g ∧ hp2 = hs g) = fun tm2 hp2 => ∃ n, ∃ g, mu g = n ∧ tm2 = st g ∧ hp2 = hs g := by
    funext tm2 hp2; apply propext
    exact ⟨fun ⟨g, h⟩ => ⟨_, g, rfl, h⟩, fun ⟨_, g, _, h⟩ => ⟨g, h⟩⟩
  have e2 : ∀ n, (fun (tm2 : List SV) (hp2 : List Blk) => ∃ g', mu g' < n ∧ tm2 = st g' ∧ hp2 = hs g') = fun tm2 hp2 => ∃ n', n' < n ∧ ∃ g, mu g = n' ∧ tm2 = st g ∧ hp2 = hs g := fun n => by
    funext tm2 hp2; apply propext
    exact ⟨fun ⟨g, h, h'⟩ => ⟨_, h, g, rfl, h'⟩, fun ⟨_, h, g, e, h'⟩ => ⟨g, by rw [e]; exact h, h'⟩⟩
  rw [e1] at hent
  refine .inr ⟨fun n tm hp => ∃ g, mu g = n ∧ tm = st g ∧ hp = hs g, hent, ?_⟩
  rintro n tm' hp' ⟨g, rfl, rfl, rfl⟩
  have := hround g
  rw [e2] at this
  exact this
theorem sint_eq {a b : Int} (e : a = b) (ha : IR a) (hb : IR b) (ρ : Rho) : (SV.c (.int a ha)).den ρ = (SV.c (.int b hb)).den ρ := by subst e; rfl
end Go.Proofs.YtapppahniablmaaDoor

namespace Go.Proofs.YtapppahniablmaaDoor
open Go.RowKit
set_option maxRecDepth 100000

def base8 : List (FuncId × Dn) := (12, dOfQ) :: (13, dOf10) :: (19, dSumQ) :: (21, dSum10) :: (18, dAt10) :: (15, dAtQ) :: base7
theorem base8_ok : AllOk base8 := .cons spOfQ <| .cons spOf10 <| .cons spSumQ <| .cons spSum10 <| .cons spAt10 <| .cons spAtQ <| base7_ok
/-- the coefficients of a triangle's quadric -/
def qc (t : TR) : Nat → Int :=
  let A := plA t.a.x t.a.y t.a.z t.b.x t.b.y t.b.z t.c.x t.c.y t.c.z
  let B := plB t.a.x t.a.y t.a.z t.b.x t.b.y t.b.z t.c.x t.c.y t.c.z
  let C := plC t.a.x t.a.y t.a.z t.b.x t.b.y t.b.z t.c.x t.c.y t.c.z
  let D := plD t.a.x t.a.y t.a.z t.b.x t.b.y t.b.z t.c.x t.c.y t.c.z
  fun
  | 0 => A * A | 1 => 2 * (A * B) | 2 => 2 * (A * C) | 3 => 2 * (A * D) | 4 => B * B | 5 => 2 * (B * C) | 6 => 2 * (B * D) | 7 => C * C | 8 => 2 * (C * D) | _ => D * D
def eqP (p q : PT) : Bool := decide (p.x = q.x) && (decide (p.y = q.y) && decide (p.z = q.z))
def touch (t : TR) (p : PT) : Bool := eqP t.a p || (eqP t.b p || eqP t.c p)
/-- the sum over the triangles at a point -/
def aro : List TR → PT → Nat → Int
  | [], _, _ => 0
  | t :: l, p, k => (if touch t p = true then qc t k else 0) + aro l p k
theorem aro_snoc (p : PT) (k : Nat) (t : TR) : ∀ l, aro (l ++ [t]) p k = aro l p k + (if touch t p = true then qc t k else 0)
  | [] => by simp [aro]
  | x :: l => by simp only [List.cons_append, aro, aro_snoc p k t l]; omega
theorem aro_take (l : List TR) (p : PT) (j k : Nat) (hk : k < l.length) : aro (l.take (k + 1)) p j = aro (l.take k) p j + (if touch l[k] p = true then qc l[k] j else 0) := by
  rw [List.take_succ_eq_append_getElem hk, aro_snoc]
theorem qc_sm (t : TR) (k : Nat) : Sm 3490 (qc t k) := by
  have a := plA_sm t.a.hx t.a.hy t.a.hz t.b.hx t.b.hy t.b.hz t.c.hx t.c.hy t.c.hz
  have b := plB_sm t.a.hx t.a.hy t.a.hz t.b.hx t.b.hy t.b.hz t.c.hx t.c.hy t.c.hz
  have c := plC_sm t.a.hx t.a.hy t.a.hz t.b.hx t.b.hy t.b.hz t.c.hx t.c.hy t.c.hz
  have d := plD_sm t.a.hx t.a.hy t.a.hz t.b.hx t.b.hy t.b.hz t.c.hx t.c.hy t.c.hz
  have two : Sm 2 (2 : Int) := by unfold Sm; decide
  have m : ∀ {j : Nat} {z : Int}, Sm j z → j ≤ 3490 → Sm 3490 z := fun h hj => h.mono hj
  unfold qc
  split
  · exact m (a.mul a) (by decide)
  · exact m (two.mul (a.mul b)) (by decide)
  · exact m (two.mul (a.mul c)) (by decide)
  · exact m (two.mul (a.mul d)) (by decide)
  · exact m (b.mul b) (by decide)
  · exact m (two.mul (b.mul c)) (by decide)
  · exact m (two.mul (b.mul d)) (by decide)
  · exact m (c.mul c) (by decide)
  · exact m (two.mul (c.mul d)) (by decide)
  · exact m (d.mul d) (by decide)
theorem aro_bd {M : Nat} (p : PT) (k : Nat) (hM : ∀ t, (qc t k).natAbs ≤ M) : ∀ l : List TR, (aro l p k).natAbs ≤ l.length * M
  | [] => by simp [aro]
  | t :: l => by
    have ih := aro_bd p k hM l
    have h := hM t
    rw [aro, List.length_cons, Nat.succ_mul]
    split <;> omega
theorem lt_pow {n m a : Nat} (h : a ≤ 1000000) (e : m = 20 + n) : a * 2 ^ n < 2 ^ m := by
  subst e
  have h20 : (2 : Nat) ^ 20 = 1048576 := by decide
  have hp : 0 < (2 : Nat) ^ n := Nat.pow_pos (by decide)
  rw [Nat.pow_add, h20]
  exact Nat.mul_lt_mul_of_pos_right (by omega) hp
theorem aro_sm (p : PT) (k : Nat) {l : List TR} (hl : l.length ≤ 1000000) : Sm 3510 (aro l p k) := by
  have h := lt_pow (n := 3490) (m := 3510) hl (by decide)
  have hM : ∀ t, (qc t k).natAbs ≤ 2 ^ 3490 := fun t => by
    have h := qc_sm t k
    unfold Sm at h
    exact Nat.le_of_lt h
  unfold Sm
  exact Nat.lt_of_le_of_lt (aro_bd p k hM l) h
def aroC (l : List TR) (p : PT) (hl : l.length ≤ 1000000) : List C := [.wid 3510 (aro l p 0) (aro_sm p 0 hl), .wid 3510 (aro l p 1) (aro_sm p 1 hl), .wid 3510 (aro l p 2) (aro_sm p 2 hl), .wid 3510 (aro l p 3) (aro_sm p 3 hl), .wid 3510 (aro l p 4) (aro_sm p 4 hl), .wid 3510 (aro l p 5) (aro_sm p 5 hl), .wid 3510 (aro l p 6) (aro_sm p 6 hl), .wid 3510 (aro l p 7) (aro_sm p 7 hl), .wid 3510 (aro l p 8) (aro_sm p 8 hl), .wid 3510 (aro l p 9) (aro_sm p 9 hl)]
def dAround : Dr
  | [.c (.sli _ b off len _ _), .agg [.int x hx, .int y hy, .int z hz]], hf => (match hf b, off with
    | some blk, 0 => (match toTrs blk.cs with
      | some l => if h : l.length = len ∧ l.length ≤ 1000000 then some (none, .agg (aroC l ⟨x, y, z, hx, hy, hz⟩ h.2)) else none
      | none => none)
    | _, _ => none)
  | [.c (.val (.slice none 0 0)), .agg [.int _ _, .int _ _, .int _ _]], _ => some (none, .agg [zw, zw, zw, zw, zw, zw, zw, zw, zw, zw])
  | _, _ => none
theorem take_le {l : List TR} (h1 : l.length ≤ 1000000) (k : Nat) : (l.take k).length ≤ 1000000 := by rw [List.length_take]; omega
theorem lt_ir {nl : Bool} {k n cap : Nat} (h : SliOk nl n cap) (hk : k ≤ n) : IR k := by have := h.ir; unfold IR at *; omega
set_option maxHeartbeats 8000000 in
theorem vcAroundQ (l : List TR) (p : PT) (ty : TypeId) (nl : Bool) (cap : Nat) (h1 : l.length ≤ 1000000) (hl : SliOk nl l.length cap) :
    vcF (env 0 base8) (inl (env 0 base8) noF 0) Tryd.f23 [.c (.sli nl 0 0 l.length cap hl), .agg (ptC p)] [⟨ty, true, trsC l, 0⟩] fun u _ => ∀ ρ, u.den ρ = (SV.agg (aroC l p h1)).den ρ := by
  conv => whnf
  refine loop_st (G := {k : Nat // k ≤ l.length} × (Nat → Value)) (fun g => [.c (.val (g.2 0)), .c (.val (g.2 1)), .c (.val (g.2 2)), .c (.ptr 1 0), .c (.ptr 2 0), .c (.ptr 3 0), .c (.val (g.2 6)), .c (.val (g.2 7)), .c (.sli nl 0 0 l.length cap hl), .c (.int l.length hl.ir), .c (.int (g.1.1 : Int) (lt_ir hl g.1.2)), .c (.val (g.2 11)), .c (.val (g.2 12)), .c (.val (g.2 13)), .c (.val (g.2 14)), .c (.val (g.2 15)), .c (.val (g.2 16)), .c (.val (g.2 17)), .c (.val (g.2 18)), .c (.val (g.2 19)), .c (.val (g.2 20)), .c (.val (g.2 21)), .c (.val (g.2 22)), .c (.val (g.2 23)), .c (.val (g.2 24)), .c (.val (g.2 25)), .c (.val (g.2 26)), .c (.val (g.2 27)), .c (.val (g.2 28)), .c (.val (g.2 29)), .c (.val (g.2 30)), .c (.val (g.2 31)), .c (.val (g.2 32)), .c (.val (g.2 33)), .c (.val (g.2 34)), .c (.val (g.2 35))]) (fun g => [⟨ty, true, trsC l, 0⟩, ⟨23, false, ptC p, 0⟩, ⟨28, false, [zw, zw, zw, zw, zw, zw, zw, zw, zw, zw], 0⟩, ⟨28, false, aroC (l.take (g.1.1)) p (take_le h1 (g.1.1)), 0⟩]) (fun g => l.length - g.1.1) ?_ ?_
  · refine ⟨[0, 1, 2, 3], [3, 4, 5, 8, 9, 10], [0], fun vs => ?_⟩
    conv => whnf
    refine ⟨pureL_trs l, ?_⟩
    conv => whnf
    refine ⟨_, _, ?_, ?_, (⟨0, Nat.zero_le _⟩, vs), rfl, rfl⟩
    · exact ⟨fun _ => rfl, fun _ => rfl, fun _ => rfl, fun _ => rfl, fun _ => rfl, fun _ => rfl, fun _ => rfl, fun _ => rfl, fun _ => rfl, fun _ => rfl, fun _ => rfl, fun _ => rfl, fun _ => rfl, fun _ => rfl, fun _ => rfl, fun _ => rfl, fun _ => rfl, fun _ => rfl, fun _ => rfl, fun _ => rfl, fun _ => rfl, fun _ => rfl, fun _ => rfl, fun _ => rfl, fun _ => rfl, fun _ => rfl, fun _ => rfl, fun _ => rfl, fun _ => rfl, fun _ => rfl, fun _ => rfl, fun _ => rfl, fun _ => rfl, fun _ => rfl, fun _ => rfl, fun _ => rfl, trivial⟩
    · exact ⟨⟨rfl, rfl, rfl, fun _ => rfl⟩, ⟨rfl, rfl, rfl, fun _ => rfl⟩, ⟨rfl, rfl, rfl, fun _ => rfl⟩, ⟨rfl, rfl, rfl, fun _ => rfl⟩, trivial⟩
  · rintro ⟨⟨k, hk⟩, vs⟩
    conv => whnf
    refine bcase_intro (fun hlt => ?_) (fun hge => ?_)
    · have hlt : k < l.length := by simpa using hlt
      conv => whnf
      rw [eff_index_sli (ho := ?ho1) (hT := ?hT1) (hx := ?hx1) (hk := ?hk1) (hlt := ?hlt1)]
      case ho1 => rfl
      case hT1 => rfl
      case hx1 => rfl
      case hk1 => rfl
      case hlt1 => exact hlt
      conv => whnf
      rw [eff_load_sub (ho := ?ho2) (hT := ?hT2) (hx := ?hx2) (hb := ?hb2) (hm := ?hm2) (hv := ?hv2)]
      case ho2 => rfl
      case hT2 => rfl
      case hx2 => rfl
      case hb2 => rfl
      case hm2 => exact (by rw [Nat.zero_add]; exact subC_trs l hlt : subC (trsC l) (0 + k * 9) 9 = some (trC l[k]))
      case hv2 => rfl
      conv => whnf
      refine bcase_intro (fun ha => ?_) (fun ha => ?_)
      · have ht : touch l[k] p = true := by unfold touch; rw [show eqP l[k].a p = true from ha]; rfl
        conv => whnf
        refine ⟨[0, 1, 2, 3], [3, 4, 5, 8, 9, 10], [0], fun vs => ?_⟩
        conv => whnf
        refine ⟨pureL_trs l, ?_⟩
        conv => whnf
        refine ⟨_, _, ?_, ?_, (⟨k + 1, hlt⟩, vs), by show l.length - (k + 1) < l.length - k; omega, rfl, rfl⟩
        · exact ⟨fun _ => rfl, fun _ => rfl, fun _ => rfl, fun _ => rfl, fun _ => rfl, fun _ => rfl, fun _ => rfl, fun _ => rfl, fun _ => rfl, fun _ => rfl, sint_eq (wrap_add1 hlt hl.ir) _ _, fun _ => rfl, fun _ => rfl, fun _ => rfl, fun _ => rfl, fun _ => rfl, fun _ => rfl, fun _ => rfl, fun _ => rfl, fun _ => rfl, fun _ => rfl, fun _ => rfl, fun _ => rfl, fun _ => rfl, fun _ => rfl, fun _ => rfl, fun _ => rfl, fun _ => rfl, fun _ => rfl, fun _ => rfl, fun _ => rfl, fun _ => rfl, fun _ => rfl, fun _ => rfl, fun _ => rfl, fun _ => rfl, trivial⟩
        refine ⟨⟨rfl, rfl, rfl, fun _ => rfl⟩, ⟨rfl, rfl, rfl, fun _ => rfl⟩, ⟨rfl, rfl, rfl, fun _ => rfl⟩, ⟨rfl, rfl, rfl, fun ρ => ?_⟩, trivial⟩
        refine (cells_congr (wid_eq ?_ ρ) (cells_congr (wid_eq ?_ ρ) (cells_congr (wid_eq ?_ ρ) (cells_congr (wid_eq ?_ ρ) (cells_congr (wid_eq ?_ ρ) (cells_congr (wid_eq ?_ ρ) (cells_congr (wid_eq ?_ ρ) (cells_congr (wid_eq ?_ ρ) (cells_congr (wid_eq ?_ ρ) (cells_congr (wid_eq ?_ ρ) rfl))))))))))
        all_goals (rw [aro_take l p _ k hlt, ht]; rfl)
      · conv => whnf
        refine bcase_intro (fun hb => ?_) (fun hb => ?_)
        · have ht : touch l[k] p = true := by unfold touch; rw [show eqP l[k].a p = false from ha, show eqP l[k].b p = true from hb]; rfl
          conv => whnf
          refine ⟨[0, 1, 2, 3], [3, 4, 5, 8, 9, 10], [0], fun vs => ?_⟩
          conv => whnf
          refine ⟨pureL_trs l, ?_⟩
          conv => whnf
          refine ⟨_, _, ?_, ?_, (⟨k + 1, hlt⟩, vs), by show l.length - (k + 1) < l.length - k; omega, rfl, rfl⟩
          · exact ⟨fun _ => rfl, fun _ => rfl, fun _ => rfl, fun _ => rfl, fun _ => rfl, fun _ => rfl, fun _ => rfl, fun _ => rfl, fun _ => rfl, fun _ => rfl, sint_eq (wrap_add1 hlt hl.ir) _ _, fun _ => rfl, fun _ => rfl, fun _ => rfl, fun _ => rfl, fun _ => rfl, fun _ => rfl, fun _ => rfl, fun _ => rfl, fun _ => rfl, fun _ => rfl, fun _ => rfl, fun _ => rfl, fun _ => rfl, fun _ => rfl, fun _ => rfl, fun _ => rfl, fun _ => rfl, fun _ => rfl, fun _ => rfl, fun _ => rfl, fun _ => rfl, fun _ => rfl, fun _ => rfl, fun _ => rfl, fun _ => rfl, trivial⟩
          refine ⟨⟨rfl, rfl, rfl, fun _ => rfl⟩, ⟨rfl, rfl, rfl, fun _ => rfl⟩, ⟨rfl, rfl, rfl, fun _ => rfl⟩, ⟨rfl, rfl, rfl, fun ρ => ?_⟩, trivial⟩
          refine (cells_congr (wid_eq ?_ ρ) (cells_congr (wid_eq ?_ ρ) (cells_congr (wid_eq ?_ ρ) (cells_congr (wid_eq ?_ ρ) (cells_congr (wid_eq ?_ ρ) (cells_congr (wid_eq ?_ ρ) (cells_congr (wid_eq ?_ ρ) (cells_congr (wid_eq ?_ ρ) (cells_congr (wid_eq ?_ ρ) (cells_congr (wid_eq ?_ ρ) rfl))))))))))
          all_goals (rw [aro_take l p _ k hlt, ht]; rfl)
        · conv => whnf
          refine bcase_intro (fun hc => ?_) (fun hc => ?_)
          · have ht : touch l[k] p = true := by unfold touch; rw [show eqP l[k].a p = false from ha, show eqP l[k].b p = false from hb, show eqP l[k].c p = true from hc]; rfl
            conv => whnf
            refine ⟨[0, 1, 2, 3], [3, 4, 5, 8, 9, 10], [0], fun vs => ?_⟩
            conv => whnf
            refine ⟨pureL_trs l, ?_⟩
            conv => whnf
            refine ⟨_, _, ?_, ?_, (⟨k + 1, hlt⟩, vs), by show l.length - (k + 1) < l.length - k; omega, rfl, rfl⟩
            · exact ⟨fun _ => rfl, fun _ => rfl, fun _ => rfl, fun _ => rfl, fun _ => rfl, fun _ => rfl, fun _ => rfl, fun _ => rfl, fun _ => rfl, fun _ => rfl, sint_eq (wrap_add1 hlt hl.ir) _ _, fun _ => rfl, fun _ => rfl, fun _ => rfl, fun _ => rfl, fun _ => rfl, fun _ => rfl, fun _ => rfl, fun _ => rfl, fun _ => rfl, fun _ => rfl, fun _ => rfl, fun _ => rfl, fun _ => rfl, fun _ => rfl, fun _ => rfl, fun _ => rfl, fun _ => rfl, fun _ => rfl, fun _ => rfl, fun _ => rfl, fun _ => rfl, fun _ => rfl, fun _ => rfl, fun _ => rfl, fun _ => rfl, trivial⟩
            refine ⟨⟨rfl, rfl, rfl, fun _ => rfl⟩, ⟨rfl, rfl, rfl, fun _ => rfl⟩, ⟨rfl, rfl, rfl, fun _ => rfl⟩, ⟨rfl, rfl, rfl, fun ρ => ?_⟩, trivial⟩
            refine (cells_congr (wid_eq ?_ ρ) (cells_congr (wid_eq ?_ ρ) (cells_congr (wid_eq ?_ ρ) (cells_congr (wid_eq ?_ ρ) (cells_congr (wid_eq ?_ ρ) (cells_congr (wid_eq ?_ ρ) (cells_congr (wid_eq ?_ ρ) (cells_congr (wid_eq ?_ ρ) (cells_congr (wid_eq ?_ ρ) (cells_congr (wid_eq ?_ ρ) rfl))))))))))
            all_goals (rw [aro_take l p _ k hlt, ht]; rfl)
          · have ht : touch l[k] p = false := by unfold touch; rw [show eqP l[k].a p = false from ha, show eqP l[k].b p = false from hb, show eqP l[k].c p = false from hc]; rfl
            conv => whnf
            refine ⟨[0, 1, 2, 3], [3, 4, 5, 8, 9, 10], [0], fun vs => ?_⟩
            conv => whnf
            refine ⟨pureL_trs l, ?_⟩
            conv => whnf
            refine ⟨_, _, ?_, ?_, (⟨k + 1, hlt⟩, vs), by show l.length - (k + 1) < l.length - k; omega, rfl, rfl⟩
            · exact ⟨fun _ => rfl, fun _ => rfl, fun _ => rfl, fun _ => rfl, fun _ => rfl, fun _ => rfl, fun _ => rfl, fun _ => rfl, fun _ => rfl, fun _ => rfl, sint_eq (wrap_add1 hlt hl.ir) _ _, fun _ => rfl, fun _ => rfl, fun _ => rfl, fun _ => rfl, fun _ => rfl, fun _ => rfl, fun _ => rfl, fun _ => rfl, fun _ => rfl, fun _ => rfl, fun _ => rfl, fun _ => rfl, fun _ => rfl, fun _ => rfl, fun _ => rfl, fun _ => rfl, fun _ => rfl, fun _ => rfl, fun _ => rfl, fun _ => rfl, fun _ => rfl, fun _ => rfl, fun _ => rfl, fun _ => rfl, fun _ => rfl, trivial⟩
            refine ⟨⟨rfl, rfl, rfl, fun _ => rfl⟩, ⟨rfl, rfl, rfl, fun _ => rfl⟩, ⟨rfl, rfl, rfl, fun _ => rfl⟩, ⟨rfl, rfl, rfl, fun ρ => ?_⟩, trivial⟩
            refine (cells_congr (wid_eq ?_ ρ) (cells_congr (wid_eq ?_ ρ) (cells_congr (wid_eq ?_ ρ) (cells_congr (wid_eq ?_ ρ) (cells_congr (wid_eq ?_ ρ) (cells_congr (wid_eq ?_ ρ) (cells_congr (wid_eq ?_ ρ) (cells_congr (wid_eq ?_ ρ) (cells_congr (wid_eq ?_ ρ) (cells_congr (wid_eq ?_ ρ) rfl))))))))))
            all_goals (rw [aro_take l p _ k hlt, ht]; exact (Int.add_zero _).symm)
    · have hge : k = l.length := by have : ¬ k < l.length := by simpa using hge
                                    omega
      conv => whnf
      subst hge
      intro ρ
      have e : l.take l.length = l := List.take_length
      refine agg_congr (cells_congr (wid_eq ?_ ρ) (cells_congr (wid_eq ?_ ρ) (cells_congr (wid_eq ?_ ρ) (cells_congr (wid_eq ?_ ρ) (cells_congr (wid_eq ?_ ρ) (cells_congr (wid_eq ?_ ρ) (cells_congr (wid_eq ?_ ρ) (cells_congr (wid_eq ?_ ρ) (cells_congr (wid_eq ?_ ρ) (cells_congr (wid_eq ?_ ρ) rfl))))))))))
      all_goals rw [e]
theorem spAroundQ : SpR Tryd.prog 23 dAround := by
  refine ⟨(⟨Tryd.func23, by kernel_rfl, by kernel_rfl⟩ : FnOk Tryd.prog 23 Tryd.f23).callable, fun args hf p v hd => ?_⟩
  unfold dAround at hd
  split at hd
  · rename_i nl b off len cap hl x hx y hy z hz
    split at hd
    · rename_i blk hb
      split at hd
      · rename_i l hpl
        split at hd
        · rename_i hlen
          cases hd
          obtain ⟨rfl, h1⟩ := hlen
          have hcs := toTrs_ok hpl
          refine ⟨fun _ _ => rfl, fun _ ρ w hh => ?_⟩
          have hH := (hh b blk hb).1
          rw [hcs] at hH
          have hv := vcAroundQ l ⟨x, y, z, hx, hy, hz⟩ blk.ty nl cap h1 hl
          refine read_ok (P := Tryd.prog) (env_ok base8_ok 0) mixed noF_ok ⟨Tryd.func23, by kernel_rfl, by kernel_rfl⟩ (fun _ _ => rfl) (fun i c hi => ?_) (fun _ => ρ b) (fun ρ' hρ => ?_) hv w (fun i c hi => ?_)
          · cases i with
            | zero => simp [nthO] at hi; subst hi; exact ⟨rfl, trsC_pure l⟩
            | succ i => simp [nthO] at hi
          · have := hρ 0 rfl
            simp only [List.map_cons, List.map_nil, SV.den, C.den, C.cells, this]
            rfl
          · cases i with
            | zero => simp [nthO] at hi; subst hi; rw [trsC_pure l (fun _ => ρ b) ρ]; exact hH
            | succ i => simp [nthO] at hi
        · cases hd
      · cases hd
    · cases hd
  · rename_i x hx y hy z hz hf'
    cases hd
    refine ⟨fun _ _ => rfl, fun _ ρ w _ => ?_⟩
    refine pure_ok (P := Tryd.prog) (env_ok base8_ok 20) mixed noF_ok ⟨Tryd.func23, by kernel_rfl, by kernel_rfl⟩ (n := 0) (fun _ _ => rfl) (fun _ _ => rfl) ?_ ρ w
    conv => whnf
    exact fun _ => rfl
  · cases hd
end Go.Proofs.YtapppahniablmaaDoor

namespace Go.Proofs.YtapppahniablmaaDoor
open Go.RowKit
set_option maxRecDepth 100000

theorem subC_sub {l m r : List C} {i n o k : Nat} (h1 : subC l i n = some m) (h2 : subC m o k = some r) : subC l (i + o) k = some r := by
  obtain ⟨a, b, rfl, e1, _⟩ := subC_spec h1
  obtain ⟨x, y, rfl, e2, e3⟩ := subC_spec h2
  have e : a ++ (x ++ (r ++ y) ++ b) = (a ++ x) ++ (r ++ (y ++ b)) := by simp [List.append_assoc]
  rw [e, ← e1, ← e2, ← e3, ← sizeC_append]
  exact subC_app _ _ _
theorem subC_pt (l : List TR) {k : Nat} (hk : k < l.length) (o : Nat) {r : List C} (h : subC (trC l[k]) o 3 = some r) : subC (trsC l) (0 + k * 9 + o) 3 = some r := by
  rw [Nat.zero_add]
  exact subC_sub (subC_trs l hk) h
set_option maxHeartbeats 8000000 in
theorem vcAround10 (l : List TR) (p : PT) (ty : TypeId) (nl : Bool) (cap : Nat) (h1 : l.length ≤ 1000000) (hl : SliOk nl l.length cap) :
    vcF (env 0 base8) (inl (env 0 base8) noF 0) Tryd.f24 [.c (.sli nl 0 0 l.length cap hl), .agg (ptC p)] [⟨ty, true, trsC l, 0⟩] fun u _ => ∀ ρ, u.den ρ = (SV.agg (aroC l p h1)).den ρ := by
  conv => whnf
  refine loop_st (G := {k : Nat // k ≤ l.length} × (Nat → Value)) (fun g => [.c (.sli nl 0 0 l.length cap hl), .c (.val (g.2 1)), .c (.val (g.2 2)), .c (.ptr 1 0), .c (.ptr 2 0), .c (.ptr 3 0), .c (.int (g.1.1 : Int) (lt_ir hl g.1.2)), .c (.val (g.2 7)), .c (.val (g.2 8)), .c (.val (g.2 9)), .c (.val (g.2 10)), .c (.val (g.2 11)), .c (.val (g.2 12)), .c (.val (g.2 13)), .c (.val (g.2 14)), .c (.val (g.2 15)), .c (.val (g.2 16)), .c (.val (g.2 17)), .c (.val (g.2 18)), .c (.val (g.2 19)), .c (.val (g.2 20)), .c (.val (g.2 21)), .c (.val (g.2 22)), .c (.val (g.2 23)), .c (.val (g.2 24)), .c (.val (g.2 25)), .c (.val (g.2 26)), .c (.val (g.2 27)), .c (.val (g.2 28)), .c (.val (g.2 29)), .c (.val (g.2 30)), .c (.val (g.2 31)), .c (.val (g.2 32)), .c (.val (g.2 33)), .c (.val (g.2 34)), .c (.val (g.2 35)), .c (.val (g.2 36)), .c (.val (g.2 37)), .c (.val (g.2 38)), .c (.val (g.2 39)), .c (.val (g.2 40)), .c (.val (g.2 41)), .c (.val (g.2 42)), .c (.val (g.2 43)), .c (.val (g.2 44)), .c (.val (g.2 45))]) (fun g => [⟨ty, true, trsC l, 0⟩, ⟨23, false, ptC p, 0⟩, ⟨28, false, [zw, zw, zw, zw, zw, zw, zw, zw, zw, zw], 0⟩, ⟨28, false, aroC (l.take (g.1.1)) p (take_le h1 (g.1.1)), 0⟩]) (fun g => l.length - g.1.1) ?_ ?_
  · refine ⟨[0, 1, 2, 3], [0, 3, 4, 5, 6], [0], fun vs => ?_⟩
    conv => whnf
    refine ⟨pureL_trs l, ?_⟩
    conv => whnf
    refine ⟨_, _, ?_, ?_, (⟨0, Nat.zero_le _⟩, vs), rfl, rfl⟩
    · exact ⟨fun _ => rfl, fun _ => rfl, fun _ => rfl, fun _ => rfl, fun _ => rfl, fun _ => rfl, fun _ => rfl, fun _ => rfl, fun _ => rfl, fun _ => rfl, fun _ => rfl, fun _ => rfl, fun _ => rfl, fun _ => rfl, fun _ => rfl, fun _ => rfl, fun _ => rfl, fun _ => rfl, fun _ => rfl, fun _ => rfl, fun _ => rfl, fun _ => rfl, fun _ => rfl, fun _ => rfl, fun _ => rfl, fun _ => rfl, fun _ => rfl, fun _ => rfl, fun _ => rfl, fun _ => rfl, fun _ => rfl, fun _ => rfl, fun _ => rfl, fun _ => rfl, fun _ => rfl, fun _ => rfl, fun _ => rfl, fun _ => rfl, fun _ => rfl, fun _ => rfl, fun _ => rfl, fun _ => rfl, fun _ => rfl, fun _ => rfl, fun _ => rfl, fun _ => rfl, trivial⟩
    · exact ⟨⟨rfl, rfl, rfl, fun _ => rfl⟩, ⟨rfl, rfl, rfl, fun _ => rfl⟩, ⟨rfl, rfl, rfl, fun _ => rfl⟩, ⟨rfl, rfl, rfl, fun _ => rfl⟩, trivial⟩
  · rintro ⟨⟨k, hk⟩, vs⟩
    conv => whnf
    refine bcase_intro (fun hlt => ?_) (fun hge => ?_)
    · have hlt : k < l.length := by simpa using hlt
      conv => whnf
      rw [eff_index_sli (ho := ?hox9) (hT := ?hTx9) (hx := ?hxx9) (hk := ?hkx9) (hlt := ?hltx9)]
      case hox9 => rfl
      case hTx9 => rfl
      case hxx9 => rfl
      case hkx9 => rfl
      case hltx9 => exact hlt
      conv => whnf
      rw [eff_load_sub (ho := ?hox10) (hT := ?hTx10) (hx := ?hxx10) (hb := ?hbx10) (hm := ?hmx10) (hv := ?hvx10)]
      case hox10 => rfl
      case hTx10 => rfl
      case hxx10 => rfl
      case hbx10 => rfl
      case hmx10 => exact subC_pt l hlt _ (r := ptC l[k].a) rfl
      case hvx10 => rfl
      conv => whnf
      refine bcase_intro (fun ha => ?_) (fun ha => ?_)
      · have ht : touch l[k] p = true := by unfold touch; rw [show eqP l[k].a p = true from ha]; rfl
        conv => whnf
        rw [eff_index_sli (ho := ?hox11) (hT := ?hTx11) (hx := ?hxx11) (hk := ?hkx11) (hlt := ?hltx11)]
        case hox11 => rfl
        case hTx11 => rfl
        case hxx11 => rfl
        case hkx11 => rfl
        case hltx11 => exact hlt
        conv => whnf
        rw [eff_load_sub (ho := ?hox12) (hT := ?hTx12) (hx := ?hxx12) (hb := ?hbx12) (hm := ?hmx12) (hv := ?hvx12)]
        case hox12 => rfl
        case hTx12 => rfl
        case hxx12 => rfl
        case hbx12 => rfl
        case hmx12 => exact (by rw [Nat.zero_add]; exact subC_trs l hlt : subC (trsC l) (0 + k * 9) 9 = some (trC l[k]))
        case hvx12 => rfl
        conv => whnf
        refine ⟨[0, 1, 2, 3], [0, 3, 4, 5, 6], [0], fun vs => ?_⟩
        conv => whnf
        refine ⟨pureL_trs l, ?_⟩
        conv => whnf
        refine ⟨_, _, ?_, ?_, (⟨k + 1, hlt⟩, vs), by show l.length - (k + 1) < l.length - k; omega, rfl, rfl⟩
        · exact ⟨fun _ => rfl, fun _ => rfl, fun _ => rfl, fun _ => rfl, fun _ => rfl, fun _ => rfl, sint_eq (wrap_add1 hlt hl.ir) _ _, fun _ => rfl, fun _ => rfl, fun _ => rfl, fun _ => rfl, fun _ => rfl, fun _ => rfl, fun _ => rfl, fun _ => rfl, fun _ => rfl, fun _ => rfl, fun _ => rfl, fun _ => rfl, fun _ => rfl, fun _ => rfl, fun _ => rfl, fun _ => rfl, fun _ => rfl, fun _ => rfl, fun _ => rfl, fun _ => rfl, fun _ => rfl, fun _ => rfl, fun _ => rfl, fun _ => rfl, fun _ => rfl, fun _ => rfl, fun _ => rfl, fun _ => rfl, fun _ => rfl, fun _ => rfl, fun _ => rfl, fun _ => rfl, fun _ => rfl, fun _ => rfl, fun _ => rfl, fun _ => rfl, fun _ => rfl, fun _ => rfl, fun _ => rfl, trivial⟩
        refine ⟨⟨rfl, rfl, rfl, fun _ => rfl⟩, ⟨rfl, rfl, rfl, fun _ => rfl⟩, ⟨rfl, rfl, rfl, fun _ => rfl⟩, ⟨rfl, rfl, rfl, fun ρ => ?_⟩, trivial⟩
        refine (cells_congr (wid_eq ?_ ρ) (cells_congr (wid_eq ?_ ρ) (cells_congr (wid_eq ?_ ρ) (cells_congr (wid_eq ?_ ρ) (cells_congr (wid_eq ?_ ρ) (cells_congr (wid_eq ?_ ρ) (cells_congr (wid_eq ?_ ρ) (cells_congr (wid_eq ?_ ρ) (cells_congr (wid_eq ?_ ρ) (cells_congr (wid_eq ?_ ρ) rfl))))))))))
        all_goals (rw [aro_take l p _ k hlt, ht]; rfl)
      · conv => whnf
        rw [eff_index_sli (ho := ?hox5) (hT := ?hTx5) (hx := ?hxx5) (hk := ?hkx5) (hlt := ?hltx5)]
        case hox5 => rfl
        case hTx5 => rfl
        case hxx5 => rfl
        case hkx5 => rfl
        case hltx5 => exact hlt
        conv => whnf
        rw [eff_load_sub (ho := ?hox6) (hT := ?hTx6) (hx := ?hxx6) (hb := ?hbx6) (hm := ?hmx6) (hv := ?hvx6)]
        case hox6 => rfl
        case hTx6 => rfl
        case hxx6 => rfl
        case hbx6 => rfl
        case hmx6 => exact subC_pt l hlt _ (r := ptC l[k].b) rfl
        case hvx6 => rfl
        conv => whnf
        refine bcase_intro (fun hb => ?_) (fun hb => ?_)
        · have ht : touch l[k] p = true := by unfold touch; rw [show eqP l[k].a p = false from ha, show eqP l[k].b p = true from hb]; rfl
          conv => whnf
          rw [eff_index_sli (ho := ?hox7) (hT := ?hTx7) (hx := ?hxx7) (hk := ?hkx7) (hlt := ?hltx7)]
          case hox7 => rfl
          case hTx7 => rfl
          case hxx7 => rfl
          case hkx7 => rfl
          case hltx7 => exact hlt
          conv => whnf
          rw [eff_load_sub (ho := ?hox8) (hT := ?hTx8) (hx := ?hxx8) (hb := ?hbx8) (hm := ?hmx8) (hv := ?hvx8)]
          case hox8 => rfl
          case hTx8 => rfl
          case hxx8 => rfl
          case hbx8 => rfl
          case hmx8 => exact (by rw [Nat.zero_add]; exact subC_trs l hlt : subC (trsC l) (0 + k * 9) 9 = some (trC l[k]))
          case hvx8 => rfl
          conv => whnf
          refine ⟨[0, 1, 2, 3], [0, 3, 4, 5, 6], [0], fun vs => ?_⟩
          conv => whnf
          refine ⟨pureL_trs l, ?_⟩
          conv => whnf
          refine ⟨_, _, ?_, ?_, (⟨k + 1, hlt⟩, vs), by show l.length - (k + 1) < l.length - k; omega, rfl, rfl⟩
          · exact ⟨fun _ => rfl, fun _ => rfl, fun _ => rfl, fun _ => rfl, fun _ => rfl, fun _ => rfl, sint_eq (wrap_add1 hlt hl.ir) _ _, fun _ => rfl, fun _ => rfl, fun _ => rfl, fun _ => rfl, fun _ => rfl, fun _ => rfl, fun _ => rfl, fun _ => rfl, fun _ => rfl, fun _ => rfl, fun _ => rfl, fun _ => rfl, fun _ => rfl, fun _ => rfl, fun _ => rfl, fun _ => rfl, fun _ => rfl, fun _ => rfl, fun _ => rfl, fun _ => rfl, fun _ => rfl, fun _ => rfl, fun _ => rfl, fun _ => rfl, fun _ => rfl, fun _ => rfl, fun _ => rfl, fun _ => rfl, fun _ => rfl, fun _ => rfl, fun _ => rfl, fun _ => rfl, fun _ => rfl, fun _ => rfl, fun _ => rfl, fun _ => rfl, fun _ => rfl, fun _ => rfl, fun _ => rfl, trivial⟩
          refine ⟨⟨rfl, rfl, rfl, fun _ => rfl⟩, ⟨rfl, rfl, rfl, fun _ => rfl⟩, ⟨rfl, rfl, rfl, fun _ => rfl⟩, ⟨rfl, rfl, rfl, fun ρ => ?_⟩, trivial⟩
          refine (cells_congr (wid_eq ?_ ρ) (cells_congr (wid_eq ?_ ρ) (cells_congr (wid_eq ?_ ρ) (cells_congr (wid_eq ?_ ρ) (cells_congr (wid_eq ?_ ρ) (cells_congr (wid_eq ?_ ρ) (cells_congr (wid_eq ?_ ρ) (cells_congr (wid_eq ?_ ρ) (cells_congr (wid_eq ?_ ρ) (cells_congr (wid_eq ?_ ρ) rfl))))))))))
          all_goals (rw [aro_take l p _ k hlt, ht]; rfl)
        · conv => whnf
          rw [eff_index_sli (ho := ?hox1) (hT := ?hTx1) (hx := ?hxx1) (hk := ?hkx1) (hlt := ?hltx1)]
          case hox1 => rfl
          case hTx1 => rfl
          case hxx1 => rfl
          case hkx1 => rfl
          case hltx1 => exact hlt
          conv => whnf
          rw [eff_load_sub (ho := ?hox2) (hT := ?hTx2) (hx := ?hxx2) (hb := ?hbx2) (hm := ?hmx2) (hv := ?hvx2)]
          case hox2 => rfl
          case hTx2 => rfl
          case hxx2 => rfl
          case hbx2 => rfl
          case hmx2 => exact subC_pt l hlt _ (r := ptC l[k].c) rfl
          case hvx2 => rfl
          conv => whnf
          refine bcase_intro (fun hc => ?_) (fun hc => ?_)
          · have ht : touch l[k] p = true := by unfold touch; rw [show eqP l[k].a p = false from ha, show eqP l[k].b p = false from hb, show eqP l[k].c p = true from hc]; rfl
            conv => whnf
            rw [eff_index_sli (ho := ?hox3) (hT := ?hTx3) (hx := ?hxx3) (hk := ?hkx3) (hlt := ?hltx3)]
            case hox3 => rfl
            case hTx3 => rfl
            case hxx3 => rfl
            case hkx3 => rfl
            case hltx3 => exact hlt
            conv => whnf
            rw [eff_load_sub (ho := ?hox4) (hT := ?hTx4) (hx := ?hxx4) (hb := ?hbx4) (hm := ?hmx4) (hv := ?hvx4)]
            case hox4 => rfl
            case hTx4 => rfl
            case hxx4 => rfl
            case hbx4 => rfl
            case hmx4 => exact (by rw [Nat.zero_add]; exact subC_trs l hlt : subC (trsC l) (0 + k * 9) 9 = some (trC l[k]))
            case hvx4 => rfl
            conv => whnf
            refine ⟨[0, 1, 2, 3], [0, 3, 4, 5, 6], [0], fun vs => ?_⟩
            conv => whnf
            refine ⟨pureL_trs l, ?_⟩
            conv => whnf
            refine ⟨_, _, ?_, ?_, (⟨k + 1, hlt⟩, vs), by show l.length - (k + 1) < l.length - k; omega, rfl, rfl⟩
            · exact ⟨fun _ => rfl, fun _ => rfl, fun _ => rfl, fun _ => rfl, fun _ => rfl, fun _ => rfl, sint_eq (wrap_add1 hlt hl.ir) _ _, fun _ => rfl, fun _ => rfl, fun _ => rfl, fun _ => rfl, fun _ => rfl, fun _ => rfl, fun _ => rfl, fun _ => rfl, fun _ => rfl, fun _ => rfl, fun _ => rfl, fun _ => rfl, fun _ => rfl, fun _ => rfl, fun _ => rfl, fun _ => rfl, fun _ => rfl, fun _ => rfl, fun _ => rfl, fun _ => rfl, fun _ => rfl, fun _ => rfl, fun _ => rfl, fun _ => rfl, fun _ => rfl, fun _ => rfl, fun _ => rfl, fun _ => rfl, fun _ => rfl, fun _ => rfl, fun _ => rfl, fun _ => rfl, fun _ => rfl, fun _ => rfl, fun _ => rfl, fun _ => rfl, fun _ => rfl, fun _ => rfl, fun _ => rfl, trivial⟩
            refine ⟨⟨rfl, rfl, rfl, fun _ => rfl⟩, ⟨rfl, rfl, rfl, fun _ => rfl⟩, ⟨rfl, rfl, rfl, fun _ => rfl⟩, ⟨rfl, rfl, rfl, fun ρ => ?_⟩, trivial⟩
            refine (cells_congr (wid_eq ?_ ρ) (cells_congr (wid_eq ?_ ρ) (cells_congr (wid_eq ?_ ρ) (cells_congr (wid_eq ?_ ρ) (cells_congr (wid_eq ?_ ρ) (cells_congr (wid_eq ?_ ρ) (cells_congr (wid_eq ?_ ρ) (cells_congr (wid_eq ?_ ρ) (cells_congr (wid_eq ?_ ρ) (cells_congr (wid_eq ?_ ρ) rfl))))))))))
            all_goals (rw [aro_take l p _ k hlt, ht]; rfl)
          · have ht : touch l[k] p = false := by unfold touch; rw [show eqP l[k].a p = false from ha, show eqP l[k].b p = false from hb, show eqP l[k].c p = false from hc]; rfl
            conv => whnf
            refine ⟨[0, 1, 2, 3], [0, 3, 4, 5, 6], [0], fun vs => ?_⟩
            conv => whnf
            refine ⟨pureL_trs l, ?_⟩
            conv => whnf
            refine ⟨_, _, ?_, ?_, (⟨k + 1, hlt⟩, vs), by show l.length - (k + 1) < l.length - k; omega, rfl, rfl⟩
            · exact ⟨fun _ => rfl, fun _ => rfl, fun _ => rfl, fun _ => rfl, fun _ => rfl, fun _ => rfl, sint_eq (wrap_add1 hlt hl.ir) _ _, fun _ => rfl, fun _ => rfl, fun _ => rfl, fun _ => rfl, fun _ => rfl, fun _ => rfl, fun _ => rfl, fun _ => rfl, fun _ => rfl, fun _ => rfl, fun _ => rfl, fun _ => rfl, fun _ => rfl, fun _ => rfl, fun _ => rfl, fun _ => rfl, fun _ => rfl, fun _ => rfl, fun _ => rfl, fun _ => rfl, fun _ => rfl, fun _ => rfl, fun _ => rfl, fun _ => rfl, fun _ => rfl, fun _ => rfl, fun _ => rfl, fun _ => rfl, fun _ => rfl, fun _ => rfl, fun _ => rfl, fun _ => rfl, fun _ => rfl, fun _ => rfl, fun _ => rfl, fun _ => rfl, fun _ => rfl, fun _ => rfl, fun _ => rfl, trivial⟩
            refine ⟨⟨rfl, rfl, rfl, fun _ => rfl⟩, ⟨rfl, rfl, rfl, fun _ => rfl⟩, ⟨rfl, rfl, rfl, fun _ => rfl⟩, ⟨rfl, rfl, rfl, fun ρ => ?_⟩, trivial⟩
            refine (cells_congr (wid_eq ?_ ρ) (cells_congr (wid_eq ?_ ρ) (cells_congr (wid_eq ?_ ρ) (cells_congr (wid_eq ?_ ρ) (cells_congr (wid_eq ?_ ρ) (cells_congr (wid_eq ?_ ρ) (cells_congr (wid_eq ?_ ρ) (cells_congr (wid_eq ?_ ρ) (cells_congr (wid_eq ?_ ρ) (cells_congr (wid_eq ?_ ρ) rfl))))))))))
            all_goals (rw [aro_take l p _ k hlt, ht]; exact (Int.add_zero _).symm)
    · have hge : k = l.length := by have : ¬ k < l.length := by simpa using hge
                                    omega
      conv => whnf
      subst hge
      intro ρ
      have e : l.take l.length = l := List.take_length
      refine agg_congr (cells_congr (wid_eq ?_ ρ) (cells_congr (wid_eq ?_ ρ) (cells_congr (wid_eq ?_ ρ) (cells_congr (wid_eq ?_ ρ) (cells_congr (wid_eq ?_ ρ) (cells_congr (wid_eq ?_ ρ) (cells_congr (wid_eq ?_ ρ) (cells_congr (wid_eq ?_ ρ) (cells_congr (wid_eq ?_ ρ) (cells_congr (wid_eq ?_ ρ) rfl))))))))))
      all_goals rw [e]
theorem spAround10 : SpR Tryd.prog 24 dAround := by
  refine ⟨(⟨Tryd.func24, by kernel_rfl, by kernel_rfl⟩ : FnOk Tryd.prog 24 Tryd.f24).callable, fun args hf p v hd => ?_⟩
  unfold dAround at hd
  split at hd
  · rename_i nl b off len cap hl x hx y hy z hz
    split at hd
    · rename_i blk hb
      split at hd
      · rename_i l hpl
        split at hd
        · rename_i hlen
          cases hd
          obtain ⟨rfl, h1⟩ := hlen
          have hcs := toTrs_ok hpl
          refine ⟨fun _ _ => rfl, fun _ ρ w hh => ?_⟩
          have hH := (hh b blk hb).1
          rw [hcs] at hH
          have hv := vcAround10 l ⟨x, y, z, hx, hy, hz⟩ blk.ty nl cap h1 hl
          refine read_ok (P := Tryd.prog) (env_ok base8_ok 0) mixed noF_ok ⟨Tryd.func24, by kernel_rfl, by kernel_rfl⟩ (fun _ _ => rfl) (fun i c hi => ?_) (fun _ => ρ b) (fun ρ' hρ => ?_) hv w (fun i c hi => ?_)
          · cases i with
            | zero => simp [nthO] at hi; subst hi; exact ⟨rfl, trsC_pure l⟩
            | succ i => simp [nthO] at hi
          · have := hρ 0 rfl
            simp only [List.map_cons, List.map_nil, SV.den, C.den, C.cells, this]
            rfl
          · cases i with
            | zero => simp [nthO] at hi; subst hi; rw [trsC_pure l (fun _ => ρ b) ρ]; exact hH
            | succ i => simp [nthO] at hi
        · cases hd
      · cases hd
    · cases hd
  · rename_i x hx y hy z hz hf'
    cases hd
    refine ⟨fun _ _ => rfl, fun _ ρ w _ => ?_⟩
    refine pure_ok (P := Tryd.prog) (env_ok base8_ok 20) mixed noF_ok ⟨Tryd.func24, by kernel_rfl, by kernel_rfl⟩ (n := 0) (fun _ _ => rfl) (fun _ _ => rfl) ?_ ρ w
    conv => whnf
    exact fun _ => rfl
  · cases hd
end Go.Proofs.YtapppahniablmaaDoor
