/- The types' table. -/
import Derived.Test.YtapppahniablmaaDoorSxFn
import Derived.Test.YtapppahniablmaaDoorProg
import Derived.KernelRfl
namespace Go.Proofs.YtapppahniablmaaDoor
open Go.RowKit

def zi : C := .int 0 (by unfold IR; omega)
def zw : C := .wid 0 0 (by unfold Sm; decide)
def zb : C := .val (.bool false)
def zs : C := .val (.string ⟨#[]⟩)
theorem cells_zw (ρ : Rho) : zw.cells ρ = [.bool false, .string ⟨#[]⟩] := by simp [zw, C.cells, mag_zero]
theorem cells_zi (ρ : Rho) : zi.cells ρ = [.int .i64 0] := rfl
theorem cells_zb (ρ : Rho) : zb.cells ρ = [.bool false] := rfl
theorem cells_zs (ρ : Rho) : zs.cells ρ = [.string ⟨#[]⟩] := rfl
theorem cells_val (ρ : Rho) (v : Value) : (C.val v).cells ρ = [v] := rfl
def lk {α : Type} : List (Nat × α) → Nat → Option α
  | [], _ => none
  | (a, x) :: l, n => if a = n then some x else lk l n
theorem lk_mem {α : Type} {l : List (Nat × α)} {n : Nat} {x : α} (h : lk l n = some x) : (n, x) ∈ l := by
  induction l with
  | nil => simp [lk] at h
  | cons p l ih =>
    obtain ⟨a, y⟩ := p
    unfold lk at h
    split at h
    · rename_i e; cases h; subst e; simp
    · simp [ih h]
set_option maxRecDepth 100000
def ty2 : TI := { size := 1, agg := false, zero := [zi], sh := .int .i64, eq := none }
theorem ty2_ok : TIOk Tryd.prog 2 ty2 := by
  refine ⟨by kernel_rfl, by kernel_rfl, fun ρ => ?_, Tryd.underlying2, (fun _ h => nomatch h)⟩
  rw [show cellsL ρ ty2.zero = [.int .i64 0] from by simp only [ty2, cellsL, List.flatMap_cons, List.flatMap_nil, cells_zi, List.cons_append, List.nil_append]]
  kernel_rfl
def ty3 : TI := { size := 1, agg := false, zero := [zi], sh := .int .i64, eq := none }
theorem ty3_ok : TIOk Tryd.prog 3 ty3 := by
  refine ⟨by kernel_rfl, by kernel_rfl, fun ρ => ?_, Tryd.underlying3, (fun _ h => nomatch h)⟩
  rw [show cellsL ρ ty3.zero = [.int .i64 0] from by simp only [ty3, cellsL, List.flatMap_cons, List.flatMap_nil, cells_zi, List.cons_append, List.nil_append]]
  kernel_rfl
def ty4 : TI := { size := 1, agg := false, zero := [zb], sh := .bool, eq := none }
theorem ty4_ok : TIOk Tryd.prog 4 ty4 := by
  refine ⟨by kernel_rfl, by kernel_rfl, fun ρ => ?_, Tryd.underlying4, (fun _ h => nomatch h)⟩
  rw [show cellsL ρ ty4.zero = [.bool false] from by simp only [ty4, cellsL, List.flatMap_cons, List.flatMap_nil, cells_zb, List.cons_append, List.nil_append]]
  kernel_rfl
def ty5 : TI := { size := 1, agg := false, zero := [.val (.int .u8 0)], sh := .int .u8, eq := none }
theorem ty5_ok : TIOk Tryd.prog 5 ty5 := by
  refine ⟨by kernel_rfl, by kernel_rfl, fun ρ => ?_, Tryd.underlying5, (fun _ h => nomatch h)⟩
  rw [show cellsL ρ ty5.zero = [.int .u8 0] from by simp only [ty5, cellsL, List.flatMap_cons, List.flatMap_nil, cells_val, List.cons_append, List.nil_append]]
  kernel_rfl
def ty9 : TI := { size := 1, agg := false, zero := [zs], sh := .string, eq := none }
theorem ty9_ok : TIOk Tryd.prog 9 ty9 := by
  refine ⟨by kernel_rfl, by kernel_rfl, fun ρ => ?_, Tryd.underlying9, (fun _ h => nomatch h)⟩
  rw [show cellsL ρ ty9.zero = [.string ⟨#[]⟩] from by simp only [ty9, cellsL, List.flatMap_cons, List.flatMap_nil, cells_zs, List.cons_append, List.nil_append]]
  kernel_rfl
def ty12 : TI := { size := 1, agg := false, zero := [.val (.int .u64 0)], sh := .int .u64, eq := none }
theorem ty12_ok : TIOk Tryd.prog 12 ty12 := by
  refine ⟨by kernel_rfl, by kernel_rfl, fun ρ => ?_, Tryd.underlying12, (fun _ h => nomatch h)⟩
  rw [show cellsL ρ ty12.zero = [.int .u64 0] from by simp only [ty12, cellsL, List.flatMap_cons, List.flatMap_nil, cells_val, List.cons_append, List.nil_append]]
  kernel_rfl
def ty21 : TI := { size := 1, agg := false, zero := [.val (.int .i32 0)], sh := .int .i32, eq := none }
theorem ty21_ok : TIOk Tryd.prog 21 ty21 := by
  refine ⟨by kernel_rfl, by kernel_rfl, fun ρ => ?_, Tryd.underlying21, (fun _ h => nomatch h)⟩
  rw [show cellsL ρ ty21.zero = [.int .i32 0] from by simp only [ty21, cellsL, List.flatMap_cons, List.flatMap_nil, cells_val, List.cons_append, List.nil_append]]
  kernel_rfl
def ty23 : TI := { size := 3, agg := true, zero := [zi, zi, zi], sh := .struct [(0, 1, false), (1, 1, false), (2, 1, false)], eq := some [.i .i64, .i .i64, .i .i64] }
theorem ty23_ok : TIOk Tryd.prog 23 ty23 := by
  refine ⟨by kernel_rfl, by kernel_rfl, fun ρ => ?_, ⟨_, Tryd.underlying23, by kernel_rfl, by decide⟩, fun ks h => by cases h; exact ⟨by kernel_rfl, by kernel_rfl, rfl⟩⟩
  rw [show cellsL ρ ty23.zero = [.int .i64 0, .int .i64 0, .int .i64 0] from by simp only [ty23, cellsL, List.flatMap_cons, List.flatMap_nil, cells_zi, List.cons_append, List.nil_append]]
  kernel_rfl
def ty26 : TI := { size := 2, agg := true, zero := [zw], sh := .struct [(0, 1, false), (1, 1, false)], eq := some [.b, .s] }
theorem ty26_ok : TIOk Tryd.prog 26 ty26 := by
  refine ⟨by kernel_rfl, by kernel_rfl, fun ρ => ?_, ⟨_, Tryd.underlying26, by kernel_rfl, by decide⟩, fun ks h => by cases h; exact ⟨by kernel_rfl, by kernel_rfl, rfl⟩⟩
  rw [show cellsL ρ ty26.zero = [.bool false, .string ⟨#[]⟩] from by simp only [ty26, cellsL, List.flatMap_cons, List.flatMap_nil, cells_zw, List.cons_append, List.nil_append]]
  kernel_rfl
def ty27 : TI := { size := 20, agg := true, zero := [zw, zw, zw, zw, zw, zw, zw, zw, zw, zw], sh := .array 10 2 true, eq := some [.b, .s, .b, .s, .b, .s, .b, .s, .b, .s, .b, .s, .b, .s, .b, .s, .b, .s, .b, .s] }
theorem ty27_ok : TIOk Tryd.prog 27 ty27 := by
  refine ⟨by kernel_rfl, by kernel_rfl, fun ρ => ?_, ⟨_, Tryd.underlying27, by kernel_rfl, by kernel_rfl, by decide⟩, fun ks h => by cases h; exact ⟨by kernel_rfl, by kernel_rfl, rfl⟩⟩
  rw [show cellsL ρ ty27.zero = [.bool false, .string ⟨#[]⟩, .bool false, .string ⟨#[]⟩, .bool false, .string ⟨#[]⟩, .bool false, .string ⟨#[]⟩, .bool false, .string ⟨#[]⟩, .bool false, .string ⟨#[]⟩, .bool false, .string ⟨#[]⟩, .bool false, .string ⟨#[]⟩, .bool false, .string ⟨#[]⟩, .bool false, .string ⟨#[]⟩] from by simp only [ty27, cellsL, List.flatMap_cons, List.flatMap_nil, cells_zw, List.cons_append, List.nil_append]]
  kernel_rfl
def ty28 : TI := { size := 20, agg := true, zero := [zw, zw, zw, zw, zw, zw, zw, zw, zw, zw], sh := .array 10 2 true, eq := some [.b, .s, .b, .s, .b, .s, .b, .s, .b, .s, .b, .s, .b, .s, .b, .s, .b, .s, .b, .s] }
theorem ty28_ok : TIOk Tryd.prog 28 ty28 := by
  refine ⟨by kernel_rfl, by kernel_rfl, fun ρ => ?_, ⟨_, Tryd.underlying28, by kernel_rfl, by kernel_rfl, by decide⟩, fun ks h => by cases h; exact ⟨by kernel_rfl, by kernel_rfl, rfl⟩⟩
  rw [show cellsL ρ ty28.zero = [.bool false, .string ⟨#[]⟩, .bool false, .string ⟨#[]⟩, .bool false, .string ⟨#[]⟩, .bool false, .string ⟨#[]⟩, .bool false, .string ⟨#[]⟩, .bool false, .string ⟨#[]⟩, .bool false, .string ⟨#[]⟩, .bool false, .string ⟨#[]⟩, .bool false, .string ⟨#[]⟩, .bool false, .string ⟨#[]⟩] from by simp only [ty28, cellsL, List.flatMap_cons, List.flatMap_nil, cells_zw, List.cons_append, List.nil_append]]
  kernel_rfl
def ty30 : TI := { size := 9, agg := true, zero := [zi, zi, zi, zi, zi, zi, zi, zi, zi], sh := .array 3 3 true, eq := some [.i .i64, .i .i64, .i .i64, .i .i64, .i .i64, .i .i64, .i .i64, .i .i64, .i .i64] }
theorem ty30_ok : TIOk Tryd.prog 30 ty30 := by
  refine ⟨by kernel_rfl, by kernel_rfl, fun ρ => ?_, ⟨_, Tryd.underlying30, by kernel_rfl, by kernel_rfl, by decide⟩, fun ks h => by cases h; exact ⟨by kernel_rfl, by kernel_rfl, rfl⟩⟩
  rw [show cellsL ρ ty30.zero = [.int .i64 0, .int .i64 0, .int .i64 0, .int .i64 0, .int .i64 0, .int .i64 0, .int .i64 0, .int .i64 0, .int .i64 0] from by simp only [ty30, cellsL, List.flatMap_cons, List.flatMap_nil, cells_zi, List.cons_append, List.nil_append]]
  kernel_rfl
def ty31 : TI := { size := 9, agg := true, zero := [zi, zi, zi, zi, zi, zi, zi, zi, zi], sh := .array 3 3 true, eq := some [.i .i64, .i .i64, .i .i64, .i .i64, .i .i64, .i .i64, .i .i64, .i .i64, .i .i64] }
theorem ty31_ok : TIOk Tryd.prog 31 ty31 := by
  refine ⟨by kernel_rfl, by kernel_rfl, fun ρ => ?_, ⟨_, Tryd.underlying31, by kernel_rfl, by kernel_rfl, by decide⟩, fun ks h => by cases h; exact ⟨by kernel_rfl, by kernel_rfl, rfl⟩⟩
  rw [show cellsL ρ ty31.zero = [.int .i64 0, .int .i64 0, .int .i64 0, .int .i64 0, .int .i64 0, .int .i64 0, .int .i64 0, .int .i64 0, .int .i64 0] from by simp only [ty31, cellsL, List.flatMap_cons, List.flatMap_nil, cells_zi, List.cons_append, List.nil_append]]
  kernel_rfl
def ty37 : TI := { size := 10, agg := true, zero := [zi, zi, zi, zi, zi, zi, zi, zi, zi, zi], sh := .array 10 1 false, eq := some [.i .i64, .i .i64, .i .i64, .i .i64, .i .i64, .i .i64, .i .i64, .i .i64, .i .i64, .i .i64] }
theorem ty37_ok : TIOk Tryd.prog 37 ty37 := by
  refine ⟨by kernel_rfl, by kernel_rfl, fun ρ => ?_, ⟨_, Tryd.underlying37, by kernel_rfl, by kernel_rfl, by decide⟩, fun ks h => by cases h; exact ⟨by kernel_rfl, by kernel_rfl, rfl⟩⟩
  rw [show cellsL ρ ty37.zero = [.int .i64 0, .int .i64 0, .int .i64 0, .int .i64 0, .int .i64 0, .int .i64 0, .int .i64 0, .int .i64 0, .int .i64 0, .int .i64 0] from by simp only [ty37, cellsL, List.flatMap_cons, List.flatMap_nil, cells_zi, List.cons_append, List.nil_append]]
  kernel_rfl
def ty38 : TI := { size := 10, agg := true, zero := [.val (.int .u8 0), .val (.int .u8 0), .val (.int .u8 0), .val (.int .u8 0), .val (.int .u8 0), .val (.int .u8 0), .val (.int .u8 0), .val (.int .u8 0), .val (.int .u8 0), .val (.int .u8 0)], sh := .array 10 1 false, eq := some [.i .u8, .i .u8, .i .u8, .i .u8, .i .u8, .i .u8, .i .u8, .i .u8, .i .u8, .i .u8] }
theorem ty38_ok : TIOk Tryd.prog 38 ty38 := by
  refine ⟨by kernel_rfl, by kernel_rfl, fun ρ => ?_, ⟨_, Tryd.underlying38, by kernel_rfl, by kernel_rfl, by decide⟩, fun ks h => by cases h; exact ⟨by kernel_rfl, by kernel_rfl, rfl⟩⟩
  rw [show cellsL ρ ty38.zero = [.int .u8 0, .int .u8 0, .int .u8 0, .int .u8 0, .int .u8 0, .int .u8 0, .int .u8 0, .int .u8 0, .int .u8 0, .int .u8 0] from by simp only [ty38, cellsL, List.flatMap_cons, List.flatMap_nil, cells_val, List.cons_append, List.nil_append]]
  kernel_rfl
def ty41 : TI := { size := 12, agg := true, zero := [zi, zi, zi, zi, zi, zi, zi, zi, zi, zi, zi, zi], sh := .array 4 3 true, eq := some [.i .i64, .i .i64, .i .i64, .i .i64, .i .i64, .i .i64, .i .i64, .i .i64, .i .i64, .i .i64, .i .i64, .i .i64] }
theorem ty41_ok : TIOk Tryd.prog 41 ty41 := by
  refine ⟨by kernel_rfl, by kernel_rfl, fun ρ => ?_, ⟨_, Tryd.underlying41, by kernel_rfl, by kernel_rfl, by decide⟩, fun ks h => by cases h; exact ⟨by kernel_rfl, by kernel_rfl, rfl⟩⟩
  rw [show cellsL ρ ty41.zero = [.int .i64 0, .int .i64 0, .int .i64 0, .int .i64 0, .int .i64 0, .int .i64 0, .int .i64 0, .int .i64 0, .int .i64 0, .int .i64 0, .int .i64 0, .int .i64 0] from by simp only [ty41, cellsL, List.flatMap_cons, List.flatMap_nil, cells_zi, List.cons_append, List.nil_append]]
  kernel_rfl
def ty44 : TI := { size := 1, agg := false, zero := [.val (.int .u32 0)], sh := .int .u32, eq := none }
theorem ty44_ok : TIOk Tryd.prog 44 ty44 := by
  refine ⟨by kernel_rfl, by kernel_rfl, fun ρ => ?_, Tryd.underlying44, (fun _ h => nomatch h)⟩
  rw [show cellsL ρ ty44.zero = [.int .u32 0] from by simp only [ty44, cellsL, List.flatMap_cons, List.flatMap_nil, cells_val, List.cons_append, List.nil_append]]
  kernel_rfl
def ty45 : TI := { size := 1, agg := false, zero := [.val (.slice none 0 0)], sh := .slice 3 1 [zi], eq := none }
theorem ty45_ok : TIOk Tryd.prog 45 ty45 := by
  refine ⟨by kernel_rfl, by kernel_rfl, fun ρ => ?_, ⟨Tryd.underlying45, by kernel_rfl, by kernel_rfl, by decide, fun ρ => ⟨by rw [show cellsL ρ [zi] = [.int .i64 0] from by simp only [cellsL, List.flatMap_cons, List.flatMap_nil, cells_zi, List.cons_append, List.nil_append]]; kernel_rfl, by rw [show cellsL ρ [zi] = [.int .i64 0] from by simp only [cellsL, List.flatMap_cons, List.flatMap_nil, cells_zi, List.cons_append, List.nil_append]]; rfl⟩⟩, (fun _ h => nomatch h)⟩
  rw [show cellsL ρ ty45.zero = [.slice none 0 0] from by simp only [ty45, cellsL, List.flatMap_cons, List.flatMap_nil, cells_val, List.cons_append, List.nil_append]]
  kernel_rfl
def ty46 : TI := { size := 1, agg := false, zero := [.val (.slice none 0 0)], sh := .slice 31 9 [zi, zi, zi, zi, zi, zi, zi, zi, zi], eq := none }
theorem ty46_ok : TIOk Tryd.prog 46 ty46 := by
  refine ⟨by kernel_rfl, by kernel_rfl, fun ρ => ?_, ⟨Tryd.underlying46, by kernel_rfl, by kernel_rfl, by decide, fun ρ => ⟨by rw [show cellsL ρ [zi, zi, zi, zi, zi, zi, zi, zi, zi] = [.int .i64 0, .int .i64 0, .int .i64 0, .int .i64 0, .int .i64 0, .int .i64 0, .int .i64 0, .int .i64 0, .int .i64 0] from by simp only [cellsL, List.flatMap_cons, List.flatMap_nil, cells_zi, List.cons_append, List.nil_append]]; kernel_rfl, by rw [show cellsL ρ [zi, zi, zi, zi, zi, zi, zi, zi, zi] = [.int .i64 0, .int .i64 0, .int .i64 0, .int .i64 0, .int .i64 0, .int .i64 0, .int .i64 0, .int .i64 0, .int .i64 0] from by simp only [cellsL, List.flatMap_cons, List.flatMap_nil, cells_zi, List.cons_append, List.nil_append]]; rfl⟩⟩, (fun _ h => nomatch h)⟩
  rw [show cellsL ρ ty46.zero = [.slice none 0 0] from by simp only [ty46, cellsL, List.flatMap_cons, List.flatMap_nil, cells_val, List.cons_append, List.nil_append]]
  kernel_rfl
def ty50 : TI := { size := 1, agg := false, zero := [.val (.slice none 0 0)], sh := .slice 23 3 [zi, zi, zi], eq := none }
theorem ty50_ok : TIOk Tryd.prog 50 ty50 := by
  refine ⟨by kernel_rfl, by kernel_rfl, fun ρ => ?_, ⟨Tryd.underlying50, by kernel_rfl, by kernel_rfl, by decide, fun ρ => ⟨by rw [show cellsL ρ [zi, zi, zi] = [.int .i64 0, .int .i64 0, .int .i64 0] from by simp only [cellsL, List.flatMap_cons, List.flatMap_nil, cells_zi, List.cons_append, List.nil_append]]; kernel_rfl, by rw [show cellsL ρ [zi, zi, zi] = [.int .i64 0, .int .i64 0, .int .i64 0] from by simp only [cellsL, List.flatMap_cons, List.flatMap_nil, cells_zi, List.cons_append, List.nil_append]]; rfl⟩⟩, (fun _ h => nomatch h)⟩
  rw [show cellsL ρ ty50.zero = [.slice none 0 0] from by simp only [ty50, cellsL, List.flatMap_cons, List.flatMap_nil, cells_val, List.cons_append, List.nil_append]]
  kernel_rfl
def ty56 : TI := { size := 8, agg := true, zero := [zw, zw, zw, zw], sh := .array 4 2 true, eq := some [.b, .s, .b, .s, .b, .s, .b, .s] }
theorem ty56_ok : TIOk Tryd.prog 56 ty56 := by
  refine ⟨by kernel_rfl, by kernel_rfl, fun ρ => ?_, ⟨_, Tryd.underlying56, by kernel_rfl, by kernel_rfl, by decide⟩, fun ks h => by cases h; exact ⟨by kernel_rfl, by kernel_rfl, rfl⟩⟩
  rw [show cellsL ρ ty56.zero = [.bool false, .string ⟨#[]⟩, .bool false, .string ⟨#[]⟩, .bool false, .string ⟨#[]⟩, .bool false, .string ⟨#[]⟩] from by simp only [ty56, cellsL, List.flatMap_cons, List.flatMap_nil, cells_zw, List.cons_append, List.nil_append]]
  kernel_rfl
def ty57 : TI := { size := 8, agg := true, zero := [zw, zw, zw, zw], sh := .array 4 2 true, eq := some [.b, .s, .b, .s, .b, .s, .b, .s] }
theorem ty57_ok : TIOk Tryd.prog 57 ty57 := by
  refine ⟨by kernel_rfl, by kernel_rfl, fun ρ => ?_, ⟨_, Tryd.underlying57, by kernel_rfl, by kernel_rfl, by decide⟩, fun ks h => by cases h; exact ⟨by kernel_rfl, by kernel_rfl, rfl⟩⟩
  rw [show cellsL ρ ty57.zero = [.bool false, .string ⟨#[]⟩, .bool false, .string ⟨#[]⟩, .bool false, .string ⟨#[]⟩, .bool false, .string ⟨#[]⟩] from by simp only [ty57, cellsL, List.flatMap_cons, List.flatMap_nil, cells_zw, List.cons_append, List.nil_append]]
  kernel_rfl
def ty69 : TI := { size := 6, agg := true, zero := [zw, zw, zw], sh := .array 3 2 true, eq := some [.b, .s, .b, .s, .b, .s] }
theorem ty69_ok : TIOk Tryd.prog 69 ty69 := by
  refine ⟨by kernel_rfl, by kernel_rfl, fun ρ => ?_, ⟨_, Tryd.underlying69, by kernel_rfl, by kernel_rfl, by decide⟩, fun ks h => by cases h; exact ⟨by kernel_rfl, by kernel_rfl, rfl⟩⟩
  rw [show cellsL ρ ty69.zero = [.bool false, .string ⟨#[]⟩, .bool false, .string ⟨#[]⟩, .bool false, .string ⟨#[]⟩] from by simp only [ty69, cellsL, List.flatMap_cons, List.flatMap_nil, cells_zw, List.cons_append, List.nil_append]]
  kernel_rfl
def ty71 : TI := { size := 3, agg := true, zero := [zi, zi, zi], sh := .array 3 1 false, eq := some [.i .i64, .i .i64, .i .i64] }
theorem ty71_ok : TIOk Tryd.prog 71 ty71 := by
  refine ⟨by kernel_rfl, by kernel_rfl, fun ρ => ?_, ⟨_, Tryd.underlying71, by kernel_rfl, by kernel_rfl, by decide⟩, fun ks h => by cases h; exact ⟨by kernel_rfl, by kernel_rfl, rfl⟩⟩
  rw [show cellsL ρ ty71.zero = [.int .i64 0, .int .i64 0, .int .i64 0] from by simp only [ty71, cellsL, List.flatMap_cons, List.flatMap_nil, cells_zi, List.cons_append, List.nil_append]]
  kernel_rfl
def ty72 : TI := { size := 1, agg := false, zero := [.val (.int .u64 0)], sh := .int .u64, eq := none }
theorem ty72_ok : TIOk Tryd.prog 72 ty72 := by
  refine ⟨by kernel_rfl, by kernel_rfl, fun ρ => ?_, Tryd.underlying72, (fun _ h => nomatch h)⟩
  rw [show cellsL ρ ty72.zero = [.int .u64 0] from by simp only [ty72, cellsL, List.flatMap_cons, List.flatMap_nil, cells_val, List.cons_append, List.nil_append]]
  kernel_rfl
def ty73 : TI := { size := 1, agg := false, zero := [.val (.int .u64 0)], sh := .int .u64, eq := none }
theorem ty73_ok : TIOk Tryd.prog 73 ty73 := by
  refine ⟨by kernel_rfl, by kernel_rfl, fun ρ => ?_, Tryd.underlying73, (fun _ h => nomatch h)⟩
  rw [show cellsL ρ ty73.zero = [.int .u64 0] from by simp only [ty73, cellsL, List.flatMap_cons, List.flatMap_nil, cells_val, List.cons_append, List.nil_append]]
  kernel_rfl
def ty74 : TI := { size := 1, agg := false, zero := [.val (.slice none 0 0)], sh := .slice 72 1 [.val (.int .u64 0)], eq := none }
theorem ty74_ok : TIOk Tryd.prog 74 ty74 := by
  refine ⟨by kernel_rfl, by kernel_rfl, fun ρ => ?_, ⟨Tryd.underlying74, by kernel_rfl, by kernel_rfl, by decide, fun ρ => ⟨by rw [show cellsL ρ [.val (.int .u64 0)] = [.int .u64 0] from by simp only [cellsL, List.flatMap_cons, List.flatMap_nil, cells_val, List.cons_append, List.nil_append]]; kernel_rfl, by rw [show cellsL ρ [.val (.int .u64 0)] = [.int .u64 0] from by simp only [cellsL, List.flatMap_cons, List.flatMap_nil, cells_val, List.cons_append, List.nil_append]]; rfl⟩⟩, (fun _ h => nomatch h)⟩
  rw [show cellsL ρ ty74.zero = [.slice none 0 0] from by simp only [ty74, cellsL, List.flatMap_cons, List.flatMap_nil, cells_val, List.cons_append, List.nil_append]]
  kernel_rfl
def ty75 : TI := { size := 1, agg := false, zero := [.val (.slice none 0 0)], sh := .slice 72 1 [.val (.int .u64 0)], eq := none }
theorem ty75_ok : TIOk Tryd.prog 75 ty75 := by
  refine ⟨by kernel_rfl, by kernel_rfl, fun ρ => ?_, ⟨Tryd.underlying75, by kernel_rfl, by kernel_rfl, by decide, fun ρ => ⟨by rw [show cellsL ρ [.val (.int .u64 0)] = [.int .u64 0] from by simp only [cellsL, List.flatMap_cons, List.flatMap_nil, cells_val, List.cons_append, List.nil_append]]; kernel_rfl, by rw [show cellsL ρ [.val (.int .u64 0)] = [.int .u64 0] from by simp only [cellsL, List.flatMap_cons, List.flatMap_nil, cells_val, List.cons_append, List.nil_append]]; rfl⟩⟩, (fun _ h => nomatch h)⟩
  rw [show cellsL ρ ty75.zero = [.slice none 0 0] from by simp only [ty75, cellsL, List.flatMap_cons, List.flatMap_nil, cells_val, List.cons_append, List.nil_append]]
  kernel_rfl
def ty81 : TI := { size := 1, agg := false, zero := [.val (.slice none 0 0)], sh := .slice 5 1 [.val (.int .u8 0)], eq := none }
theorem ty81_ok : TIOk Tryd.prog 81 ty81 := by
  refine ⟨by kernel_rfl, by kernel_rfl, fun ρ => ?_, ⟨Tryd.underlying81, by kernel_rfl, by kernel_rfl, by decide, fun ρ => ⟨by rw [show cellsL ρ [.val (.int .u8 0)] = [.int .u8 0] from by simp only [cellsL, List.flatMap_cons, List.flatMap_nil, cells_val, List.cons_append, List.nil_append]]; kernel_rfl, by rw [show cellsL ρ [.val (.int .u8 0)] = [.int .u8 0] from by simp only [cellsL, List.flatMap_cons, List.flatMap_nil, cells_val, List.cons_append, List.nil_append]]; rfl⟩⟩, (fun _ h => nomatch h)⟩
  rw [show cellsL ρ ty81.zero = [.slice none 0 0] from by simp only [ty81, cellsL, List.flatMap_cons, List.flatMap_nil, cells_val, List.cons_append, List.nil_append]]
  kernel_rfl
def ty86 : TI := { size := 18, agg := true, zero := [zi, zi, zi, zi, zi, zi, zi, zi, zi, zi, zi, zi, zi, zi, zi, zi, zi, zi], sh := .array 6 3 true, eq := some [.i .i64, .i .i64, .i .i64, .i .i64, .i .i64, .i .i64, .i .i64, .i .i64, .i .i64, .i .i64, .i .i64, .i .i64, .i .i64, .i .i64, .i .i64, .i .i64, .i .i64, .i .i64] }
theorem ty86_ok : TIOk Tryd.prog 86 ty86 := by
  refine ⟨by kernel_rfl, by kernel_rfl, fun ρ => ?_, ⟨_, Tryd.underlying86, by kernel_rfl, by kernel_rfl, by decide⟩, fun ks h => by cases h; exact ⟨by kernel_rfl, by kernel_rfl, rfl⟩⟩
  rw [show cellsL ρ ty86.zero = [.int .i64 0, .int .i64 0, .int .i64 0, .int .i64 0, .int .i64 0, .int .i64 0, .int .i64 0, .int .i64 0, .int .i64 0, .int .i64 0, .int .i64 0, .int .i64 0, .int .i64 0, .int .i64 0, .int .i64 0, .int .i64 0, .int .i64 0, .int .i64 0] from by simp only [ty86, cellsL, List.flatMap_cons, List.flatMap_nil, cells_zi, List.cons_append, List.nil_append]]
  kernel_rfl
def ty88 : TI := { size := 6, agg := true, zero := [zw, zw, zw], sh := .array 3 2 true, eq := some [.b, .s, .b, .s, .b, .s] }
theorem ty88_ok : TIOk Tryd.prog 88 ty88 := by
  refine ⟨by kernel_rfl, by kernel_rfl, fun ρ => ?_, ⟨_, Tryd.underlying88, by kernel_rfl, by kernel_rfl, by decide⟩, fun ks h => by cases h; exact ⟨by kernel_rfl, by kernel_rfl, rfl⟩⟩
  rw [show cellsL ρ ty88.zero = [.bool false, .string ⟨#[]⟩, .bool false, .string ⟨#[]⟩, .bool false, .string ⟨#[]⟩] from by simp only [ty88, cellsL, List.flatMap_cons, List.flatMap_nil, cells_zw, List.cons_append, List.nil_append]]
  kernel_rfl
def ty99 : TI := { size := 24, agg := true, zero := [zi, zi, zi, zi, zi, zi, zi, zi, zi, zi, zi, zi, zi, zi, zi, zi, zi, zi, zi, zi, zi, zi, zi, zi], sh := .array 8 3 true, eq := some [.i .i64, .i .i64, .i .i64, .i .i64, .i .i64, .i .i64, .i .i64, .i .i64, .i .i64, .i .i64, .i .i64, .i .i64, .i .i64, .i .i64, .i .i64, .i .i64, .i .i64, .i .i64, .i .i64, .i .i64, .i .i64, .i .i64, .i .i64, .i .i64] }
theorem ty99_ok : TIOk Tryd.prog 99 ty99 := by
  refine ⟨by kernel_rfl, by kernel_rfl, fun ρ => ?_, ⟨_, Tryd.underlying99, by kernel_rfl, by kernel_rfl, by decide⟩, fun ks h => by cases h; exact ⟨by kernel_rfl, by kernel_rfl, rfl⟩⟩
  rw [show cellsL ρ ty99.zero = [.int .i64 0, .int .i64 0, .int .i64 0, .int .i64 0, .int .i64 0, .int .i64 0, .int .i64 0, .int .i64 0, .int .i64 0, .int .i64 0, .int .i64 0, .int .i64 0, .int .i64 0, .int .i64 0, .int .i64 0, .int .i64 0, .int .i64 0, .int .i64 0, .int .i64 0, .int .i64 0, .int .i64 0, .int .i64 0, .int .i64 0, .int .i64 0] from by simp only [ty99, cellsL, List.flatMap_cons, List.flatMap_nil, cells_zi, List.cons_append, List.nil_append]]
  kernel_rfl
def ty101 : TI := { size := 3, agg := true, zero := [.val .nilFunc, .val .nilFunc, .val .nilFunc], sh := .array 3 1 false, eq := none }
theorem ty101_ok : TIOk Tryd.prog 101 ty101 := by
  refine ⟨by kernel_rfl, by kernel_rfl, fun ρ => ?_, ⟨_, Tryd.underlying101, by kernel_rfl, by kernel_rfl, by decide⟩, (fun _ h => nomatch h)⟩
  rw [show cellsL ρ ty101.zero = [.nilFunc, .nilFunc, .nilFunc] from by simp only [ty101, cellsL, List.flatMap_cons, List.flatMap_nil, cells_val, List.cons_append, List.nil_append]]
  kernel_rfl
def ty103 : TI := { size := 3, agg := true, zero := [zi, zi, zi], sh := .struct [(0, 1, false), (1, 1, false), (2, 1, false)], eq := some [.i .i64, .i .i64, .i .i64] }
theorem ty103_ok : TIOk Tryd.prog 103 ty103 := by
  refine ⟨by kernel_rfl, by kernel_rfl, fun ρ => ?_, ⟨_, Tryd.underlying103, by kernel_rfl, by decide⟩, fun ks h => by cases h; exact ⟨by kernel_rfl, by kernel_rfl, rfl⟩⟩
  rw [show cellsL ρ ty103.zero = [.int .i64 0, .int .i64 0, .int .i64 0] from by simp only [ty103, cellsL, List.flatMap_cons, List.flatMap_nil, cells_zi, List.cons_append, List.nil_append]]
  kernel_rfl
def ty124 : TI := { size := 32, agg := true, zero := [.val (.int .u8 0), .val (.int .u8 0), .val (.int .u8 0), .val (.int .u8 0), .val (.int .u8 0), .val (.int .u8 0), .val (.int .u8 0), .val (.int .u8 0), .val (.int .u8 0), .val (.int .u8 0), .val (.int .u8 0), .val (.int .u8 0), .val (.int .u8 0), .val (.int .u8 0), .val (.int .u8 0), .val (.int .u8 0), .val (.int .u8 0), .val (.int .u8 0), .val (.int .u8 0), .val (.int .u8 0), .val (.int .u8 0), .val (.int .u8 0), .val (.int .u8 0), .val (.int .u8 0), .val (.int .u8 0), .val (.int .u8 0), .val (.int .u8 0), .val (.int .u8 0), .val (.int .u8 0), .val (.int .u8 0), .val (.int .u8 0), .val (.int .u8 0)], sh := .array 16 2 true, eq := some [.i .u8, .i .u8, .i .u8, .i .u8, .i .u8, .i .u8, .i .u8, .i .u8, .i .u8, .i .u8, .i .u8, .i .u8, .i .u8, .i .u8, .i .u8, .i .u8, .i .u8, .i .u8, .i .u8, .i .u8, .i .u8, .i .u8, .i .u8, .i .u8, .i .u8, .i .u8, .i .u8, .i .u8, .i .u8, .i .u8, .i .u8, .i .u8] }
theorem ty124_ok : TIOk Tryd.prog 124 ty124 := by
  refine ⟨by kernel_rfl, by kernel_rfl, fun ρ => ?_, ⟨_, Tryd.underlying124, by kernel_rfl, by kernel_rfl, by decide⟩, fun ks h => by cases h; exact ⟨by kernel_rfl, by kernel_rfl, rfl⟩⟩
  rw [show cellsL ρ ty124.zero = [.int .u8 0, .int .u8 0, .int .u8 0, .int .u8 0, .int .u8 0, .int .u8 0, .int .u8 0, .int .u8 0, .int .u8 0, .int .u8 0, .int .u8 0, .int .u8 0, .int .u8 0, .int .u8 0, .int .u8 0, .int .u8 0, .int .u8 0, .int .u8 0, .int .u8 0, .int .u8 0, .int .u8 0, .int .u8 0, .int .u8 0, .int .u8 0, .int .u8 0, .int .u8 0, .int .u8 0, .int .u8 0, .int .u8 0, .int .u8 0, .int .u8 0, .int .u8 0] from by simp only [ty124, cellsL, List.flatMap_cons, List.flatMap_nil, cells_val, List.cons_append, List.nil_append]]
  kernel_rfl
def tyL : List (TypeId × TI) := [(2, ty2), (3, ty3), (4, ty4), (5, ty5), (9, ty9), (12, ty12), (21, ty21), (23, ty23), (26, ty26), (27, ty27), (28, ty28), (30, ty30), (31, ty31), (37, ty37), (38, ty38), (41, ty41), (44, ty44), (45, ty45), (46, ty46), (50, ty50), (56, ty56), (57, ty57), (69, ty69), (71, ty71), (72, ty72), (73, ty73), (74, ty74), (75, ty75), (81, ty81), (86, ty86), (88, ty88), (99, ty99), (101, ty101), (103, ty103), (124, ty124)]
def tyT (t : TypeId) : Option TI := lk tyL t
theorem tyT_ok : TOk Tryd.prog tyT := fun t ti h => by
  have h := lk_mem h
  simp only [tyL, List.mem_cons, List.not_mem_nil, or_false, Prod.mk.injEq] at h
  rcases h with ⟨rfl, rfl⟩ | ⟨rfl, rfl⟩ | ⟨rfl, rfl⟩ | ⟨rfl, rfl⟩ | ⟨rfl, rfl⟩ | ⟨rfl, rfl⟩ | ⟨rfl, rfl⟩ | ⟨rfl, rfl⟩ | ⟨rfl, rfl⟩ | ⟨rfl, rfl⟩ | ⟨rfl, rfl⟩ | ⟨rfl, rfl⟩ | ⟨rfl, rfl⟩ | ⟨rfl, rfl⟩ | ⟨rfl, rfl⟩ | ⟨rfl, rfl⟩ | ⟨rfl, rfl⟩ | ⟨rfl, rfl⟩ | ⟨rfl, rfl⟩ | ⟨rfl, rfl⟩ | ⟨rfl, rfl⟩ | ⟨rfl, rfl⟩ | ⟨rfl, rfl⟩ | ⟨rfl, rfl⟩ | ⟨rfl, rfl⟩ | ⟨rfl, rfl⟩ | ⟨rfl, rfl⟩ | ⟨rfl, rfl⟩ | ⟨rfl, rfl⟩ | ⟨rfl, rfl⟩ | ⟨rfl, rfl⟩ | ⟨rfl, rfl⟩ | ⟨rfl, rfl⟩ | ⟨rfl, rfl⟩ | ⟨rfl, rfl⟩
  · exact ty2_ok
  · exact ty3_ok
  · exact ty4_ok
  · exact ty5_ok
  · exact ty9_ok
  · exact ty12_ok
  · exact ty21_ok
  · exact ty23_ok
  · exact ty26_ok
  · exact ty27_ok
  · exact ty28_ok
  · exact ty30_ok
  · exact ty31_ok
  · exact ty37_ok
  · exact ty38_ok
  · exact ty41_ok
  · exact ty44_ok
  · exact ty45_ok
  · exact ty46_ok
  · exact ty50_ok
  · exact ty56_ok
  · exact ty57_ok
  · exact ty69_ok
  · exact ty71_ok
  · exact ty72_ok
  · exact ty73_ok
  · exact ty74_ok
  · exact ty75_ok
  · exact ty81_ok
  · exact ty86_ok
  · exact ty88_ok
  · exact ty99_ok
  · exact ty101_ok
  · exact ty103_ok
  · exact ty124_ok
end Go.Proofs.YtapppahniablmaaDoor
