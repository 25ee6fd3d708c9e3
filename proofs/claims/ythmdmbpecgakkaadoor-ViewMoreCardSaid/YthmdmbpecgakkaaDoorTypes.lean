/- The types' table. -/
import Derived.Test.YthmdmbpecgakkaaDoorEno
import Derived.Test.YthmdmbpecgakkaaDoorProg
import Derived.KernelRfl
namespace Go.Proofs.YthmdmbpecgakkaaDoor
open Go.RowKit

def zi : C := .int 0 (by unfold IR; omega)
def zw : C := .wid 0 0 (by unfold Sm; decide)
def zb : C := .val (.bool false)
def zs : C := .val (.string ⟨#[]⟩)
theorem cells_zw (ρ : Rho) : zw.cells ρ = [.bool false, .string ⟨#[]⟩] := by simp [zw, C.cells, mag_zero]
theorem cells_zi (ρ : Rho) : zi.cells ρ = [.int .i64 0] := rfl
theorem cells_zb (ρ : Rho) : zb.cells ρ = [.bool false] := rfl
theorem cells_zs (ρ : Rho) : zs.cells ρ = [.string ⟨#[]⟩] := rfl
theorem cells_val (ρ : Rho) (v : Value) : (C.val v).cells ρ = [v] := rfl
def lk {α : Type} : List (Nat × α) → Nat → Option α
  | [], _ => none
  | (a, x) :: l, n => if a = n then some x else lk l n
theorem lk_mem {α : Type} {l : List (Nat × α)} {n : Nat} {x : α} (h : lk l n = some x) : (n, x) ∈ l := by
  induction l with
  | nil => simp [lk] at h
  | cons p l ih =>
    obtain ⟨a, y⟩ := p
    unfold lk at h
    split at h
    · rename_i e; cases h; subst e; simp
    · simp [ih h]
set_option maxRecDepth 100000
def ty2 : TI := { size := 1, agg := false, zero := [zi], sh := .int .i64, eq := none }
theorem ty2_ok : TIOk Tryd.prog 2 ty2 := by
  refine ⟨by kernel_rfl, by kernel_rfl, fun ρ => ?_, Tryd.underlying2, (fun _ h => nomatch h)⟩
  rw [show cellsL ρ ty2.zero = [.int .i64 0] from by simp only [ty2, cellsL, List.flatMap_cons, List.flatMap_nil, cells_zi, List.cons_append, List.nil_append]]
  kernel_rfl
def ty3 : TI := { size := 1, agg := false, zero := [zi], sh := .int .i64, eq := none }
theorem ty3_ok : TIOk Tryd.prog 3 ty3 := by
  refine ⟨by kernel_rfl, by kernel_rfl, fun ρ => ?_, Tryd.underlying3, (fun _ h => nomatch h)⟩
  rw [show cellsL ρ ty3.zero = [.int .i64 0] from by simp only [ty3, cellsL, List.flatMap_cons, List.flatMap_nil, cells_zi, List.cons_append, List.nil_append]]
  kernel_rfl
def ty4 : TI := { size := 1, agg := false, zero := [zb], sh := .bool, eq := none }
theorem ty4_ok : TIOk Tryd.prog 4 ty4 := by
  refine ⟨by kernel_rfl, by kernel_rfl, fun ρ => ?_, Tryd.underlying4, (fun _ h => nomatch h)⟩
  rw [show cellsL ρ ty4.zero = [.bool false] from by simp only [ty4, cellsL, List.flatMap_cons, List.flatMap_nil, cells_zb, List.cons_append, List.nil_append]]
  kernel_rfl
def ty5 : TI := { size := 1, agg := false, zero := [.val (.int .u8 0)], sh := .int .u8, eq := none }
theorem ty5_ok : TIOk Tryd.prog 5 ty5 := by
  refine ⟨by kernel_rfl, by kernel_rfl, fun ρ => ?_, Tryd.underlying5, (fun _ h => nomatch h)⟩
  rw [show cellsL ρ ty5.zero = [.int .u8 0] from by simp only [ty5, cellsL, List.flatMap_cons, List.flatMap_nil, cells_val, List.cons_append, List.nil_append]]
  kernel_rfl
def ty9 : TI := { size := 1, agg := false, zero := [zs], sh := .string, eq := none }
theorem ty9_ok : TIOk Tryd.prog 9 ty9 := by
  refine ⟨by kernel_rfl, by kernel_rfl, fun ρ => ?_, Tryd.underlying9, (fun _ h => nomatch h)⟩
  rw [show cellsL ρ ty9.zero = [.string ⟨#[]⟩] from by simp only [ty9, cellsL, List.flatMap_cons, List.flatMap_nil, cells_zs, List.cons_append, List.nil_append]]
  kernel_rfl
def ty12 : TI := { size := 1, agg := false, zero := [.val (.int .u64 0)], sh := .int .u64, eq := none }
theorem ty12_ok : TIOk Tryd.prog 12 ty12 := by
  refine ⟨by kernel_rfl, by kernel_rfl, fun ρ => ?_, Tryd.underlying12, (fun _ h => nomatch h)⟩
  rw [show cellsL ρ ty12.zero = [.int .u64 0] from by simp only [ty12, cellsL, List.flatMap_cons, List.flatMap_nil, cells_val, List.cons_append, List.nil_append]]
  kernel_rfl
def ty21 : TI := { size := 1, agg := false, zero := [.val (.int .i32 0)], sh := .int .i32, eq := none }
theorem ty21_ok : TIOk Tryd.prog 21 ty21 := by
  refine ⟨by kernel_rfl, by kernel_rfl, fun ρ => ?_, Tryd.underlying21, (fun _ h => nomatch h)⟩
  rw [show cellsL ρ ty21.zero = [.int .i32 0] from by simp only [ty21, cellsL, List.flatMap_cons, List.flatMap_nil, cells_val, List.cons_append, List.nil_append]]
  kernel_rfl
def ty23 : TI := { size := 3, agg := true, zero := [zi, zi, zi], sh := .struct [(0, 1, false), (1, 1, false), (2, 1, false)], eq := some [.i .i64, .i .i64, .i .i64] }
theorem ty23_ok : TIOk Tryd.prog 23 ty23 := by
  refine ⟨by kernel_rfl, by kernel_rfl, fun ρ => ?_, ⟨_, Tryd.underlying23, by kernel_rfl, by decide⟩, fun ks h => by cases h; exact ⟨by kernel_rfl, by kernel_rfl, rfl⟩⟩
  rw [show cellsL ρ ty23.zero = [.int .i64 0, .int .i64 0, .int .i64 0] from by simp only [ty23, cellsL, List.flatMap_cons, List.flatMap_nil, cells_zi, List.cons_append, List.nil_append]]
  kernel_rfl
def ty24 : TI := { size := 5, agg := true, zero := [zi, zi, zi, zi, zi], sh := .struct [(0, 3, true), (3, 1, false), (4, 1, false)], eq := some [.i .i64, .i .i64, .i .i64, .i .i64, .i .i64] }
theorem ty24_ok : TIOk Tryd.prog 24 ty24 := by
  refine ⟨by kernel_rfl, by kernel_rfl, fun ρ => ?_, ⟨_, Tryd.underlying24, by kernel_rfl, by decide⟩, fun ks h => by cases h; exact ⟨by kernel_rfl, by kernel_rfl, rfl⟩⟩
  rw [show cellsL ρ ty24.zero = [.int .i64 0, .int .i64 0, .int .i64 0, .int .i64 0, .int .i64 0] from by simp only [ty24, cellsL, List.flatMap_cons, List.flatMap_nil, cells_zi, List.cons_append, List.nil_append]]
  kernel_rfl
def ty25 : TI := { size := 5, agg := true, zero := [zi, zi, zi, zi, zi], sh := .struct [(0, 3, true), (3, 1, false), (4, 1, false)], eq := some [.i .i64, .i .i64, .i .i64, .i .i64, .i .i64] }
theorem ty25_ok : TIOk Tryd.prog 25 ty25 := by
  refine ⟨by kernel_rfl, by kernel_rfl, fun ρ => ?_, ⟨_, Tryd.underlying25, by kernel_rfl, by decide⟩, fun ks h => by cases h; exact ⟨by kernel_rfl, by kernel_rfl, rfl⟩⟩
  rw [show cellsL ρ ty25.zero = [.int .i64 0, .int .i64 0, .int .i64 0, .int .i64 0, .int .i64 0] from by simp only [ty25, cellsL, List.flatMap_cons, List.flatMap_nil, cells_zi, List.cons_append, List.nil_append]]
  kernel_rfl
def ty26 : TI := { size := 6, agg := true, zero := [zi, zi, zi, zi, zi, zi], sh := .array 2 3 true, eq := some [.i .i64, .i .i64, .i .i64, .i .i64, .i .i64, .i .i64] }
theorem ty26_ok : TIOk Tryd.prog 26 ty26 := by
  refine ⟨by kernel_rfl, by kernel_rfl, fun ρ => ?_, ⟨_, Tryd.underlying26, by kernel_rfl, by kernel_rfl, by decide⟩, fun ks h => by cases h; exact ⟨by kernel_rfl, by kernel_rfl, rfl⟩⟩
  rw [show cellsL ρ ty26.zero = [.int .i64 0, .int .i64 0, .int .i64 0, .int .i64 0, .int .i64 0, .int .i64 0] from by simp only [ty26, cellsL, List.flatMap_cons, List.flatMap_nil, cells_zi, List.cons_append, List.nil_append]]
  kernel_rfl
def ty30 : TI := { size := 4, agg := true, zero := [zi, zi, zi, zi], sh := .array 4 1 false, eq := some [.i .i64, .i .i64, .i .i64, .i .i64] }
theorem ty30_ok : TIOk Tryd.prog 30 ty30 := by
  refine ⟨by kernel_rfl, by kernel_rfl, fun ρ => ?_, ⟨_, Tryd.underlying30, by kernel_rfl, by kernel_rfl, by decide⟩, fun ks h => by cases h; exact ⟨by kernel_rfl, by kernel_rfl, rfl⟩⟩
  rw [show cellsL ρ ty30.zero = [.int .i64 0, .int .i64 0, .int .i64 0, .int .i64 0] from by simp only [ty30, cellsL, List.flatMap_cons, List.flatMap_nil, cells_zi, List.cons_append, List.nil_append]]
  kernel_rfl
def ty31 : TI := { size := 3, agg := true, zero := [zi, zi, zi], sh := .array 3 1 false, eq := some [.i .i64, .i .i64, .i .i64] }
theorem ty31_ok : TIOk Tryd.prog 31 ty31 := by
  refine ⟨by kernel_rfl, by kernel_rfl, fun ρ => ?_, ⟨_, Tryd.underlying31, by kernel_rfl, by kernel_rfl, by decide⟩, fun ks h => by cases h; exact ⟨by kernel_rfl, by kernel_rfl, rfl⟩⟩
  rw [show cellsL ρ ty31.zero = [.int .i64 0, .int .i64 0, .int .i64 0] from by simp only [ty31, cellsL, List.flatMap_cons, List.flatMap_nil, cells_zi, List.cons_append, List.nil_append]]
  kernel_rfl
def ty33 : TI := { size := 5, agg := true, zero := [zi, zi, zi, zi, zi], sh := .array 5 1 false, eq := some [.i .i64, .i .i64, .i .i64, .i .i64, .i .i64] }
theorem ty33_ok : TIOk Tryd.prog 33 ty33 := by
  refine ⟨by kernel_rfl, by kernel_rfl, fun ρ => ?_, ⟨_, Tryd.underlying33, by kernel_rfl, by kernel_rfl, by decide⟩, fun ks h => by cases h; exact ⟨by kernel_rfl, by kernel_rfl, rfl⟩⟩
  rw [show cellsL ρ ty33.zero = [.int .i64 0, .int .i64 0, .int .i64 0, .int .i64 0, .int .i64 0] from by simp only [ty33, cellsL, List.flatMap_cons, List.flatMap_nil, cells_zi, List.cons_append, List.nil_append]]
  kernel_rfl
def ty34 : TI := { size := 4, agg := true, zero := [.val (.int .u8 0), .val (.int .u8 0), .val (.int .u8 0), .val (.int .u8 0)], sh := .array 4 1 false, eq := some [.i .u8, .i .u8, .i .u8, .i .u8] }
theorem ty34_ok : TIOk Tryd.prog 34 ty34 := by
  refine ⟨by kernel_rfl, by kernel_rfl, fun ρ => ?_, ⟨_, Tryd.underlying34, by kernel_rfl, by kernel_rfl, by decide⟩, fun ks h => by cases h; exact ⟨by kernel_rfl, by kernel_rfl, rfl⟩⟩
  rw [show cellsL ρ ty34.zero = [.int .u8 0, .int .u8 0, .int .u8 0, .int .u8 0] from by simp only [ty34, cellsL, List.flatMap_cons, List.flatMap_nil, cells_val, List.cons_append, List.nil_append]]
  kernel_rfl
def ty39 : TI := { size := 9, agg := true, zero := [zi, zi, zi, zi, zi, zi, zi, zi, zi], sh := .array 3 3 true, eq := some [.i .i64, .i .i64, .i .i64, .i .i64, .i .i64, .i .i64, .i .i64, .i .i64, .i .i64] }
theorem ty39_ok : TIOk Tryd.prog 39 ty39 := by
  refine ⟨by kernel_rfl, by kernel_rfl, fun ρ => ?_, ⟨_, Tryd.underlying39, by kernel_rfl, by kernel_rfl, by decide⟩, fun ks h => by cases h; exact ⟨by kernel_rfl, by kernel_rfl, rfl⟩⟩
  rw [show cellsL ρ ty39.zero = [.int .i64 0, .int .i64 0, .int .i64 0, .int .i64 0, .int .i64 0, .int .i64 0, .int .i64 0, .int .i64 0, .int .i64 0] from by simp only [ty39, cellsL, List.flatMap_cons, List.flatMap_nil, cells_zi, List.cons_append, List.nil_append]]
  kernel_rfl
def ty40 : TI := { size := 9, agg := true, zero := [zi, zi, zi, zi, zi, zi, zi, zi, zi], sh := .array 3 3 true, eq := some [.i .i64, .i .i64, .i .i64, .i .i64, .i .i64, .i .i64, .i .i64, .i .i64, .i .i64] }
theorem ty40_ok : TIOk Tryd.prog 40 ty40 := by
  refine ⟨by kernel_rfl, by kernel_rfl, fun ρ => ?_, ⟨_, Tryd.underlying40, by kernel_rfl, by kernel_rfl, by decide⟩, fun ks h => by cases h; exact ⟨by kernel_rfl, by kernel_rfl, rfl⟩⟩
  rw [show cellsL ρ ty40.zero = [.int .i64 0, .int .i64 0, .int .i64 0, .int .i64 0, .int .i64 0, .int .i64 0, .int .i64 0, .int .i64 0, .int .i64 0] from by simp only [ty40, cellsL, List.flatMap_cons, List.flatMap_nil, cells_zi, List.cons_append, List.nil_append]]
  kernel_rfl
def ty41 : TI := { size := 1, agg := false, zero := [.val (.slice none 0 0)], sh := .slice 40 9 [zi, zi, zi, zi, zi, zi, zi, zi, zi], eq := none }
theorem ty41_ok : TIOk Tryd.prog 41 ty41 := by
  refine ⟨by kernel_rfl, by kernel_rfl, fun ρ => ?_, ⟨Tryd.underlying41, by kernel_rfl, by kernel_rfl, by decide, by kernel_rfl, fun ρ => ⟨by rw [show cellsL ρ [zi, zi, zi, zi, zi, zi, zi, zi, zi] = [.int .i64 0, .int .i64 0, .int .i64 0, .int .i64 0, .int .i64 0, .int .i64 0, .int .i64 0, .int .i64 0, .int .i64 0] from by simp only [cellsL, List.flatMap_cons, List.flatMap_nil, cells_zi, List.cons_append, List.nil_append]]; kernel_rfl, by rw [show cellsL ρ [zi, zi, zi, zi, zi, zi, zi, zi, zi] = [.int .i64 0, .int .i64 0, .int .i64 0, .int .i64 0, .int .i64 0, .int .i64 0, .int .i64 0, .int .i64 0, .int .i64 0] from by simp only [cellsL, List.flatMap_cons, List.flatMap_nil, cells_zi, List.cons_append, List.nil_append]]; rfl⟩⟩, (fun _ h => nomatch h)⟩
  rw [show cellsL ρ ty41.zero = [.slice none 0 0] from by simp only [ty41, cellsL, List.flatMap_cons, List.flatMap_nil, cells_val, List.cons_append, List.nil_append]]
  kernel_rfl
def ty42 : TI := { size := 3, agg := true, zero := [.val (.slice none 0 0), zi, zi], sh := .struct [(0, 1, false), (1, 1, false), (2, 1, false)], eq := none }
theorem ty42_ok : TIOk Tryd.prog 42 ty42 := by
  refine ⟨by kernel_rfl, by kernel_rfl, fun ρ => ?_, ⟨_, Tryd.underlying42, by kernel_rfl, by decide⟩, (fun _ h => nomatch h)⟩
  rw [show cellsL ρ ty42.zero = [.slice none 0 0, .int .i64 0, .int .i64 0] from by simp only [ty42, cellsL, List.flatMap_cons, List.flatMap_nil, cells_val, cells_zi, List.cons_append, List.nil_append]]
  kernel_rfl
def ty43 : TI := { size := 3, agg := true, zero := [.val (.slice none 0 0), zi, zi], sh := .struct [(0, 1, false), (1, 1, false), (2, 1, false)], eq := none }
theorem ty43_ok : TIOk Tryd.prog 43 ty43 := by
  refine ⟨by kernel_rfl, by kernel_rfl, fun ρ => ?_, ⟨_, Tryd.underlying43, by kernel_rfl, by decide⟩, (fun _ h => nomatch h)⟩
  rw [show cellsL ρ ty43.zero = [.slice none 0 0, .int .i64 0, .int .i64 0] from by simp only [ty43, cellsL, List.flatMap_cons, List.flatMap_nil, cells_val, cells_zi, List.cons_append, List.nil_append]]
  kernel_rfl
def ty44 : TI := { size := 1, agg := false, zero := [.val (.slice none 0 0)], sh := .slice 43 3 [.val (.slice none 0 0), zi, zi], eq := none }
theorem ty44_ok : TIOk Tryd.prog 44 ty44 := by
  refine ⟨by kernel_rfl, by kernel_rfl, fun ρ => ?_, ⟨Tryd.underlying44, by kernel_rfl, by kernel_rfl, by decide, by kernel_rfl, fun ρ => ⟨by rw [show cellsL ρ [.val (.slice none 0 0), zi, zi] = [.slice none 0 0, .int .i64 0, .int .i64 0] from by simp only [cellsL, List.flatMap_cons, List.flatMap_nil, cells_val, cells_zi, List.cons_append, List.nil_append]]; kernel_rfl, by rw [show cellsL ρ [.val (.slice none 0 0), zi, zi] = [.slice none 0 0, .int .i64 0, .int .i64 0] from by simp only [cellsL, List.flatMap_cons, List.flatMap_nil, cells_val, cells_zi, List.cons_append, List.nil_append]]; rfl⟩⟩, (fun _ h => nomatch h)⟩
  rw [show cellsL ρ ty44.zero = [.slice none 0 0] from by simp only [ty44, cellsL, List.flatMap_cons, List.flatMap_nil, cells_val, List.cons_append, List.nil_append]]
  kernel_rfl
def ty45 : TI := { size := 1, agg := false, zero := [.val (.slice none 0 0)], sh := .slice 3 1 [zi], eq := none }
theorem ty45_ok : TIOk Tryd.prog 45 ty45 := by
  refine ⟨by kernel_rfl, by kernel_rfl, fun ρ => ?_, ⟨Tryd.underlying45, by kernel_rfl, by kernel_rfl, by decide, by kernel_rfl, fun ρ => ⟨by rw [show cellsL ρ [zi] = [.int .i64 0] from by simp only [cellsL, List.flatMap_cons, List.flatMap_nil, cells_zi, List.cons_append, List.nil_append]]; kernel_rfl, by rw [show cellsL ρ [zi] = [.int .i64 0] from by simp only [cellsL, List.flatMap_cons, List.flatMap_nil, cells_zi, List.cons_append, List.nil_append]]; rfl⟩⟩, (fun _ h => nomatch h)⟩
  rw [show cellsL ρ ty45.zero = [.slice none 0 0] from by simp only [ty45, cellsL, List.flatMap_cons, List.flatMap_nil, cells_val, List.cons_append, List.nil_append]]
  kernel_rfl
def ty46 : TI := { size := 1, agg := false, zero := [.val (.slice none 0 0)], sh := .slice 161 6 [zi, zi, zi, zi, zi, zi], eq := none }
theorem ty46_ok : TIOk Tryd.prog 46 ty46 := by
  refine ⟨by kernel_rfl, by kernel_rfl, fun ρ => ?_, ⟨Tryd.underlying46, by kernel_rfl, by kernel_rfl, by decide, by kernel_rfl, fun ρ => ⟨by rw [show cellsL ρ [zi, zi, zi, zi, zi, zi] = [.int .i64 0, .int .i64 0, .int .i64 0, .int .i64 0, .int .i64 0, .int .i64 0] from by simp only [cellsL, List.flatMap_cons, List.flatMap_nil, cells_zi, List.cons_append, List.nil_append]]; kernel_rfl, by rw [show cellsL ρ [zi, zi, zi, zi, zi, zi] = [.int .i64 0, .int .i64 0, .int .i64 0, .int .i64 0, .int .i64 0, .int .i64 0] from by simp only [cellsL, List.flatMap_cons, List.flatMap_nil, cells_zi, List.cons_append, List.nil_append]]; rfl⟩⟩, (fun _ h => nomatch h)⟩
  rw [show cellsL ρ ty46.zero = [.slice none 0 0] from by simp only [ty46, cellsL, List.flatMap_cons, List.flatMap_nil, cells_val, List.cons_append, List.nil_append]]
  kernel_rfl
def ty48 : TI := { size := 2, agg := true, zero := [zw], sh := .struct [(0, 1, false), (1, 1, false)], eq := some [.b, .s] }
theorem ty48_ok : TIOk Tryd.prog 48 ty48 := by
  refine ⟨by kernel_rfl, by kernel_rfl, fun ρ => ?_, ⟨_, Tryd.underlying48, by kernel_rfl, by decide⟩, fun ks h => by cases h; exact ⟨by kernel_rfl, by kernel_rfl, rfl⟩⟩
  rw [show cellsL ρ ty48.zero = [.bool false, .string ⟨#[]⟩] from by simp only [ty48, cellsL, List.flatMap_cons, List.flatMap_nil, cells_zw, List.cons_append, List.nil_append]]
  kernel_rfl
def ty49 : TI := { size := 8, agg := true, zero := [zi, .val (.slice none 0 0), .val (.slice none 0 0), .val (.slice none 0 0), zi, zi, zw], sh := .struct [(0, 1, false), (1, 1, false), (2, 1, false), (3, 1, false), (4, 1, false), (5, 1, false), (6, 2, true)], eq := none }
theorem ty49_ok : TIOk Tryd.prog 49 ty49 := by
  refine ⟨by kernel_rfl, by kernel_rfl, fun ρ => ?_, ⟨_, Tryd.underlying49, by kernel_rfl, by decide⟩, (fun _ h => nomatch h)⟩
  rw [show cellsL ρ ty49.zero = [.int .i64 0, .slice none 0 0, .slice none 0 0, .slice none 0 0, .int .i64 0, .int .i64 0, .bool false, .string ⟨#[]⟩] from by simp only [ty49, cellsL, List.flatMap_cons, List.flatMap_nil, cells_val, cells_zi, cells_zw, List.cons_append, List.nil_append]]
  kernel_rfl
def ty50 : TI := { size := 8, agg := true, zero := [zi, .val (.slice none 0 0), .val (.slice none 0 0), .val (.slice none 0 0), zi, zi, zw], sh := .struct [(0, 1, false), (1, 1, false), (2, 1, false), (3, 1, false), (4, 1, false), (5, 1, false), (6, 2, true)], eq := none }
theorem ty50_ok : TIOk Tryd.prog 50 ty50 := by
  refine ⟨by kernel_rfl, by kernel_rfl, fun ρ => ?_, ⟨_, Tryd.underlying50, by kernel_rfl, by decide⟩, (fun _ h => nomatch h)⟩
  rw [show cellsL ρ ty50.zero = [.int .i64 0, .slice none 0 0, .slice none 0 0, .slice none 0 0, .int .i64 0, .int .i64 0, .bool false, .string ⟨#[]⟩] from by simp only [ty50, cellsL, List.flatMap_cons, List.flatMap_nil, cells_val, cells_zi, cells_zw, List.cons_append, List.nil_append]]
  kernel_rfl
def ty51 : TI := { size := 1, agg := false, zero := [.val (.slice none 0 0)], sh := .slice 50 8 [zi, .val (.slice none 0 0), .val (.slice none 0 0), .val (.slice none 0 0), zi, zi, zw], eq := none }
theorem ty51_ok : TIOk Tryd.prog 51 ty51 := by
  refine ⟨by kernel_rfl, by kernel_rfl, fun ρ => ?_, ⟨Tryd.underlying51, by kernel_rfl, by kernel_rfl, by decide, by kernel_rfl, fun ρ => ⟨by rw [show cellsL ρ [zi, .val (.slice none 0 0), .val (.slice none 0 0), .val (.slice none 0 0), zi, zi, zw] = [.int .i64 0, .slice none 0 0, .slice none 0 0, .slice none 0 0, .int .i64 0, .int .i64 0, .bool false, .string ⟨#[]⟩] from by simp only [cellsL, List.flatMap_cons, List.flatMap_nil, cells_val, cells_zi, cells_zw, List.cons_append, List.nil_append]]; kernel_rfl, by rw [show cellsL ρ [zi, .val (.slice none 0 0), .val (.slice none 0 0), .val (.slice none 0 0), zi, zi, zw] = [.int .i64 0, .slice none 0 0, .slice none 0 0, .slice none 0 0, .int .i64 0, .int .i64 0, .bool false, .string ⟨#[]⟩] from by simp only [cellsL, List.flatMap_cons, List.flatMap_nil, cells_val, cells_zi, cells_zw, List.cons_append, List.nil_append]]; rfl⟩⟩, (fun _ h => nomatch h)⟩
  rw [show cellsL ρ ty51.zero = [.slice none 0 0] from by simp only [ty51, cellsL, List.flatMap_cons, List.flatMap_nil, cells_val, List.cons_append, List.nil_append]]
  kernel_rfl
def ty52 : TI := { size := 2, agg := true, zero := [.val (.slice none 0 0), .val (.slice none 0 0)], sh := .struct [(0, 1, false), (1, 1, false)], eq := none }
theorem ty52_ok : TIOk Tryd.prog 52 ty52 := by
  refine ⟨by kernel_rfl, by kernel_rfl, fun ρ => ?_, ⟨_, Tryd.underlying52, by kernel_rfl, by decide⟩, (fun _ h => nomatch h)⟩
  rw [show cellsL ρ ty52.zero = [.slice none 0 0, .slice none 0 0] from by simp only [ty52, cellsL, List.flatMap_cons, List.flatMap_nil, cells_val, List.cons_append, List.nil_append]]
  kernel_rfl
def ty53 : TI := { size := 2, agg := true, zero := [.val (.slice none 0 0), .val (.slice none 0 0)], sh := .struct [(0, 1, false), (1, 1, false)], eq := none }
theorem ty53_ok : TIOk Tryd.prog 53 ty53 := by
  refine ⟨by kernel_rfl, by kernel_rfl, fun ρ => ?_, ⟨_, Tryd.underlying53, by kernel_rfl, by decide⟩, (fun _ h => nomatch h)⟩
  rw [show cellsL ρ ty53.zero = [.slice none 0 0, .slice none 0 0] from by simp only [ty53, cellsL, List.flatMap_cons, List.flatMap_nil, cells_val, List.cons_append, List.nil_append]]
  kernel_rfl
def ty56 : TI := { size := 1, agg := false, zero := [.val (.slice none 0 0)], sh := .slice 4 1 [zb], eq := none }
theorem ty56_ok : TIOk Tryd.prog 56 ty56 := by
  refine ⟨by kernel_rfl, by kernel_rfl, fun ρ => ?_, ⟨Tryd.underlying56, by kernel_rfl, by kernel_rfl, by decide, by kernel_rfl, fun ρ => ⟨by rw [show cellsL ρ [zb] = [.bool false] from by simp only [cellsL, List.flatMap_cons, List.flatMap_nil, cells_zb, List.cons_append, List.nil_append]]; kernel_rfl, by rw [show cellsL ρ [zb] = [.bool false] from by simp only [cellsL, List.flatMap_cons, List.flatMap_nil, cells_zb, List.cons_append, List.nil_append]]; rfl⟩⟩, (fun _ h => nomatch h)⟩
  rw [show cellsL ρ ty56.zero = [.slice none 0 0] from by simp only [ty56, cellsL, List.flatMap_cons, List.flatMap_nil, cells_val, List.cons_append, List.nil_append]]
  kernel_rfl
def ty57 : TI := { size := 1, agg := false, zero := [.val (.slice none 0 0)], sh := .slice 4 1 [zb], eq := none }
theorem ty57_ok : TIOk Tryd.prog 57 ty57 := by
  refine ⟨by kernel_rfl, by kernel_rfl, fun ρ => ?_, ⟨Tryd.underlying57, by kernel_rfl, by kernel_rfl, by decide, by kernel_rfl, fun ρ => ⟨by rw [show cellsL ρ [zb] = [.bool false] from by simp only [cellsL, List.flatMap_cons, List.flatMap_nil, cells_zb, List.cons_append, List.nil_append]]; kernel_rfl, by rw [show cellsL ρ [zb] = [.bool false] from by simp only [cellsL, List.flatMap_cons, List.flatMap_nil, cells_zb, List.cons_append, List.nil_append]]; rfl⟩⟩, (fun _ h => nomatch h)⟩
  rw [show cellsL ρ ty57.zero = [.slice none 0 0] from by simp only [ty57, cellsL, List.flatMap_cons, List.flatMap_nil, cells_val, List.cons_append, List.nil_append]]
  kernel_rfl
def ty60 : TI := { size := 7, agg := true, zero := [zi, zi, zi, zi, zi, zi, zi], sh := .struct [(0, 3, true), (3, 3, true), (6, 1, false)], eq := some [.i .i64, .i .i64, .i .i64, .i .i64, .i .i64, .i .i64, .i .i64] }
theorem ty60_ok : TIOk Tryd.prog 60 ty60 := by
  refine ⟨by kernel_rfl, by kernel_rfl, fun ρ => ?_, ⟨_, Tryd.underlying60, by kernel_rfl, by decide⟩, fun ks h => by cases h; exact ⟨by kernel_rfl, by kernel_rfl, rfl⟩⟩
  rw [show cellsL ρ ty60.zero = [.int .i64 0, .int .i64 0, .int .i64 0, .int .i64 0, .int .i64 0, .int .i64 0, .int .i64 0] from by simp only [ty60, cellsL, List.flatMap_cons, List.flatMap_nil, cells_zi, List.cons_append, List.nil_append]]
  kernel_rfl
def ty61 : TI := { size := 7, agg := true, zero := [zi, zi, zi, zi, zi, zi, zi], sh := .struct [(0, 3, true), (3, 3, true), (6, 1, false)], eq := some [.i .i64, .i .i64, .i .i64, .i .i64, .i .i64, .i .i64, .i .i64] }
theorem ty61_ok : TIOk Tryd.prog 61 ty61 := by
  refine ⟨by kernel_rfl, by kernel_rfl, fun ρ => ?_, ⟨_, Tryd.underlying61, by kernel_rfl, by decide⟩, fun ks h => by cases h; exact ⟨by kernel_rfl, by kernel_rfl, rfl⟩⟩
  rw [show cellsL ρ ty61.zero = [.int .i64 0, .int .i64 0, .int .i64 0, .int .i64 0, .int .i64 0, .int .i64 0, .int .i64 0] from by simp only [ty61, cellsL, List.flatMap_cons, List.flatMap_nil, cells_zi, List.cons_append, List.nil_append]]
  kernel_rfl
def ty64 : TI := { size := 1, agg := false, zero := [.val (.slice none 0 0)], sh := .slice 67 5 [zi, zi, zw, zb], eq := none }
theorem ty64_ok : TIOk Tryd.prog 64 ty64 := by
  refine ⟨by kernel_rfl, by kernel_rfl, fun ρ => ?_, ⟨Tryd.underlying64, by kernel_rfl, by kernel_rfl, by decide, by kernel_rfl, fun ρ => ⟨by rw [show cellsL ρ [zi, zi, zw, zb] = [.int .i64 0, .int .i64 0, .bool false, .string ⟨#[]⟩, .bool false] from by simp only [cellsL, List.flatMap_cons, List.flatMap_nil, cells_zb, cells_zi, cells_zw, List.cons_append, List.nil_append]]; kernel_rfl, by rw [show cellsL ρ [zi, zi, zw, zb] = [.int .i64 0, .int .i64 0, .bool false, .string ⟨#[]⟩, .bool false] from by simp only [cellsL, List.flatMap_cons, List.flatMap_nil, cells_zb, cells_zi, cells_zw, List.cons_append, List.nil_append]]; rfl⟩⟩, (fun _ h => nomatch h)⟩
  rw [show cellsL ρ ty64.zero = [.slice none 0 0] from by simp only [ty64, cellsL, List.flatMap_cons, List.flatMap_nil, cells_val, List.cons_append, List.nil_append]]
  kernel_rfl
def ty66 : TI := { size := 5, agg := true, zero := [zi, zi, zw, zb], sh := .struct [(0, 1, false), (1, 1, false), (2, 2, true), (4, 1, false)], eq := some [.i .i64, .i .i64, .b, .s, .b] }
theorem ty66_ok : TIOk Tryd.prog 66 ty66 := by
  refine ⟨by kernel_rfl, by kernel_rfl, fun ρ => ?_, ⟨_, Tryd.underlying66, by kernel_rfl, by decide⟩, fun ks h => by cases h; exact ⟨by kernel_rfl, by kernel_rfl, rfl⟩⟩
  rw [show cellsL ρ ty66.zero = [.int .i64 0, .int .i64 0, .bool false, .string ⟨#[]⟩, .bool false] from by simp only [ty66, cellsL, List.flatMap_cons, List.flatMap_nil, cells_zb, cells_zi, cells_zw, List.cons_append, List.nil_append]]
  kernel_rfl
def ty67 : TI := { size := 5, agg := true, zero := [zi, zi, zw, zb], sh := .struct [(0, 1, false), (1, 1, false), (2, 2, true), (4, 1, false)], eq := some [.i .i64, .i .i64, .b, .s, .b] }
theorem ty67_ok : TIOk Tryd.prog 67 ty67 := by
  refine ⟨by kernel_rfl, by kernel_rfl, fun ρ => ?_, ⟨_, Tryd.underlying67, by kernel_rfl, by decide⟩, fun ks h => by cases h; exact ⟨by kernel_rfl, by kernel_rfl, rfl⟩⟩
  rw [show cellsL ρ ty67.zero = [.int .i64 0, .int .i64 0, .bool false, .string ⟨#[]⟩, .bool false] from by simp only [ty67, cellsL, List.flatMap_cons, List.flatMap_nil, cells_zb, cells_zi, cells_zw, List.cons_append, List.nil_append]]
  kernel_rfl
def ty69 : TI := { size := 1, agg := false, zero := [.val (.pointer none)], sh := .other, eq := none }
theorem ty69_ok : TIOk Tryd.prog 69 ty69 := by
  refine ⟨by kernel_rfl, by kernel_rfl, fun ρ => ?_, trivial, (fun _ h => nomatch h)⟩
  rw [show cellsL ρ ty69.zero = [.pointer none] from by simp only [ty69, cellsL, List.flatMap_cons, List.flatMap_nil, cells_val, List.cons_append, List.nil_append]]
  kernel_rfl
def ty79 : TI := { size := 1, agg := false, zero := [.val (.slice none 0 0)], sh := .slice 83 1 [.val .nilFunc], eq := none }
theorem ty79_ok : TIOk Tryd.prog 79 ty79 := by
  refine ⟨by kernel_rfl, by kernel_rfl, fun ρ => ?_, ⟨Tryd.underlying79, by kernel_rfl, by kernel_rfl, by decide, by kernel_rfl, fun ρ => ⟨by rw [show cellsL ρ [.val .nilFunc] = [.nilFunc] from by simp only [cellsL, List.flatMap_cons, List.flatMap_nil, cells_val, List.cons_append, List.nil_append]]; kernel_rfl, by rw [show cellsL ρ [.val .nilFunc] = [.nilFunc] from by simp only [cellsL, List.flatMap_cons, List.flatMap_nil, cells_val, List.cons_append, List.nil_append]]; rfl⟩⟩, (fun _ h => nomatch h)⟩
  rw [show cellsL ρ ty79.zero = [.slice none 0 0] from by simp only [ty79, cellsL, List.flatMap_cons, List.flatMap_nil, cells_val, List.cons_append, List.nil_append]]
  kernel_rfl
def ty81 : TI := { size := 1, agg := false, zero := [.val .nilFunc], sh := .other, eq := none }
theorem ty81_ok : TIOk Tryd.prog 81 ty81 := by
  refine ⟨by kernel_rfl, by kernel_rfl, fun ρ => ?_, trivial, (fun _ h => nomatch h)⟩
  rw [show cellsL ρ ty81.zero = [.nilFunc] from by simp only [ty81, cellsL, List.flatMap_cons, List.flatMap_nil, cells_val, List.cons_append, List.nil_append]]
  kernel_rfl
def ty82 : TI := { size := 1, agg := true, zero := [.val .nilFunc], sh := .struct [(0, 1, false)], eq := none }
theorem ty82_ok : TIOk Tryd.prog 82 ty82 := by
  refine ⟨by kernel_rfl, by kernel_rfl, fun ρ => ?_, ⟨_, Tryd.underlying82, by kernel_rfl, by decide⟩, (fun _ h => nomatch h)⟩
  rw [show cellsL ρ ty82.zero = [.nilFunc] from by simp only [ty82, cellsL, List.flatMap_cons, List.flatMap_nil, cells_val, List.cons_append, List.nil_append]]
  kernel_rfl
def ty83 : TI := { size := 1, agg := true, zero := [.val .nilFunc], sh := .struct [(0, 1, false)], eq := none }
theorem ty83_ok : TIOk Tryd.prog 83 ty83 := by
  refine ⟨by kernel_rfl, by kernel_rfl, fun ρ => ?_, ⟨_, Tryd.underlying83, by kernel_rfl, by decide⟩, (fun _ h => nomatch h)⟩
  rw [show cellsL ρ ty83.zero = [.nilFunc] from by simp only [ty83, cellsL, List.flatMap_cons, List.flatMap_nil, cells_val, List.cons_append, List.nil_append]]
  kernel_rfl
def ty91 : TI := { size := 1, agg := false, zero := [.val (.slice none 0 0)], sh := .slice 96 1 [.val (.int .u64 0)], eq := none }
theorem ty91_ok : TIOk Tryd.prog 91 ty91 := by
  refine ⟨by kernel_rfl, by kernel_rfl, fun ρ => ?_, ⟨Tryd.underlying91, by kernel_rfl, by kernel_rfl, by decide, by kernel_rfl, fun ρ => ⟨by rw [show cellsL ρ [.val (.int .u64 0)] = [.int .u64 0] from by simp only [cellsL, List.flatMap_cons, List.flatMap_nil, cells_val, List.cons_append, List.nil_append]]; kernel_rfl, by rw [show cellsL ρ [.val (.int .u64 0)] = [.int .u64 0] from by simp only [cellsL, List.flatMap_cons, List.flatMap_nil, cells_val, List.cons_append, List.nil_append]]; rfl⟩⟩, (fun _ h => nomatch h)⟩
  rw [show cellsL ρ ty91.zero = [.slice none 0 0] from by simp only [ty91, cellsL, List.flatMap_cons, List.flatMap_nil, cells_val, List.cons_append, List.nil_append]]
  kernel_rfl
def ty92 : TI := { size := 1, agg := false, zero := [.val (.slice none 0 0)], sh := .slice 96 1 [.val (.int .u64 0)], eq := none }
theorem ty92_ok : TIOk Tryd.prog 92 ty92 := by
  refine ⟨by kernel_rfl, by kernel_rfl, fun ρ => ?_, ⟨Tryd.underlying92, by kernel_rfl, by kernel_rfl, by decide, by kernel_rfl, fun ρ => ⟨by rw [show cellsL ρ [.val (.int .u64 0)] = [.int .u64 0] from by simp only [cellsL, List.flatMap_cons, List.flatMap_nil, cells_val, List.cons_append, List.nil_append]]; kernel_rfl, by rw [show cellsL ρ [.val (.int .u64 0)] = [.int .u64 0] from by simp only [cellsL, List.flatMap_cons, List.flatMap_nil, cells_val, List.cons_append, List.nil_append]]; rfl⟩⟩, (fun _ h => nomatch h)⟩
  rw [show cellsL ρ ty92.zero = [.slice none 0 0] from by simp only [ty92, cellsL, List.flatMap_cons, List.flatMap_nil, cells_val, List.cons_append, List.nil_append]]
  kernel_rfl
def ty96 : TI := { size := 1, agg := false, zero := [.val (.int .u64 0)], sh := .int .u64, eq := none }
theorem ty96_ok : TIOk Tryd.prog 96 ty96 := by
  refine ⟨by kernel_rfl, by kernel_rfl, fun ρ => ?_, Tryd.underlying96, (fun _ h => nomatch h)⟩
  rw [show cellsL ρ ty96.zero = [.int .u64 0] from by simp only [ty96, cellsL, List.flatMap_cons, List.flatMap_nil, cells_val, List.cons_append, List.nil_append]]
  kernel_rfl
def ty97 : TI := { size := 1, agg := false, zero := [.val (.int .u64 0)], sh := .int .u64, eq := none }
theorem ty97_ok : TIOk Tryd.prog 97 ty97 := by
  refine ⟨by kernel_rfl, by kernel_rfl, fun ρ => ?_, Tryd.underlying97, (fun _ h => nomatch h)⟩
  rw [show cellsL ρ ty97.zero = [.int .u64 0] from by simp only [ty97, cellsL, List.flatMap_cons, List.flatMap_nil, cells_val, List.cons_append, List.nil_append]]
  kernel_rfl
def ty107 : TI := { size := 2, agg := true, zero := [.val (.slice none 0 0), .val (.slice none 0 0)], sh := .array 2 1 false, eq := none }
theorem ty107_ok : TIOk Tryd.prog 107 ty107 := by
  refine ⟨by kernel_rfl, by kernel_rfl, fun ρ => ?_, ⟨_, Tryd.underlying107, by kernel_rfl, by kernel_rfl, by decide⟩, (fun _ h => nomatch h)⟩
  rw [show cellsL ρ ty107.zero = [.slice none 0 0, .slice none 0 0] from by simp only [ty107, cellsL, List.flatMap_cons, List.flatMap_nil, cells_val, List.cons_append, List.nil_append]]
  kernel_rfl
def ty110 : TI := { size := 1, agg := false, zero := [.val (.map none)], sh := .other, eq := none }
theorem ty110_ok : TIOk Tryd.prog 110 ty110 := by
  refine ⟨by kernel_rfl, by kernel_rfl, fun ρ => ?_, trivial, (fun _ h => nomatch h)⟩
  rw [show cellsL ρ ty110.zero = [.map none] from by simp only [ty110, cellsL, List.flatMap_cons, List.flatMap_nil, cells_val, List.cons_append, List.nil_append]]
  kernel_rfl
def ty111 : TI := { size := 2, agg := true, zero := [.val (.map none), .val (.map none)], sh := .array 2 1 false, eq := none }
theorem ty111_ok : TIOk Tryd.prog 111 ty111 := by
  refine ⟨by kernel_rfl, by kernel_rfl, fun ρ => ?_, ⟨_, Tryd.underlying111, by kernel_rfl, by kernel_rfl, by decide⟩, (fun _ h => nomatch h)⟩
  rw [show cellsL ρ ty111.zero = [.map none, .map none] from by simp only [ty111, cellsL, List.flatMap_cons, List.flatMap_nil, cells_val, List.cons_append, List.nil_append]]
  kernel_rfl
def ty112 : TI := { size := 2, agg := true, zero := [zi, zi], sh := .array 2 1 false, eq := some [.i .i64, .i .i64] }
theorem ty112_ok : TIOk Tryd.prog 112 ty112 := by
  refine ⟨by kernel_rfl, by kernel_rfl, fun ρ => ?_, ⟨_, Tryd.underlying112, by kernel_rfl, by kernel_rfl, by decide⟩, fun ks h => by cases h; exact ⟨by kernel_rfl, by kernel_rfl, rfl⟩⟩
  rw [show cellsL ρ ty112.zero = [.int .i64 0, .int .i64 0] from by simp only [ty112, cellsL, List.flatMap_cons, List.flatMap_nil, cells_zi, List.cons_append, List.nil_append]]
  kernel_rfl
def ty115 : TI := { size := 1, agg := false, zero := [.val (.slice none 0 0)], sh := .slice 5 1 [.val (.int .u8 0)], eq := none }
theorem ty115_ok : TIOk Tryd.prog 115 ty115 := by
  refine ⟨by kernel_rfl, by kernel_rfl, fun ρ => ?_, ⟨Tryd.underlying115, by kernel_rfl, by kernel_rfl, by decide, by kernel_rfl, fun ρ => ⟨by rw [show cellsL ρ [.val (.int .u8 0)] = [.int .u8 0] from by simp only [cellsL, List.flatMap_cons, List.flatMap_nil, cells_val, List.cons_append, List.nil_append]]; kernel_rfl, by rw [show cellsL ρ [.val (.int .u8 0)] = [.int .u8 0] from by simp only [cellsL, List.flatMap_cons, List.flatMap_nil, cells_val, List.cons_append, List.nil_append]]; rfl⟩⟩, (fun _ h => nomatch h)⟩
  rw [show cellsL ρ ty115.zero = [.slice none 0 0] from by simp only [ty115, cellsL, List.flatMap_cons, List.flatMap_nil, cells_val, List.cons_append, List.nil_append]]
  kernel_rfl
def ty139 : TI := { size := 32, agg := true, zero := [.val (.int .u8 0), .val (.int .u8 0), .val (.int .u8 0), .val (.int .u8 0), .val (.int .u8 0), .val (.int .u8 0), .val (.int .u8 0), .val (.int .u8 0), .val (.int .u8 0), .val (.int .u8 0), .val (.int .u8 0), .val (.int .u8 0), .val (.int .u8 0), .val (.int .u8 0), .val (.int .u8 0), .val (.int .u8 0), .val (.int .u8 0), .val (.int .u8 0), .val (.int .u8 0), .val (.int .u8 0), .val (.int .u8 0), .val (.int .u8 0), .val (.int .u8 0), .val (.int .u8 0), .val (.int .u8 0), .val (.int .u8 0), .val (.int .u8 0), .val (.int .u8 0), .val (.int .u8 0), .val (.int .u8 0), .val (.int .u8 0), .val (.int .u8 0)], sh := .array 16 2 true, eq := some [.i .u8, .i .u8, .i .u8, .i .u8, .i .u8, .i .u8, .i .u8, .i .u8, .i .u8, .i .u8, .i .u8, .i .u8, .i .u8, .i .u8, .i .u8, .i .u8, .i .u8, .i .u8, .i .u8, .i .u8, .i .u8, .i .u8, .i .u8, .i .u8, .i .u8, .i .u8, .i .u8, .i .u8, .i .u8, .i .u8, .i .u8, .i .u8] }
theorem ty139_ok : TIOk Tryd.prog 139 ty139 := by
  refine ⟨by kernel_rfl, by kernel_rfl, fun ρ => ?_, ⟨_, Tryd.underlying139, by kernel_rfl, by kernel_rfl, by decide⟩, fun ks h => by cases h; exact ⟨by kernel_rfl, by kernel_rfl, rfl⟩⟩
  rw [show cellsL ρ ty139.zero = [.int .u8 0, .int .u8 0, .int .u8 0, .int .u8 0, .int .u8 0, .int .u8 0, .int .u8 0, .int .u8 0, .int .u8 0, .int .u8 0, .int .u8 0, .int .u8 0, .int .u8 0, .int .u8 0, .int .u8 0, .int .u8 0, .int .u8 0, .int .u8 0, .int .u8 0, .int .u8 0, .int .u8 0, .int .u8 0, .int .u8 0, .int .u8 0, .int .u8 0, .int .u8 0, .int .u8 0, .int .u8 0, .int .u8 0, .int .u8 0, .int .u8 0, .int .u8 0] from by simp only [ty139, cellsL, List.flatMap_cons, List.flatMap_nil, cells_val, List.cons_append, List.nil_append]]
  kernel_rfl
def ty151 : TI := { size := 1, agg := false, zero := [.val (.int .u32 0)], sh := .int .u32, eq := none }
theorem ty151_ok : TIOk Tryd.prog 151 ty151 := by
  refine ⟨by kernel_rfl, by kernel_rfl, fun ρ => ?_, Tryd.underlying151, (fun _ h => nomatch h)⟩
  rw [show cellsL ρ ty151.zero = [.int .u32 0] from by simp only [ty151, cellsL, List.flatMap_cons, List.flatMap_nil, cells_val, List.cons_append, List.nil_append]]
  kernel_rfl
def ty155 : TI := { size := 1, agg := false, zero := [.val (.pointer none)], sh := .other, eq := none }
theorem ty155_ok : TIOk Tryd.prog 155 ty155 := by
  refine ⟨by kernel_rfl, by kernel_rfl, fun ρ => ?_, trivial, (fun _ h => nomatch h)⟩
  rw [show cellsL ρ ty155.zero = [.pointer none] from by simp only [ty155, cellsL, List.flatMap_cons, List.flatMap_nil, cells_val, List.cons_append, List.nil_append]]
  kernel_rfl
def ty160 : TI := { size := 6, agg := true, zero := [zi, zi, zi, zi, zi, zi], sh := .struct [(0, 3, true), (3, 3, true)], eq := some [.i .i64, .i .i64, .i .i64, .i .i64, .i .i64, .i .i64] }
theorem ty160_ok : TIOk Tryd.prog 160 ty160 := by
  refine ⟨by kernel_rfl, by kernel_rfl, fun ρ => ?_, ⟨_, Tryd.underlying160, by kernel_rfl, by decide⟩, fun ks h => by cases h; exact ⟨by kernel_rfl, by kernel_rfl, rfl⟩⟩
  rw [show cellsL ρ ty160.zero = [.int .i64 0, .int .i64 0, .int .i64 0, .int .i64 0, .int .i64 0, .int .i64 0] from by simp only [ty160, cellsL, List.flatMap_cons, List.flatMap_nil, cells_zi, List.cons_append, List.nil_append]]
  kernel_rfl
def ty161 : TI := { size := 6, agg := true, zero := [zi, zi, zi, zi, zi, zi], sh := .struct [(0, 3, true), (3, 3, true)], eq := some [.i .i64, .i .i64, .i .i64, .i .i64, .i .i64, .i .i64] }
theorem ty161_ok : TIOk Tryd.prog 161 ty161 := by
  refine ⟨by kernel_rfl, by kernel_rfl, fun ρ => ?_, ⟨_, Tryd.underlying161, by kernel_rfl, by decide⟩, fun ks h => by cases h; exact ⟨by kernel_rfl, by kernel_rfl, rfl⟩⟩
  rw [show cellsL ρ ty161.zero = [.int .i64 0, .int .i64 0, .int .i64 0, .int .i64 0, .int .i64 0, .int .i64 0] from by simp only [ty161, cellsL, List.flatMap_cons, List.flatMap_nil, cells_zi, List.cons_append, List.nil_append]]
  kernel_rfl
def tyL : List (TypeId × TI) := [(2, ty2), (3, ty3), (4, ty4), (5, ty5), (9, ty9), (12, ty12), (21, ty21), (23, ty23), (24, ty24), (25, ty25), (26, ty26), (30, ty30), (31, ty31), (33, ty33), (34, ty34), (39, ty39), (40, ty40), (41, ty41), (42, ty42), (43, ty43), (44, ty44), (45, ty45), (46, ty46), (48, ty48), (49, ty49), (50, ty50), (51, ty51), (52, ty52), (53, ty53), (56, ty56), (57, ty57), (60, ty60), (61, ty61), (64, ty64), (66, ty66), (67, ty67), (69, ty69), (79, ty79), (81, ty81), (82, ty82), (83, ty83), (91, ty91), (92, ty92), (96, ty96), (97, ty97), (107, ty107), (110, ty110), (111, ty111), (112, ty112), (115, ty115), (139, ty139), (151, ty151), (155, ty155), (160, ty160), (161, ty161)]
def tyT (t : TypeId) : Option TI := lk tyL t
theorem tyT_ok : TOk Tryd.prog tyT := fun t ti h => by
  have h := lk_mem h
  simp only [tyL, List.mem_cons, List.not_mem_nil, or_false, Prod.mk.injEq] at h
  rcases h with ⟨rfl, rfl⟩ | ⟨rfl, rfl⟩ | ⟨rfl, rfl⟩ | ⟨rfl, rfl⟩ | ⟨rfl, rfl⟩ | ⟨rfl, rfl⟩ | ⟨rfl, rfl⟩ | ⟨rfl, rfl⟩ | ⟨rfl, rfl⟩ | ⟨rfl, rfl⟩ | ⟨rfl, rfl⟩ | ⟨rfl, rfl⟩ | ⟨rfl, rfl⟩ | ⟨rfl, rfl⟩ | ⟨rfl, rfl⟩ | ⟨rfl, rfl⟩ | ⟨rfl, rfl⟩ | ⟨rfl, rfl⟩ | ⟨rfl, rfl⟩ | ⟨rfl, rfl⟩ | ⟨rfl, rfl⟩ | ⟨rfl, rfl⟩ | ⟨rfl, rfl⟩ | ⟨rfl, rfl⟩ | ⟨rfl, rfl⟩ | ⟨rfl, rfl⟩ | ⟨rfl, rfl⟩ | ⟨rfl, rfl⟩ | ⟨rfl, rfl⟩ | ⟨rfl, rfl⟩ | ⟨rfl, rfl⟩ | ⟨rfl, rfl⟩ | ⟨rfl, rfl⟩ | ⟨rfl, rfl⟩ | ⟨rfl, rfl⟩ | ⟨rfl, rfl⟩ | ⟨rfl, rfl⟩ | ⟨rfl, rfl⟩ | ⟨rfl, rfl⟩ | ⟨rfl, rfl⟩ | ⟨rfl, rfl⟩ | ⟨rfl, rfl⟩ | ⟨rfl, rfl⟩ | ⟨rfl, rfl⟩ | ⟨rfl, rfl⟩ | ⟨rfl, rfl⟩ | ⟨rfl, rfl⟩ | ⟨rfl, rfl⟩ | ⟨rfl, rfl⟩ | ⟨rfl, rfl⟩ | ⟨rfl, rfl⟩ | ⟨rfl, rfl⟩ | ⟨rfl, rfl⟩ | ⟨rfl, rfl⟩ | ⟨rfl, rfl⟩
  · exact ty2_ok
  · exact ty3_ok
  · exact ty4_ok
  · exact ty5_ok
  · exact ty9_ok
  · exact ty12_ok
  · exact ty21_ok
  · exact ty23_ok
  · exact ty24_ok
  · exact ty25_ok
  · exact ty26_ok
  · exact ty30_ok
  · exact ty31_ok
  · exact ty33_ok
  · exact ty34_ok
  · exact ty39_ok
  · exact ty40_ok
  · exact ty41_ok
  · exact ty42_ok
  · exact ty43_ok
  · exact ty44_ok
  · exact ty45_ok
  · exact ty46_ok
  · exact ty48_ok
  · exact ty49_ok
  · exact ty50_ok
  · exact ty51_ok
  · exact ty52_ok
  · exact ty53_ok
  · exact ty56_ok
  · exact ty57_ok
  · exact ty60_ok
  · exact ty61_ok
  · exact ty64_ok
  · exact ty66_ok
  · exact ty67_ok
  · exact ty69_ok
  · exact ty79_ok
  · exact ty81_ok
  · exact ty82_ok
  · exact ty83_ok
  · exact ty91_ok
  · exact ty92_ok
  · exact ty96_ok
  · exact ty97_ok
  · exact ty107_ok
  · exact ty110_ok
  · exact ty111_ok
  · exact ty112_ok
  · exact ty115_ok
  · exact ty139_ok
  · exact ty151_ok
  · exact ty155_ok
  · exact ty160_ok
  · exact ty161_ok
end Go.Proofs.YthmdmbpecgakkaaDoor
