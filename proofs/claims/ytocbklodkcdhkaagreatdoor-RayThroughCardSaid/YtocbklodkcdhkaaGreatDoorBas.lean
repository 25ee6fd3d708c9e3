/- The types' table. What is known of functions, for the reckoner: the numbers' arithmetic. exact's vectors and normals, by the reckoner. Functions that read slices of their caller's, for the reckoner; points and triangles. The reckoner: helps for steps that need a fact. -/
import Derived.Test.YtocbklodkcdhkaaGreatDoorEno
import Derived.Test.YtocbklodkcdhkaaGreatDoorProg
import Derived.KernelRfl
import Derived.Test.YtocbklodkcdhkaaGreatDoorWka
import Derived.Test.YtocbklodkcdhkaaGreatDoorWkb
namespace Go.Proofs.YtocbklodkcdhkaaGreatDoor
open Go.RowKit

def zi : C := .int 0 (by unfold IR; omega)
def zw : C := .wid 0 0 (by unfold Sm; decide)
def zb : C := .val (.bool false)
def zs : C := .val (.string ⟨#[]⟩)
theorem cells_zw (ρ : Rho) : zw.cells ρ = [.bool false, .string ⟨#[]⟩] := by simp [zw, C.cells, mag_zero]
theorem cells_zi (ρ : Rho) : zi.cells ρ = [.int .i64 0] := rfl
theorem cells_zb (ρ : Rho) : zb.cells ρ = [.bool false] := rfl
theorem cells_zs (ρ : Rho) : zs.cells ρ = [.string ⟨#[]⟩] := rfl
theorem cells_val (ρ : Rho) (v : Value) : (C.val v).cells ρ = [v] := rfl
def lk {α : Type} : List (Nat × α) → Nat → Option α
  | [], _ => none
  | (a, x) :: l, n => if a = n then some x else lk l n
theorem lk_mem {α : Type} {l : List (Nat × α)} {n : Nat} {x : α} (h : lk l n = some x) : (n, x) ∈ l := by
  induction l with
  | nil => simp [lk] at h
  | cons p l ih =>
    obtain ⟨a, y⟩ := p
    unfold lk at h
    split at h
    · rename_i e; cases h; subst e; simp
    · simp [ih h]
set_option maxRecDepth 100000
def ty2 : TI := { size := 1, agg := false, zero := [zi], sh := .int .i64, eq := none }
theorem ty2_ok : TIOk Tryz.prog 2 ty2 := by
  refine ⟨by kernel_rfl, by kernel_rfl, fun ρ => ?_, Tryz.underlying2, (fun _ h => nomatch h)⟩
  rw [show cellsL ρ ty2.zero = [.int .i64 0] from by simp only [ty2, cellsL, List.flatMap_cons, List.flatMap_nil, cells_zi, List.cons_append, List.nil_append]]
  kernel_rfl
def ty3 : TI := { size := 1, agg := false, zero := [zi], sh := .int .i64, eq := none }
theorem ty3_ok : TIOk Tryz.prog 3 ty3 := by
  refine ⟨by kernel_rfl, by kernel_rfl, fun ρ => ?_, Tryz.underlying3, (fun _ h => nomatch h)⟩
  rw [show cellsL ρ ty3.zero = [.int .i64 0] from by simp only [ty3, cellsL, List.flatMap_cons, List.flatMap_nil, cells_zi, List.cons_append, List.nil_append]]
  kernel_rfl
def ty4 : TI := { size := 1, agg := false, zero := [zb], sh := .bool, eq := none }
theorem ty4_ok : TIOk Tryz.prog 4 ty4 := by
  refine ⟨by kernel_rfl, by kernel_rfl, fun ρ => ?_, Tryz.underlying4, (fun _ h => nomatch h)⟩
  rw [show cellsL ρ ty4.zero = [.bool false] from by simp only [ty4, cellsL, List.flatMap_cons, List.flatMap_nil, cells_zb, List.cons_append, List.nil_append]]
  kernel_rfl
def ty5 : TI := { size := 1, agg := false, zero := [.val (.int .u8 0)], sh := .int .u8, eq := none }
theorem ty5_ok : TIOk Tryz.prog 5 ty5 := by
  refine ⟨by kernel_rfl, by kernel_rfl, fun ρ => ?_, Tryz.underlying5, (fun _ h => nomatch h)⟩
  rw [show cellsL ρ ty5.zero = [.int .u8 0] from by simp only [ty5, cellsL, List.flatMap_cons, List.flatMap_nil, cells_val, List.cons_append, List.nil_append]]
  kernel_rfl
def ty9 : TI := { size := 1, agg := false, zero := [zs], sh := .string, eq := none }
theorem ty9_ok : TIOk Tryz.prog 9 ty9 := by
  refine ⟨by kernel_rfl, by kernel_rfl, fun ρ => ?_, Tryz.underlying9, (fun _ h => nomatch h)⟩
  rw [show cellsL ρ ty9.zero = [.string ⟨#[]⟩] from by simp only [ty9, cellsL, List.flatMap_cons, List.flatMap_nil, cells_zs, List.cons_append, List.nil_append]]
  kernel_rfl
def ty12 : TI := { size := 1, agg := false, zero := [.val (.int .u64 0)], sh := .int .u64, eq := none }
theorem ty12_ok : TIOk Tryz.prog 12 ty12 := by
  refine ⟨by kernel_rfl, by kernel_rfl, fun ρ => ?_, Tryz.underlying12, (fun _ h => nomatch h)⟩
  rw [show cellsL ρ ty12.zero = [.int .u64 0] from by simp only [ty12, cellsL, List.flatMap_cons, List.flatMap_nil, cells_val, List.cons_append, List.nil_append]]
  kernel_rfl
def ty21 : TI := { size := 1, agg := false, zero := [.val (.int .i32 0)], sh := .int .i32, eq := none }
theorem ty21_ok : TIOk Tryz.prog 21 ty21 := by
  refine ⟨by kernel_rfl, by kernel_rfl, fun ρ => ?_, Tryz.underlying21, (fun _ h => nomatch h)⟩
  rw [show cellsL ρ ty21.zero = [.int .i32 0] from by simp only [ty21, cellsL, List.flatMap_cons, List.flatMap_nil, cells_val, List.cons_append, List.nil_append]]
  kernel_rfl
def ty22 : TI := { size := 3, agg := true, zero := [zi, zi, zi], sh := .array 3 1 false, eq := some [.i .i64, .i .i64, .i .i64] }
theorem ty22_ok : TIOk Tryz.prog 22 ty22 := by
  refine ⟨by kernel_rfl, by kernel_rfl, fun ρ => ?_, ⟨_, Tryz.underlying22, by kernel_rfl, by kernel_rfl, by decide⟩, fun ks h => by cases h; exact ⟨by kernel_rfl, by kernel_rfl, rfl⟩⟩
  rw [show cellsL ρ ty22.zero = [.int .i64 0, .int .i64 0, .int .i64 0] from by simp only [ty22, cellsL, List.flatMap_cons, List.flatMap_nil, cells_zi, List.cons_append, List.nil_append]]
  kernel_rfl
def ty24 : TI := { size := 7, agg := true, zero := [zi, zi, zi, zi, zi, zi, zi], sh := .struct [(0, 1, false), (1, 1, false), (2, 1, false), (3, 1, false), (4, 3, true)], eq := some [.i .i64, .i .i64, .i .i64, .i .i64, .i .i64, .i .i64, .i .i64] }
theorem ty24_ok : TIOk Tryz.prog 24 ty24 := by
  refine ⟨by kernel_rfl, by kernel_rfl, fun ρ => ?_, ⟨_, Tryz.underlying24, by kernel_rfl, by decide⟩, fun ks h => by cases h; exact ⟨by kernel_rfl, by kernel_rfl, rfl⟩⟩
  rw [show cellsL ρ ty24.zero = [.int .i64 0, .int .i64 0, .int .i64 0, .int .i64 0, .int .i64 0, .int .i64 0, .int .i64 0] from by simp only [ty24, cellsL, List.flatMap_cons, List.flatMap_nil, cells_zi, List.cons_append, List.nil_append]]
  kernel_rfl
def ty25 : TI := { size := 1, agg := false, zero := [.val (.int .u32 0)], sh := .int .u32, eq := none }
theorem ty25_ok : TIOk Tryz.prog 25 ty25 := by
  refine ⟨by kernel_rfl, by kernel_rfl, fun ρ => ?_, Tryz.underlying25, (fun _ h => nomatch h)⟩
  rw [show cellsL ρ ty25.zero = [.int .u32 0] from by simp only [ty25, cellsL, List.flatMap_cons, List.flatMap_nil, cells_val, List.cons_append, List.nil_append]]
  kernel_rfl
def ty26 : TI := { size := 4, agg := true, zero := [zi, zi, zi, zi], sh := .array 4 1 false, eq := some [.i .i64, .i .i64, .i .i64, .i .i64] }
theorem ty26_ok : TIOk Tryz.prog 26 ty26 := by
  refine ⟨by kernel_rfl, by kernel_rfl, fun ρ => ?_, ⟨_, Tryz.underlying26, by kernel_rfl, by kernel_rfl, by decide⟩, fun ks h => by cases h; exact ⟨by kernel_rfl, by kernel_rfl, rfl⟩⟩
  rw [show cellsL ρ ty26.zero = [.int .i64 0, .int .i64 0, .int .i64 0, .int .i64 0] from by simp only [ty26, cellsL, List.flatMap_cons, List.flatMap_nil, cells_zi, List.cons_append, List.nil_append]]
  kernel_rfl
def ty28 : TI := { size := 1, agg := false, zero := [.val (.slice none 0 0)], sh := .slice 38 9 [zi, zi, zi, zi, zi, zi, zi, zi, zi], eq := none }
theorem ty28_ok : TIOk Tryz.prog 28 ty28 := by
  refine ⟨by kernel_rfl, by kernel_rfl, fun ρ => ?_, ⟨Tryz.underlying28, by kernel_rfl, by kernel_rfl, by decide, by kernel_rfl, fun ρ => ⟨by rw [show cellsL ρ [zi, zi, zi, zi, zi, zi, zi, zi, zi] = [.int .i64 0, .int .i64 0, .int .i64 0, .int .i64 0, .int .i64 0, .int .i64 0, .int .i64 0, .int .i64 0, .int .i64 0] from by simp only [cellsL, List.flatMap_cons, List.flatMap_nil, cells_zi, List.cons_append, List.nil_append]]; kernel_rfl, by rw [show cellsL ρ [zi, zi, zi, zi, zi, zi, zi, zi, zi] = [.int .i64 0, .int .i64 0, .int .i64 0, .int .i64 0, .int .i64 0, .int .i64 0, .int .i64 0, .int .i64 0, .int .i64 0] from by simp only [cellsL, List.flatMap_cons, List.flatMap_nil, cells_zi, List.cons_append, List.nil_append]]; rfl⟩⟩, (fun _ h => nomatch h)⟩
  rw [show cellsL ρ ty28.zero = [.slice none 0 0] from by simp only [ty28, cellsL, List.flatMap_cons, List.flatMap_nil, cells_val, List.cons_append, List.nil_append]]
  kernel_rfl
def ty30 : TI := { size := 1, agg := false, zero := [.val (.slice none 0 0)], sh := .slice 35 3 [zi, zi, zi], eq := none }
theorem ty30_ok : TIOk Tryz.prog 30 ty30 := by
  refine ⟨by kernel_rfl, by kernel_rfl, fun ρ => ?_, ⟨Tryz.underlying30, by kernel_rfl, by kernel_rfl, by decide, by kernel_rfl, fun ρ => ⟨by rw [show cellsL ρ [zi, zi, zi] = [.int .i64 0, .int .i64 0, .int .i64 0] from by simp only [cellsL, List.flatMap_cons, List.flatMap_nil, cells_zi, List.cons_append, List.nil_append]]; kernel_rfl, by rw [show cellsL ρ [zi, zi, zi] = [.int .i64 0, .int .i64 0, .int .i64 0] from by simp only [cellsL, List.flatMap_cons, List.flatMap_nil, cells_zi, List.cons_append, List.nil_append]]; rfl⟩⟩, (fun _ h => nomatch h)⟩
  rw [show cellsL ρ ty30.zero = [.slice none 0 0] from by simp only [ty30, cellsL, List.flatMap_cons, List.flatMap_nil, cells_val, List.cons_append, List.nil_append]]
  kernel_rfl
def ty32 : TI := { size := 1, agg := false, zero := [zi], sh := .int .i64, eq := none }
theorem ty32_ok : TIOk Tryz.prog 32 ty32 := by
  refine ⟨by kernel_rfl, by kernel_rfl, fun ρ => ?_, Tryz.underlying32, (fun _ h => nomatch h)⟩
  rw [show cellsL ρ ty32.zero = [.int .i64 0] from by simp only [ty32, cellsL, List.flatMap_cons, List.flatMap_nil, cells_zi, List.cons_append, List.nil_append]]
  kernel_rfl
def ty35 : TI := { size := 3, agg := true, zero := [zi, zi, zi], sh := .struct [(0, 1, false), (1, 1, false), (2, 1, false)], eq := some [.i .i64, .i .i64, .i .i64] }
theorem ty35_ok : TIOk Tryz.prog 35 ty35 := by
  refine ⟨by kernel_rfl, by kernel_rfl, fun ρ => ?_, ⟨_, Tryz.underlying35, by kernel_rfl, by decide⟩, fun ks h => by cases h; exact ⟨by kernel_rfl, by kernel_rfl, rfl⟩⟩
  rw [show cellsL ρ ty35.zero = [.int .i64 0, .int .i64 0, .int .i64 0] from by simp only [ty35, cellsL, List.flatMap_cons, List.flatMap_nil, cells_zi, List.cons_append, List.nil_append]]
  kernel_rfl
def ty37 : TI := { size := 9, agg := true, zero := [zi, zi, zi, zi, zi, zi, zi, zi, zi], sh := .array 3 3 true, eq := some [.i .i64, .i .i64, .i .i64, .i .i64, .i .i64, .i .i64, .i .i64, .i .i64, .i .i64] }
theorem ty37_ok : TIOk Tryz.prog 37 ty37 := by
  refine ⟨by kernel_rfl, by kernel_rfl, fun ρ => ?_, ⟨_, Tryz.underlying37, by kernel_rfl, by kernel_rfl, by decide⟩, fun ks h => by cases h; exact ⟨by kernel_rfl, by kernel_rfl, rfl⟩⟩
  rw [show cellsL ρ ty37.zero = [.int .i64 0, .int .i64 0, .int .i64 0, .int .i64 0, .int .i64 0, .int .i64 0, .int .i64 0, .int .i64 0, .int .i64 0] from by simp only [ty37, cellsL, List.flatMap_cons, List.flatMap_nil, cells_zi, List.cons_append, List.nil_append]]
  kernel_rfl
def ty38 : TI := { size := 9, agg := true, zero := [zi, zi, zi, zi, zi, zi, zi, zi, zi], sh := .array 3 3 true, eq := some [.i .i64, .i .i64, .i .i64, .i .i64, .i .i64, .i .i64, .i .i64, .i .i64, .i .i64] }
theorem ty38_ok : TIOk Tryz.prog 38 ty38 := by
  refine ⟨by kernel_rfl, by kernel_rfl, fun ρ => ?_, ⟨_, Tryz.underlying38, by kernel_rfl, by kernel_rfl, by decide⟩, fun ks h => by cases h; exact ⟨by kernel_rfl, by kernel_rfl, rfl⟩⟩
  rw [show cellsL ρ ty38.zero = [.int .i64 0, .int .i64 0, .int .i64 0, .int .i64 0, .int .i64 0, .int .i64 0, .int .i64 0, .int .i64 0, .int .i64 0] from by simp only [ty38, cellsL, List.flatMap_cons, List.flatMap_nil, cells_zi, List.cons_append, List.nil_append]]
  kernel_rfl
def ty43 : TI := { size := 2, agg := true, zero := [zw], sh := .struct [(0, 1, false), (1, 1, false)], eq := some [.b, .s] }
theorem ty43_ok : TIOk Tryz.prog 43 ty43 := by
  refine ⟨by kernel_rfl, by kernel_rfl, fun ρ => ?_, ⟨_, Tryz.underlying43, by kernel_rfl, by decide⟩, fun ks h => by cases h; exact ⟨by kernel_rfl, by kernel_rfl, rfl⟩⟩
  rw [show cellsL ρ ty43.zero = [.bool false, .string ⟨#[]⟩] from by simp only [ty43, cellsL, List.flatMap_cons, List.flatMap_nil, cells_zw, List.cons_append, List.nil_append]]
  kernel_rfl
def ty44 : TI := { size := 4, agg := true, zero := [zw, zw], sh := .struct [(0, 2, true), (2, 2, true)], eq := some [.b, .s, .b, .s] }
theorem ty44_ok : TIOk Tryz.prog 44 ty44 := by
  refine ⟨by kernel_rfl, by kernel_rfl, fun ρ => ?_, ⟨_, Tryz.underlying44, by kernel_rfl, by decide⟩, fun ks h => by cases h; exact ⟨by kernel_rfl, by kernel_rfl, rfl⟩⟩
  rw [show cellsL ρ ty44.zero = [.bool false, .string ⟨#[]⟩, .bool false, .string ⟨#[]⟩] from by simp only [ty44, cellsL, List.flatMap_cons, List.flatMap_nil, cells_zw, List.cons_append, List.nil_append]]
  kernel_rfl
def ty45 : TI := { size := 4, agg := true, zero := [zw, zw], sh := .struct [(0, 2, true), (2, 2, true)], eq := some [.b, .s, .b, .s] }
theorem ty45_ok : TIOk Tryz.prog 45 ty45 := by
  refine ⟨by kernel_rfl, by kernel_rfl, fun ρ => ?_, ⟨_, Tryz.underlying45, by kernel_rfl, by decide⟩, fun ks h => by cases h; exact ⟨by kernel_rfl, by kernel_rfl, rfl⟩⟩
  rw [show cellsL ρ ty45.zero = [.bool false, .string ⟨#[]⟩, .bool false, .string ⟨#[]⟩] from by simp only [ty45, cellsL, List.flatMap_cons, List.flatMap_nil, cells_zw, List.cons_append, List.nil_append]]
  kernel_rfl
def ty50 : TI := { size := 1, agg := false, zero := [.val (.slice none 0 0)], sh := .slice 3 1 [zi], eq := none }
theorem ty50_ok : TIOk Tryz.prog 50 ty50 := by
  refine ⟨by kernel_rfl, by kernel_rfl, fun ρ => ?_, ⟨Tryz.underlying50, by kernel_rfl, by kernel_rfl, by decide, by kernel_rfl, fun ρ => ⟨by rw [show cellsL ρ [zi] = [.int .i64 0] from by simp only [cellsL, List.flatMap_cons, List.flatMap_nil, cells_zi, List.cons_append, List.nil_append]]; kernel_rfl, by rw [show cellsL ρ [zi] = [.int .i64 0] from by simp only [cellsL, List.flatMap_cons, List.flatMap_nil, cells_zi, List.cons_append, List.nil_append]]; rfl⟩⟩, (fun _ h => nomatch h)⟩
  rw [show cellsL ρ ty50.zero = [.slice none 0 0] from by simp only [ty50, cellsL, List.flatMap_cons, List.flatMap_nil, cells_val, List.cons_append, List.nil_append]]
  kernel_rfl
def ty60 : TI := { size := 6, agg := true, zero := [zw, zw, zw], sh := .array 3 2 true, eq := some [.b, .s, .b, .s, .b, .s] }
theorem ty60_ok : TIOk Tryz.prog 60 ty60 := by
  refine ⟨by kernel_rfl, by kernel_rfl, fun ρ => ?_, ⟨_, Tryz.underlying60, by kernel_rfl, by kernel_rfl, by decide⟩, fun ks h => by cases h; exact ⟨by kernel_rfl, by kernel_rfl, rfl⟩⟩
  rw [show cellsL ρ ty60.zero = [.bool false, .string ⟨#[]⟩, .bool false, .string ⟨#[]⟩, .bool false, .string ⟨#[]⟩] from by simp only [ty60, cellsL, List.flatMap_cons, List.flatMap_nil, cells_zw, List.cons_append, List.nil_append]]
  kernel_rfl
def ty61 : TI := { size := 6, agg := true, zero := [zw, zw, zw], sh := .array 3 2 true, eq := some [.b, .s, .b, .s, .b, .s] }
theorem ty61_ok : TIOk Tryz.prog 61 ty61 := by
  refine ⟨by kernel_rfl, by kernel_rfl, fun ρ => ?_, ⟨_, Tryz.underlying61, by kernel_rfl, by kernel_rfl, by decide⟩, fun ks h => by cases h; exact ⟨by kernel_rfl, by kernel_rfl, rfl⟩⟩
  rw [show cellsL ρ ty61.zero = [.bool false, .string ⟨#[]⟩, .bool false, .string ⟨#[]⟩, .bool false, .string ⟨#[]⟩] from by simp only [ty61, cellsL, List.flatMap_cons, List.flatMap_nil, cells_zw, List.cons_append, List.nil_append]]
  kernel_rfl
def ty75 : TI := { size := 1, agg := false, zero := [.val (.int .u64 0)], sh := .int .u64, eq := none }
theorem ty75_ok : TIOk Tryz.prog 75 ty75 := by
  refine ⟨by kernel_rfl, by kernel_rfl, fun ρ => ?_, Tryz.underlying75, (fun _ h => nomatch h)⟩
  rw [show cellsL ρ ty75.zero = [.int .u64 0] from by simp only [ty75, cellsL, List.flatMap_cons, List.flatMap_nil, cells_val, List.cons_append, List.nil_append]]
  kernel_rfl
def ty77 : TI := { size := 18, agg := true, zero := [zi, zi, zi, zi, zi, zi, zi, zi, zi, zi, zi, zi, zi, zi, zi, zi, zi, zi], sh := .array 6 3 true, eq := some [.i .i64, .i .i64, .i .i64, .i .i64, .i .i64, .i .i64, .i .i64, .i .i64, .i .i64, .i .i64, .i .i64, .i .i64, .i .i64, .i .i64, .i .i64, .i .i64, .i .i64, .i .i64] }
theorem ty77_ok : TIOk Tryz.prog 77 ty77 := by
  refine ⟨by kernel_rfl, by kernel_rfl, fun ρ => ?_, ⟨_, Tryz.underlying77, by kernel_rfl, by kernel_rfl, by decide⟩, fun ks h => by cases h; exact ⟨by kernel_rfl, by kernel_rfl, rfl⟩⟩
  rw [show cellsL ρ ty77.zero = [.int .i64 0, .int .i64 0, .int .i64 0, .int .i64 0, .int .i64 0, .int .i64 0, .int .i64 0, .int .i64 0, .int .i64 0, .int .i64 0, .int .i64 0, .int .i64 0, .int .i64 0, .int .i64 0, .int .i64 0, .int .i64 0, .int .i64 0, .int .i64 0] from by simp only [ty77, cellsL, List.flatMap_cons, List.flatMap_nil, cells_zi, List.cons_append, List.nil_append]]
  kernel_rfl
def ty79 : TI := { size := 1, agg := false, zero := [.val (.slice none 0 0)], sh := .slice 82 6 [zi, zi, zi, zi, zi, zi], eq := none }
theorem ty79_ok : TIOk Tryz.prog 79 ty79 := by
  refine ⟨by kernel_rfl, by kernel_rfl, fun ρ => ?_, ⟨Tryz.underlying79, by kernel_rfl, by kernel_rfl, by decide, by kernel_rfl, fun ρ => ⟨by rw [show cellsL ρ [zi, zi, zi, zi, zi, zi] = [.int .i64 0, .int .i64 0, .int .i64 0, .int .i64 0, .int .i64 0, .int .i64 0] from by simp only [cellsL, List.flatMap_cons, List.flatMap_nil, cells_zi, List.cons_append, List.nil_append]]; kernel_rfl, by rw [show cellsL ρ [zi, zi, zi, zi, zi, zi] = [.int .i64 0, .int .i64 0, .int .i64 0, .int .i64 0, .int .i64 0, .int .i64 0] from by simp only [cellsL, List.flatMap_cons, List.flatMap_nil, cells_zi, List.cons_append, List.nil_append]]; rfl⟩⟩, (fun _ h => nomatch h)⟩
  rw [show cellsL ρ ty79.zero = [.slice none 0 0] from by simp only [ty79, cellsL, List.flatMap_cons, List.flatMap_nil, cells_val, List.cons_append, List.nil_append]]
  kernel_rfl
def ty82 : TI := { size := 6, agg := true, zero := [zi, zi, zi, zi, zi, zi], sh := .array 2 3 true, eq := some [.i .i64, .i .i64, .i .i64, .i .i64, .i .i64, .i .i64] }
theorem ty82_ok : TIOk Tryz.prog 82 ty82 := by
  refine ⟨by kernel_rfl, by kernel_rfl, fun ρ => ?_, ⟨_, Tryz.underlying82, by kernel_rfl, by kernel_rfl, by decide⟩, fun ks h => by cases h; exact ⟨by kernel_rfl, by kernel_rfl, rfl⟩⟩
  rw [show cellsL ρ ty82.zero = [.int .i64 0, .int .i64 0, .int .i64 0, .int .i64 0, .int .i64 0, .int .i64 0] from by simp only [ty82, cellsL, List.flatMap_cons, List.flatMap_nil, cells_zi, List.cons_append, List.nil_append]]
  kernel_rfl
def ty85 : TI := { size := 18, agg := true, zero := [zw, zw, zw, zw, zw, zw, zw, zw, zw], sh := .array 3 6 true, eq := some [.b, .s, .b, .s, .b, .s, .b, .s, .b, .s, .b, .s, .b, .s, .b, .s, .b, .s] }
theorem ty85_ok : TIOk Tryz.prog 85 ty85 := by
  refine ⟨by kernel_rfl, by kernel_rfl, fun ρ => ?_, ⟨_, Tryz.underlying85, by kernel_rfl, by kernel_rfl, by decide⟩, fun ks h => by cases h; exact ⟨by kernel_rfl, by kernel_rfl, rfl⟩⟩
  rw [show cellsL ρ ty85.zero = [.bool false, .string ⟨#[]⟩, .bool false, .string ⟨#[]⟩, .bool false, .string ⟨#[]⟩, .bool false, .string ⟨#[]⟩, .bool false, .string ⟨#[]⟩, .bool false, .string ⟨#[]⟩, .bool false, .string ⟨#[]⟩, .bool false, .string ⟨#[]⟩, .bool false, .string ⟨#[]⟩] from by simp only [ty85, cellsL, List.flatMap_cons, List.flatMap_nil, cells_zw, List.cons_append, List.nil_append]]
  kernel_rfl
def ty91 : TI := { size := 1, agg := false, zero := [.val (.int .u64 0)], sh := .int .u64, eq := none }
theorem ty91_ok : TIOk Tryz.prog 91 ty91 := by
  refine ⟨by kernel_rfl, by kernel_rfl, fun ρ => ?_, Tryz.underlying91, (fun _ h => nomatch h)⟩
  rw [show cellsL ρ ty91.zero = [.int .u64 0] from by simp only [ty91, cellsL, List.flatMap_cons, List.flatMap_nil, cells_val, List.cons_append, List.nil_append]]
  kernel_rfl
def ty92 : TI := { size := 1, agg := false, zero := [.val (.slice none 0 0)], sh := .slice 91 1 [.val (.int .u64 0)], eq := none }
theorem ty92_ok : TIOk Tryz.prog 92 ty92 := by
  refine ⟨by kernel_rfl, by kernel_rfl, fun ρ => ?_, ⟨Tryz.underlying92, by kernel_rfl, by kernel_rfl, by decide, by kernel_rfl, fun ρ => ⟨by rw [show cellsL ρ [.val (.int .u64 0)] = [.int .u64 0] from by simp only [cellsL, List.flatMap_cons, List.flatMap_nil, cells_val, List.cons_append, List.nil_append]]; kernel_rfl, by rw [show cellsL ρ [.val (.int .u64 0)] = [.int .u64 0] from by simp only [cellsL, List.flatMap_cons, List.flatMap_nil, cells_val, List.cons_append, List.nil_append]]; rfl⟩⟩, (fun _ h => nomatch h)⟩
  rw [show cellsL ρ ty92.zero = [.slice none 0 0] from by simp only [ty92, cellsL, List.flatMap_cons, List.flatMap_nil, cells_val, List.cons_append, List.nil_append]]
  kernel_rfl
def ty93 : TI := { size := 1, agg := false, zero := [.val (.slice none 0 0)], sh := .slice 91 1 [.val (.int .u64 0)], eq := none }
theorem ty93_ok : TIOk Tryz.prog 93 ty93 := by
  refine ⟨by kernel_rfl, by kernel_rfl, fun ρ => ?_, ⟨Tryz.underlying93, by kernel_rfl, by kernel_rfl, by decide, by kernel_rfl, fun ρ => ⟨by rw [show cellsL ρ [.val (.int .u64 0)] = [.int .u64 0] from by simp only [cellsL, List.flatMap_cons, List.flatMap_nil, cells_val, List.cons_append, List.nil_append]]; kernel_rfl, by rw [show cellsL ρ [.val (.int .u64 0)] = [.int .u64 0] from by simp only [cellsL, List.flatMap_cons, List.flatMap_nil, cells_val, List.cons_append, List.nil_append]]; rfl⟩⟩, (fun _ h => nomatch h)⟩
  rw [show cellsL ρ ty93.zero = [.slice none 0 0] from by simp only [ty93, cellsL, List.flatMap_cons, List.flatMap_nil, cells_val, List.cons_append, List.nil_append]]
  kernel_rfl
def ty103 : TI := { size := 24, agg := true, zero := [zi, zi, zi, zi, zi, zi, zi, zi, zi, zi, zi, zi, zi, zi, zi, zi, zi, zi, zi, zi, zi, zi, zi, zi], sh := .array 8 3 true, eq := some [.i .i64, .i .i64, .i .i64, .i .i64, .i .i64, .i .i64, .i .i64, .i .i64, .i .i64, .i .i64, .i .i64, .i .i64, .i .i64, .i .i64, .i .i64, .i .i64, .i .i64, .i .i64, .i .i64, .i .i64, .i .i64, .i .i64, .i .i64, .i .i64] }
theorem ty103_ok : TIOk Tryz.prog 103 ty103 := by
  refine ⟨by kernel_rfl, by kernel_rfl, fun ρ => ?_, ⟨_, Tryz.underlying103, by kernel_rfl, by kernel_rfl, by decide⟩, fun ks h => by cases h; exact ⟨by kernel_rfl, by kernel_rfl, rfl⟩⟩
  rw [show cellsL ρ ty103.zero = [.int .i64 0, .int .i64 0, .int .i64 0, .int .i64 0, .int .i64 0, .int .i64 0, .int .i64 0, .int .i64 0, .int .i64 0, .int .i64 0, .int .i64 0, .int .i64 0, .int .i64 0, .int .i64 0, .int .i64 0, .int .i64 0, .int .i64 0, .int .i64 0, .int .i64 0, .int .i64 0, .int .i64 0, .int .i64 0, .int .i64 0, .int .i64 0] from by simp only [ty103, cellsL, List.flatMap_cons, List.flatMap_nil, cells_zi, List.cons_append, List.nil_append]]
  kernel_rfl
def ty109 : TI := { size := 6, agg := true, zero := [zw, zw, zw], sh := .array 3 2 true, eq := some [.b, .s, .b, .s, .b, .s] }
theorem ty109_ok : TIOk Tryz.prog 109 ty109 := by
  refine ⟨by kernel_rfl, by kernel_rfl, fun ρ => ?_, ⟨_, Tryz.underlying109, by kernel_rfl, by kernel_rfl, by decide⟩, fun ks h => by cases h; exact ⟨by kernel_rfl, by kernel_rfl, rfl⟩⟩
  rw [show cellsL ρ ty109.zero = [.bool false, .string ⟨#[]⟩, .bool false, .string ⟨#[]⟩, .bool false, .string ⟨#[]⟩] from by simp only [ty109, cellsL, List.flatMap_cons, List.flatMap_nil, cells_zw, List.cons_append, List.nil_append]]
  kernel_rfl
def ty112 : TI := { size := 1, agg := false, zero := [.val (.slice none 0 0)], sh := .slice 43 2 [zw], eq := none }
theorem ty112_ok : TIOk Tryz.prog 112 ty112 := by
  refine ⟨by kernel_rfl, by kernel_rfl, fun ρ => ?_, ⟨Tryz.underlying112, by kernel_rfl, by kernel_rfl, by decide, by kernel_rfl, fun ρ => ⟨by rw [show cellsL ρ [zw] = [.bool false, .string ⟨#[]⟩] from by simp only [cellsL, List.flatMap_cons, List.flatMap_nil, cells_zw, List.cons_append, List.nil_append]]; kernel_rfl, by rw [show cellsL ρ [zw] = [.bool false, .string ⟨#[]⟩] from by simp only [cellsL, List.flatMap_cons, List.flatMap_nil, cells_zw, List.cons_append, List.nil_append]]; rfl⟩⟩, (fun _ h => nomatch h)⟩
  rw [show cellsL ρ ty112.zero = [.slice none 0 0] from by simp only [ty112, cellsL, List.flatMap_cons, List.flatMap_nil, cells_val, List.cons_append, List.nil_append]]
  kernel_rfl
def ty114 : TI := { size := 1, agg := false, zero := [.val (.slice none 0 0)], sh := .slice 5 1 [.val (.int .u8 0)], eq := none }
theorem ty114_ok : TIOk Tryz.prog 114 ty114 := by
  refine ⟨by kernel_rfl, by kernel_rfl, fun ρ => ?_, ⟨Tryz.underlying114, by kernel_rfl, by kernel_rfl, by decide, by kernel_rfl, fun ρ => ⟨by rw [show cellsL ρ [.val (.int .u8 0)] = [.int .u8 0] from by simp only [cellsL, List.flatMap_cons, List.flatMap_nil, cells_val, List.cons_append, List.nil_append]]; kernel_rfl, by rw [show cellsL ρ [.val (.int .u8 0)] = [.int .u8 0] from by simp only [cellsL, List.flatMap_cons, List.flatMap_nil, cells_val, List.cons_append, List.nil_append]]; rfl⟩⟩, (fun _ h => nomatch h)⟩
  rw [show cellsL ρ ty114.zero = [.slice none 0 0] from by simp only [ty114, cellsL, List.flatMap_cons, List.flatMap_nil, cells_val, List.cons_append, List.nil_append]]
  kernel_rfl
def ty124 : TI := { size := 3, agg := true, zero := [zi, zi, zi], sh := .array 3 1 false, eq := some [.i .i64, .i .i64, .i .i64] }
theorem ty124_ok : TIOk Tryz.prog 124 ty124 := by
  refine ⟨by kernel_rfl, by kernel_rfl, fun ρ => ?_, ⟨_, Tryz.underlying124, by kernel_rfl, by kernel_rfl, by decide⟩, fun ks h => by cases h; exact ⟨by kernel_rfl, by kernel_rfl, rfl⟩⟩
  rw [show cellsL ρ ty124.zero = [.int .i64 0, .int .i64 0, .int .i64 0] from by simp only [ty124, cellsL, List.flatMap_cons, List.flatMap_nil, cells_zi, List.cons_append, List.nil_append]]
  kernel_rfl
def ty128 : TI := { size := 3, agg := true, zero := [.val .nilFunc, .val .nilFunc, .val .nilFunc], sh := .array 3 1 false, eq := none }
theorem ty128_ok : TIOk Tryz.prog 128 ty128 := by
  refine ⟨by kernel_rfl, by kernel_rfl, fun ρ => ?_, ⟨_, Tryz.underlying128, by kernel_rfl, by kernel_rfl, by decide⟩, (fun _ h => nomatch h)⟩
  rw [show cellsL ρ ty128.zero = [.nilFunc, .nilFunc, .nilFunc] from by simp only [ty128, cellsL, List.flatMap_cons, List.flatMap_nil, cells_val, List.cons_append, List.nil_append]]
  kernel_rfl
def ty130 : TI := { size := 3, agg := true, zero := [zi, zi, zi], sh := .struct [(0, 1, false), (1, 1, false), (2, 1, false)], eq := some [.i .i64, .i .i64, .i .i64] }
theorem ty130_ok : TIOk Tryz.prog 130 ty130 := by
  refine ⟨by kernel_rfl, by kernel_rfl, fun ρ => ?_, ⟨_, Tryz.underlying130, by kernel_rfl, by decide⟩, fun ks h => by cases h; exact ⟨by kernel_rfl, by kernel_rfl, rfl⟩⟩
  rw [show cellsL ρ ty130.zero = [.int .i64 0, .int .i64 0, .int .i64 0] from by simp only [ty130, cellsL, List.flatMap_cons, List.flatMap_nil, cells_zi, List.cons_append, List.nil_append]]
  kernel_rfl
def ty162 : TI := { size := 32, agg := true, zero := [.val (.int .u8 0), .val (.int .u8 0), .val (.int .u8 0), .val (.int .u8 0), .val (.int .u8 0), .val (.int .u8 0), .val (.int .u8 0), .val (.int .u8 0), .val (.int .u8 0), .val (.int .u8 0), .val (.int .u8 0), .val (.int .u8 0), .val (.int .u8 0), .val (.int .u8 0), .val (.int .u8 0), .val (.int .u8 0), .val (.int .u8 0), .val (.int .u8 0), .val (.int .u8 0), .val (.int .u8 0), .val (.int .u8 0), .val (.int .u8 0), .val (.int .u8 0), .val (.int .u8 0), .val (.int .u8 0), .val (.int .u8 0), .val (.int .u8 0), .val (.int .u8 0), .val (.int .u8 0), .val (.int .u8 0), .val (.int .u8 0), .val (.int .u8 0)], sh := .array 16 2 true, eq := some [.i .u8, .i .u8, .i .u8, .i .u8, .i .u8, .i .u8, .i .u8, .i .u8, .i .u8, .i .u8, .i .u8, .i .u8, .i .u8, .i .u8, .i .u8, .i .u8, .i .u8, .i .u8, .i .u8, .i .u8, .i .u8, .i .u8, .i .u8, .i .u8, .i .u8, .i .u8, .i .u8, .i .u8, .i .u8, .i .u8, .i .u8, .i .u8] }
theorem ty162_ok : TIOk Tryz.prog 162 ty162 := by
  refine ⟨by kernel_rfl, by kernel_rfl, fun ρ => ?_, ⟨_, Tryz.underlying162, by kernel_rfl, by kernel_rfl, by decide⟩, fun ks h => by cases h; exact ⟨by kernel_rfl, by kernel_rfl, rfl⟩⟩
  rw [show cellsL ρ ty162.zero = [.int .u8 0, .int .u8 0, .int .u8 0, .int .u8 0, .int .u8 0, .int .u8 0, .int .u8 0, .int .u8 0, .int .u8 0, .int .u8 0, .int .u8 0, .int .u8 0, .int .u8 0, .int .u8 0, .int .u8 0, .int .u8 0, .int .u8 0, .int .u8 0, .int .u8 0, .int .u8 0, .int .u8 0, .int .u8 0, .int .u8 0, .int .u8 0, .int .u8 0, .int .u8 0, .int .u8 0, .int .u8 0, .int .u8 0, .int .u8 0, .int .u8 0, .int .u8 0] from by simp only [ty162, cellsL, List.flatMap_cons, List.flatMap_nil, cells_val, List.cons_append, List.nil_append]]
  kernel_rfl
def tyL : List (TypeId × TI) := [(2, ty2), (3, ty3), (4, ty4), (5, ty5), (9, ty9), (12, ty12), (21, ty21), (22, ty22), (24, ty24), (25, ty25), (26, ty26), (28, ty28), (30, ty30), (32, ty32), (35, ty35), (37, ty37), (38, ty38), (43, ty43), (44, ty44), (45, ty45), (50, ty50), (60, ty60), (61, ty61), (75, ty75), (77, ty77), (79, ty79), (82, ty82), (85, ty85), (91, ty91), (92, ty92), (93, ty93), (103, ty103), (109, ty109), (112, ty112), (114, ty114), (124, ty124), (128, ty128), (130, ty130), (162, ty162)]
def tyT (t : TypeId) : Option TI := lk tyL t
theorem tyT_ok : TOk Tryz.prog tyT := fun t ti h => by
  have h := lk_mem h
  simp only [tyL, List.mem_cons, List.not_mem_nil, or_false, Prod.mk.injEq] at h
  rcases h with ⟨rfl, rfl⟩ | ⟨rfl, rfl⟩ | ⟨rfl, rfl⟩ | ⟨rfl, rfl⟩ | ⟨rfl, rfl⟩ | ⟨rfl, rfl⟩ | ⟨rfl, rfl⟩ | ⟨rfl, rfl⟩ | ⟨rfl, rfl⟩ | ⟨rfl, rfl⟩ | ⟨rfl, rfl⟩ | ⟨rfl, rfl⟩ | ⟨rfl, rfl⟩ | ⟨rfl, rfl⟩ | ⟨rfl, rfl⟩ | ⟨rfl, rfl⟩ | ⟨rfl, rfl⟩ | ⟨rfl, rfl⟩ | ⟨rfl, rfl⟩ | ⟨rfl, rfl⟩ | ⟨rfl, rfl⟩ | ⟨rfl, rfl⟩ | ⟨rfl, rfl⟩ | ⟨rfl, rfl⟩ | ⟨rfl, rfl⟩ | ⟨rfl, rfl⟩ | ⟨rfl, rfl⟩ | ⟨rfl, rfl⟩ | ⟨rfl, rfl⟩ | ⟨rfl, rfl⟩ | ⟨rfl, rfl⟩ | ⟨rfl, rfl⟩ | ⟨rfl, rfl⟩ | ⟨rfl, rfl⟩ | ⟨rfl, rfl⟩ | ⟨rfl, rfl⟩ | ⟨rfl, rfl⟩ | ⟨rfl, rfl⟩ | ⟨rfl, rfl⟩
  · exact ty2_ok
  · exact ty3_ok
  · exact ty4_ok
  · exact ty5_ok
  · exact ty9_ok
  · exact ty12_ok
  · exact ty21_ok
  · exact ty22_ok
  · exact ty24_ok
  · exact ty25_ok
  · exact ty26_ok
  · exact ty28_ok
  · exact ty30_ok
  · exact ty32_ok
  · exact ty35_ok
  · exact ty37_ok
  · exact ty38_ok
  · exact ty43_ok
  · exact ty44_ok
  · exact ty45_ok
  · exact ty50_ok
  · exact ty60_ok
  · exact ty61_ok
  · exact ty75_ok
  · exact ty77_ok
  · exact ty79_ok
  · exact ty82_ok
  · exact ty85_ok
  · exact ty91_ok
  · exact ty92_ok
  · exact ty93_ok
  · exact ty103_ok
  · exact ty109_ok
  · exact ty112_ok
  · exact ty114_ok
  · exact ty124_ok
  · exact ty128_ok
  · exact ty130_ok
  · exact ty162_ok
end Go.Proofs.YtocbklodkcdhkaaGreatDoor

namespace Go.Proofs.YtocbklodkcdhkaaGreatDoor
open Go.RowKit

abbrev Dn := List SV → Option (Option Prop × SV)
def SpOk (P : Program) (f : FuncId) (d : Dn) : Prop := Callable P f ∧ ∀ args p v, d args = some (p, v) → (∀ ρ ρ', v.den ρ = v.den ρ') ∧
  ((∀ q, p = some q → q) → ∀ ρ w, Calls P f (args.map (SV.den ρ)).toArray w fun e w' => e = .returned (v.den ρ) ∧ Below w.heap.size w w')
def lkD : List (FuncId × Dn) → FuncId → Dn
  | [], _, _ => none
  | (g, d) :: l, f, args => if f = g then d args else lkD l f args
def env (un : Nat) (l : List (FuncId × Dn)) : Env where
  T := tyT
  un := un
  D := fun f args _ => lkD l f args
  O := oAppend tyT
def AllOk (l : List (FuncId × Dn)) : Prop := ∀ x ∈ l, SpOk Tryz.prog x.1 x.2
theorem AllOk.nil : AllOk [] := fun x hx => by simp at hx
theorem AllOk.cons {f : FuncId} {d : Dn} {l : List (FuncId × Dn)} (h : SpOk Tryz.prog f d) (hl : AllOk l) : AllOk ((f, d) :: l) := fun x hx => by
  rcases List.mem_cons.1 hx with rfl | hx
  · exact h
  · exact hl x hx
theorem lkD_ok {l : List (FuncId × Dn)} (hl : AllOk l) : ∀ {f : FuncId} {args : List SV} {r}, lkD l f args = some r → ∃ d, SpOk Tryz.prog f d ∧ d args = some r := by
  intro f args r h
  induction l with
  | nil => simp [lkD] at h
  | cons x l ih =>
    obtain ⟨g, d⟩ := x
    unfold lkD at h
    split at h
    · rename_i e; rw [e]; exact ⟨d, hl (g, d) List.mem_cons_self, h⟩
    · exact ih (fun y hy => hl y (List.mem_cons_of_mem _ hy)) h
theorem env_ok {l : List (FuncId × Dn)} (hl : AllOk l) (un : Nat) : EOk Tryz.prog (env un l) where
  T := tyT_ok
  D f args hf p v h := by
    obtain ⟨d, hd, hr⟩ := lkD_ok hl h
    obtain ⟨h1, h2⟩ := hd.2 args p v hr
    exact ⟨hd.1, h1, fun hp ρ w _ => h2 hp ρ w⟩
  O := oAppend_ok tyT_ok
set_option maxRecDepth 100000 in
theorem mixed : Tryz.prog.follows .mixedOrders = true := by kernel_rfl

theorem gives_sp {k : Nat} {z : Int} {w : World} {e : Ending} {w' : World} (h : GivesW k z w e w') (ρ : Rho) {j : Nat} (hz : Sm j z) : e = .returned ((SV.agg [.wid j z hz]).den ρ) ∧ Below w.heap.size w w' := by
  obtain ⟨b, s, h1, ⟨rfl, rfl⟩, -, h4⟩ := h
  exact ⟨h1, h4⟩
theorem num_wid {k : Nat} {z : Int} (h : Sm k z) : Num (k + 7) (decide (z < 0)) ⟨(mag z.natAbs).toArray⟩ z := Can.num ⟨rfl, rfl⟩ h
theorem sm_addj {j k : Nat} {y z : Int} (h : Sm j y) (h' : Sm k z) : Sm (j + k + 1) (y + z) := (h.mono (by omega : j ≤ j + k)).add (h'.mono (by omega : k ≤ j + k))
theorem sm_subj {j k : Nat} {y z : Int} (h : Sm j y) (h' : Sm k z) : Sm (j + k + 1) (y - z) := (h.mono (by omega : j ≤ j + k)).sub (h'.mono (by omega : k ≤ j + k))
def dFrom : Dn
  | [.c (.int n h)] => some (none, .agg [.wid 64 n (Sm.int h.1 h.2)])
  | _ => none
def dMul : Dn
  | [.agg [.wid j y hy], .agg [.wid k z hz]] => if j ≤ 80000000 ∧ k ≤ 80000000 then some (none, .agg [.wid (j + k) (y * z) (hy.mul hz)]) else none
  | _ => none
def dAdd : Dn
  | [.agg [.wid j y hy], .agg [.wid k z hz]] => if j ≤ 80000000 ∧ k ≤ 80000000 then some (none, .agg [.wid (j + k + 1) (y + z) (sm_addj hy hz)]) else none
  | _ => none
def dSub : Dn
  | [.agg [.wid j y hy], .agg [.wid k z hz]] => if j ≤ 80000000 ∧ k ≤ 80000000 then some (none, .agg [.wid (j + k + 1) (y - z) (sm_subj hy hz)]) else none
  | _ => none
def dNeg : Dn
  | [.agg [.wid j y hy]] => if j ≤ 80000000 then some (none, .agg [.wid j (-y) hy.neg]) else none
  | _ => none
theorem wid_args2 {j k : Nat} {y z : Int} (hy : Sm j y) (hz : Sm k z) (ρ : Rho) : (([.agg [.wid j y hy], .agg [.wid k z hz]] : List SV).map (SV.den ρ)).toArray =
    #[.agg #[.bool (decide (y < 0)), .string ⟨(mag y.natAbs).toArray⟩], .agg #[.bool (decide (z < 0)), .string ⟨(mag z.natAbs).toArray⟩]] := rfl
theorem spFrom {f : FuncId} (hc : Callable Tryz.prog f) (h : ∀ n, -9223372036854775808 ≤ n → n ≤ 9223372036854775807 → ∀ w, Calls Tryz.prog f #[.int .i64 n] w (GivesW 71 n w)) : SpOk Tryz.prog f dFrom := by
  refine ⟨hc, fun args p v hd => ?_⟩
  unfold dFrom at hd
  split at hd
  · rename_i n hn
    cases hd
    exact ⟨fun _ _ => rfl, fun _ ρ w => (h n hn.1 hn.2 w).mono fun e w' he => gives_sp he ρ _⟩
  · cases hd
theorem spMul {f : FuncId} (hc : Callable Tryz.prog f) (h : ∀ {k1 k2 : Nat} {b1 b2 : Bool} {s1 s2 : ByteArray} {z1 z2 : Int}, Num k1 b1 s1 z1 → Num k2 b2 s2 z2 → k1 ≤ 90000000 → k2 ≤ 90000000 → ∀ w, Calls Tryz.prog f #[.agg #[.bool b1, .string s1], .agg #[.bool b2, .string s2]] w (GivesW (k1 + k2 + 7) (z1 * z2) w)) :
    SpOk Tryz.prog f dMul := by
  refine ⟨hc, fun args p v hd => ?_⟩
  unfold dMul at hd
  split at hd
  · rename_i j y hy k z hz
    split at hd
    · rename_i hjk
      cases hd
      refine ⟨fun _ _ => rfl, fun _ ρ w => ?_⟩
      rw [wid_args2]
      exact (h (num_wid hy) (num_wid hz) (by omega) (by omega) w).mono fun e w' he => gives_sp he ρ _
    · cases hd
  · cases hd
theorem spAdd {f : FuncId} (hc : Callable Tryz.prog f) (h : ∀ {k1 k2 : Nat} {b1 b2 : Bool} {s1 s2 : ByteArray} {z1 z2 : Int}, Num k1 b1 s1 z1 → Num k2 b2 s2 z2 → k1 ≤ 90000000 → k2 ≤ 90000000 → ∀ w, Calls Tryz.prog f #[.agg #[.bool b1, .string s1], .agg #[.bool b2, .string s2]] w (GivesW (k1 + k2 + 8) (z1 + z2) w)) :
    SpOk Tryz.prog f dAdd := by
  refine ⟨hc, fun args p v hd => ?_⟩
  unfold dAdd at hd
  split at hd
  · rename_i j y hy k z hz
    split at hd
    · rename_i hjk
      cases hd
      refine ⟨fun _ _ => rfl, fun _ ρ w => ?_⟩
      rw [wid_args2]
      exact (h (num_wid hy) (num_wid hz) (by omega) (by omega) w).mono fun e w' he => gives_sp he ρ _
    · cases hd
  · cases hd
theorem spSub {f : FuncId} (hc : Callable Tryz.prog f) (h : ∀ {k1 k2 : Nat} {b1 b2 : Bool} {s1 s2 : ByteArray} {z1 z2 : Int}, Num k1 b1 s1 z1 → Num k2 b2 s2 z2 → k1 ≤ 90000000 → k2 ≤ 90000000 → ∀ w, Calls Tryz.prog f #[.agg #[.bool b1, .string s1], .agg #[.bool b2, .string s2]] w (GivesW (k1 + k2 + 15) (z1 - z2) w)) :
    SpOk Tryz.prog f dSub := by
  refine ⟨hc, fun args p v hd => ?_⟩
  unfold dSub at hd
  split at hd
  · rename_i j y hy k z hz
    split at hd
    · rename_i hjk
      cases hd
      refine ⟨fun _ _ => rfl, fun _ ρ w => ?_⟩
      rw [wid_args2]
      exact (h (num_wid hy) (num_wid hz) (by omega) (by omega) w).mono fun e w' he => gives_sp he ρ _
    · cases hd
  · cases hd
theorem spNeg {f : FuncId} (hc : Callable Tryz.prog f) (h : ∀ {k1 : Nat} {b1 : Bool} {s1 : ByteArray} {z1 : Int}, Num k1 b1 s1 z1 → k1 ≤ 90000000 → ∀ w, Calls Tryz.prog f #[.agg #[.bool b1, .string s1]] w (GivesW (k1 + 7) (-z1) w)) :
    SpOk Tryz.prog f dNeg := by
  refine ⟨hc, fun args p v hd => ?_⟩
  unfold dNeg at hd
  split at hd
  · rename_i j y hy
    split at hd
    · rename_i hjk
      cases hd
      refine ⟨fun _ _ => rfl, fun _ ρ w => ?_⟩
      exact (h (num_wid hy) (by omega) w).mono fun e w' he => gives_sp he ρ _
    · cases hd
  · cases hd

def base : List (FuncId × Dn) := [(24, dFrom), (30, dMul), (67, dAdd), (50, dSub), (71, dNeg), (34, dFrom), (57, dNeg)]
theorem base_ok : AllOk base := .cons (spFrom ⟨_, Tryz.func24, by kernel_rfl, by kernel_rfl⟩ From_any) <| .cons (spMul ⟨_, Tryz.func30, by kernel_rfl, by kernel_rfl⟩ fun h1 h2 h3 h4 w => Mul_any h1 h2 (by omega) (by omega) w) <| .cons (spAdd ⟨_, Tryz.func67, by kernel_rfl, by kernel_rfl⟩ fun h1 h2 h3 h4 w => Add_any h1 h2 (by omega) (by omega) w) <| .cons (spSub ⟨_, Tryz.func50, by kernel_rfl, by kernel_rfl⟩ fun h1 h2 h3 h4 w => Sub_any h1 h2 (by omega) (by omega) w) <| .cons (spNeg ⟨_, Tryz.func71, by kernel_rfl, by kernel_rfl⟩ fun h1 h2 w => Neg_any h1 (by omega) w) <| .cons (spFrom ⟨_, Tryz.func34, by kernel_rfl, by kernel_rfl⟩ RFrom_any) <| .cons (spNeg ⟨_, Tryz.func57, by kernel_rfl, by kernel_rfl⟩ fun h1 h2 w => RNeg_any h1 (by omega) w) <| .nil
/-- functions that are walked in place -/
theorem sp_of {f : FuncId} {fn : Func} (hf : FnOk Tryz.prog f fn) {un : Nat} {l : List (FuncId × Dn)} (hl : AllOk l) {F : FuncId → Option Func} (hF : ∀ f fn, F f = some fn → FnOk Tryz.prog f fn) {n : Nat} {d : Dn}
    (h : ∀ args p v, d args = some (p, v) → (∀ ρ ρ', v.den ρ = v.den ρ') ∧ (∀ ρ ρ', args.map (SV.den ρ) = args.map (SV.den ρ')) ∧ ((∀ q, p = some q → q) → vcF (env un l) (inl (env un l) F n) fn args [] fun u _ => ∀ ρ, u.den ρ = v.den ρ)) : SpOk Tryz.prog f d :=
  ⟨hf.callable, fun args p v hd => by
    obtain ⟨h1, h2, h3⟩ := h args p v hd
    exact ⟨h1, fun hp ρ w => pure_ok (env_ok hl un) mixed hF hf h1 h2 (h3 hp) ρ w⟩⟩
theorem sp_of2 {f : FuncId} {fn : Func} (hf : FnOk Tryz.prog f fn) {un : Nat} {l : List (FuncId × Dn)} (hl : AllOk l) {F : FuncId → Option Func} (hF : ∀ f fn, F f = some fn → FnOk Tryz.prog f fn) {n : Nat} {d : Dn}
    (h : ∀ args p v, d args = some (p, v) → ∃ args', (∀ ρ, args.map (SV.den ρ) = args'.map (SV.den ρ)) ∧ (∀ ρ ρ', v.den ρ = v.den ρ') ∧ (∀ ρ ρ', args'.map (SV.den ρ) = args'.map (SV.den ρ')) ∧
      ((∀ q, p = some q → q) → vcF (env un l) (inl (env un l) F n) fn args' [] fun u _ => ∀ ρ, u.den ρ = v.den ρ)) : SpOk Tryz.prog f d :=
  ⟨hf.callable, fun args p v hd => by
    obtain ⟨args', h0, h1, h2, h3⟩ := h args p v hd
    exact ⟨h1, fun hp ρ w => by rw [h0]; exact pure_ok (env_ok hl un) mixed hF hf h1 h2 (h3 hp) ρ w⟩⟩
def noF : FuncId → Option Func := fun _ => none
theorem noF_ok : ∀ f fn, noF f = some fn → FnOk Tryz.prog f fn := fun f fn h => by cases h
theorem lkF_ok {l : List (FuncId × Func)} (hl : ∀ x ∈ l, FnOk Tryz.prog x.1 x.2) : ∀ f fn, lk l f = some fn → FnOk Tryz.prog f fn := fun _ _ h => hl _ (lk_mem h)
end Go.Proofs.YtocbklodkcdhkaaGreatDoor

namespace Go.Proofs.YtocbklodkcdhkaaGreatDoor
open Go.RowKit
set_option maxRecDepth 100000

theorem smI {n : Int} (h : IR n) : Sm 64 n := Sm.int h.1 h.2
def dX : Dn
  | [.agg [.int x hx, .int _ _, .int _ _]] => some (none, .c (.int x hx))
  | _ => none
def dY : Dn
  | [.agg [.int _ _, .int y hy, .int _ _]] => some (none, .c (.int y hy))
  | _ => none
def dZ : Dn
  | [.agg [.int _ _, .int _ _, .int z hz]] => some (none, .c (.int z hz))
  | _ => none
theorem spX : SpOk Tryz.prog 96 dX := sp_of (un := 20) (n := 0) ⟨Tryz.func96, by kernel_rfl, by kernel_rfl⟩ base_ok noF_ok fun args p v hd => by
  unfold dX at hd
  split at hd
  · cases hd
    refine ⟨fun _ _ => rfl, fun _ _ => rfl, fun _ => ?_⟩
    conv => whnf
    exact fun _ => rfl
  · cases hd
theorem spY : SpOk Tryz.prog 97 dY := sp_of (un := 20) (n := 0) ⟨Tryz.func97, by kernel_rfl, by kernel_rfl⟩ base_ok noF_ok fun args p v hd => by
  unfold dY at hd
  split at hd
  · cases hd
    refine ⟨fun _ _ => rfl, fun _ _ => rfl, fun _ => ?_⟩
    conv => whnf
    exact fun _ => rfl
  · cases hd
theorem spZ : SpOk Tryz.prog 98 dZ := sp_of (un := 20) (n := 0) ⟨Tryz.func98, by kernel_rfl, by kernel_rfl⟩ base_ok noF_ok fun args p v hd => by
  unfold dZ at hd
  split at hd
  · cases hd
    refine ⟨fun _ _ => rfl, fun _ _ => rfl, fun _ => ?_⟩
    conv => whnf
    exact fun _ => rfl
  · cases hd
def base1 : List (FuncId × Dn) := (96, dX) :: (97, dY) :: (98, dZ) :: base
theorem base1_ok : AllOk base1 := .cons spX <| .cons spY <| .cons spZ base_ok
noncomputable def fx1 : FuncId → Option Func := lk [(81, Tryz.f81), (82, Tryz.f82)]
theorem fx1_ok : ∀ f fn, fx1 f = some fn → FnOk Tryz.prog f fn := lkF_ok fun x hx => by
  simp only [List.mem_cons, List.not_mem_nil, or_false] at hx
  rcases hx with rfl | rfl
  · exact ⟨Tryz.func81, by kernel_rfl, by kernel_rfl⟩
  · exact ⟨Tryz.func82, by kernel_rfl, by kernel_rfl⟩
def dFar : Dn
  | [.agg [.int x1 h1, .int y1 h2, .int z1 h3], .agg [.int x2 h4, .int y2 h5, .int z2 h6]] =>
    some (none, .agg [.wid 129 (x2 - x1) (sm_subj (smI h4) (smI h1)), .wid 129 (y2 - y1) (sm_subj (smI h5) (smI h2)), .wid 129 (z2 - z1) (sm_subj (smI h6) (smI h3))])
  | _ => none
theorem spFar : SpOk Tryz.prog 65 dFar := sp_of (un := 20) (n := 3) ⟨Tryz.func65, by kernel_rfl, by kernel_rfl⟩ base1_ok fx1_ok fun args p v hd => by
  unfold dFar at hd
  split at hd
  · cases hd
    refine ⟨fun _ _ => rfl, fun _ _ => rfl, fun _ => ?_⟩
    conv => whnf
    exact fun _ => rfl
  · cases hd
end Go.Proofs.YtocbklodkcdhkaaGreatDoor

namespace Go.Proofs.YtocbklodkcdhkaaGreatDoor
open Go.RowKit

abbrev Dr := List SV → (Nat → Option Blk) → Option (Option Prop × SV)
def SpR (P : Program) (f : FuncId) (d : Dr) : Prop := Callable P f ∧ ∀ args hf p v, d args hf = some (p, v) → (∀ ρ ρ', v.den ρ = v.den ρ') ∧
  ((∀ q, p = some q → q) → ∀ ρ w, (∀ b blk, hf b = some blk → Holds ρ blk b w) → Calls P f (args.map (SV.den ρ)).toArray w fun e w' => e = .returned (v.den ρ) ∧ Below w.heap.size w w')
def lkR : List (FuncId × Dr) → FuncId → Dr
  | [], _, _, _ => none
  | (g, d) :: l, f, args, hf => if f = g then d args hf else lkR l f args hf
def envR (un : Nat) (l : List (FuncId × Dn)) (r : List (FuncId × Dr)) : Env where
  T := tyT
  un := un
  D := fun f args hf => match lkD l f args with | some x => some x | none => lkR r f args hf
  O := oAppend tyT
def AllR (l : List (FuncId × Dr)) : Prop := ∀ x ∈ l, SpR Tryz.prog x.1 x.2
theorem AllR.nil : AllR [] := fun x hx => by simp at hx
theorem AllR.cons {f : FuncId} {d : Dr} {l : List (FuncId × Dr)} (h : SpR Tryz.prog f d) (hl : AllR l) : AllR ((f, d) :: l) := fun x hx => by
  rcases List.mem_cons.1 hx with rfl | hx
  · exact h
  · exact hl x hx
theorem lkR_ok {l : List (FuncId × Dr)} (hl : AllR l) : ∀ {f : FuncId} {args : List SV} {hf} {r}, lkR l f args hf = some r → ∃ d, SpR Tryz.prog f d ∧ d args hf = some r := by
  intro f args hf r h
  induction l with
  | nil => simp [lkR] at h
  | cons x l ih =>
    obtain ⟨g, d⟩ := x
    unfold lkR at h
    split at h
    · rename_i e; rw [e]; exact ⟨d, hl (g, d) List.mem_cons_self, h⟩
    · exact ih (fun y hy => hl y (List.mem_cons_of_mem _ hy)) h
theorem envR_ok {l : List (FuncId × Dn)} (hl : AllOk l) {r : List (FuncId × Dr)} (hr : AllR r) (un : Nat) : EOk Tryz.prog (envR un l r) where
  T := tyT_ok
  D f args hf p v h := by
    unfold envR at h
    simp only at h
    split at h
    · rename_i x hx
      cases h
      obtain ⟨d, hd, he⟩ := lkD_ok hl hx
      obtain ⟨h1, h2⟩ := hd.2 args p v he
      exact ⟨hd.1, h1, fun hp ρ w _ => h2 hp ρ w⟩
    · obtain ⟨d, hd, he⟩ := lkR_ok hr h
      obtain ⟨h1, h2⟩ := hd.2 args hf p v he
      exact ⟨hd.1, h1, h2⟩
  O := oAppend_ok tyT_ok
theorem sp_of3 {f : FuncId} {fn : Func} (hf : FnOk Tryz.prog f fn) {un : Nat} {l : List (FuncId × Dn)} (hl : AllOk l) {r : List (FuncId × Dr)} (hr : AllR r) {F : FuncId → Option Func} (hF : ∀ f fn, F f = some fn → FnOk Tryz.prog f fn) {n : Nat} {d : Dn}
    (h : ∀ args p v, d args = some (p, v) → ∃ args', (∀ ρ, args.map (SV.den ρ) = args'.map (SV.den ρ)) ∧ (∀ ρ ρ', v.den ρ = v.den ρ') ∧ (∀ ρ ρ', args'.map (SV.den ρ) = args'.map (SV.den ρ')) ∧
      ((∀ q, p = some q → q) → vcF (envR un l r) (inl (envR un l r) F n) fn args' [] fun u _ => ∀ ρ, u.den ρ = v.den ρ)) : SpOk Tryz.prog f d :=
  ⟨hf.callable, fun args p v hd => by
    obtain ⟨args', h0, h1, h2, h3⟩ := h args p v hd
    exact ⟨h1, fun hp ρ w => by rw [h0]; exact pure_ok (envR_ok hl hr un) mixed hF hf h1 h2 (h3 hp) ρ w⟩⟩

/-- what is the same denotes the same -/
theorem stm : ∀ l : List SV, SameTm l l
  | [] => trivial
  | _ :: l => ⟨fun _ => rfl, stm l⟩
/-- a point, a triangle -/
structure PT where
  x : Int
  y : Int
  z : Int
  hx : IR x
  hy : IR y
  hz : IR z
structure TR where
  a : PT
  b : PT
  c : PT
def ptC (p : PT) : List C := [.int p.x p.hx, .int p.y p.hy, .int p.z p.hz]
def trC (t : TR) : List C := [.int t.a.x t.a.hx, .int t.a.y t.a.hy, .int t.a.z t.a.hz, .int t.b.x t.b.hx, .int t.b.y t.b.hy, .int t.b.z t.b.hz, .int t.c.x t.c.hx, .int t.c.y t.c.hy, .int t.c.z t.c.hz]
def trsC : List TR → List C
  | [] => []
  | t :: l => trC t ++ trsC l
/-- triangles out of cells -/
def toTrs : List C → Option (List TR)
  | [] => some []
  | .int x1 h1 :: .int y1 h2 :: .int z1 h3 :: .int x2 h4 :: .int y2 h5 :: .int z2 h6 :: .int x3 h7 :: .int y3 h8 :: .int z3 h9 :: l =>
    (match toTrs l with | some m => some (⟨⟨x1, y1, z1, h1, h2, h3⟩, ⟨x2, y2, z2, h4, h5, h6⟩, ⟨x3, y3, z3, h7, h8, h9⟩⟩ :: m) | none => none)
  | _ => none
theorem toTrs_ok : ∀ {l : List C} {m : List TR}, toTrs l = some m → l = trsC m := by
  intro l
  induction l using toTrs.induct with
  | case1 => intro m h; simp [toTrs] at h; subst h; rfl
  | case2 x1 h1 y1 h2 z1 h3 x2 h4 y2 h5 z2 h6 x3 h7 y3 h8 z3 h9 l m' hm ih =>
    intro m h
    simp only [toTrs, hm, Option.some.injEq] at h
    subst h
    rw [ih hm]; rfl
  | case3 x1 h1 y1 h2 z1 h3 x2 h4 y2 h5 z2 h6 x3 h7 y3 h8 z3 h9 l hm ih =>
    intro m h
    simp [toTrs, hm] at h
  | case4 l h1 h2 =>
    intro m h
    rw [toTrs] at h
    · cases h
    all_goals assumption
theorem toTrs_trs : ∀ m : List TR, toTrs (trsC m) = some m
  | [] => rfl
  | t :: m => by simp [trsC, trC, toTrs, toTrs_trs m]
theorem trsC_size : ∀ l : List TR, sizeC (trsC l) = 9 * l.length
  | [] => rfl
  | t :: l => by rw [trsC, sizeC_append, trsC_size l]; simp [trC, sizeC, C.n]; omega
theorem trsC_pure : ∀ (l : List TR) (ρ ρ' : Rho), cellsL ρ (trsC l) = cellsL ρ' (trsC l)
  | [], _, _ => rfl
  | t :: l, ρ, ρ' => by rw [trsC, cellsL_append, cellsL_append, trsC_pure l ρ ρ']; rfl
theorem takeC_app : ∀ (a b : List C), takeC (sizeC a) (a ++ b) = some (a, b)
  | [], b => by cases b <;> rfl
  | x :: a, b => by
    have hx : 0 < x.n := by cases x <;> simp [C.n]
    have e : sizeC (x :: a) = (x.n + sizeC a - 1) + 1 := by simp [sizeC]; omega
    rw [e, List.cons_append, takeC, if_pos (by omega), show x.n + sizeC a - 1 + 1 - x.n = sizeC a by omega, takeC_app a b]
theorem subC_app (a m b : List C) : subC (a ++ (m ++ b)) (sizeC a) (sizeC m) = some m := by
  unfold subC
  rw [takeC_app]
  simp only
  rw [takeC_app]
theorem trsC_append (a b : List TR) : trsC (a ++ b) = trsC a ++ trsC b := by
  induction a with
  | nil => rfl
  | cons t a ih => simp [trsC, ih]
/-- the triangle at a place -/
theorem subC_trs (l : List TR) {k : Nat} (hk : k < l.length) : subC (trsC l) (k * 9) 9 = some (trC l[k]) := by
  have e : trsC l = trsC (l.take k) ++ (trC l[k] ++ trsC (l.drop (k + 1))) := by
    have h : l = l.take k ++ (l[k] :: l.drop (k + 1)) := by rw [← List.drop_eq_getElem_cons hk, List.take_append_drop]
    rw [show trsC l = trsC (l.take k ++ (l[k] :: l.drop (k + 1))) by rw [← h], trsC_append]
    rfl
  have s : sizeC (trsC (l.take k)) = k * 9 := by rw [trsC_size]; simp; omega
  rw [e, ← s]
  exact subC_app _ (trC l[k]) _
theorem pureL_trs (l : List TR) : PureL (trsC l) := trsC_pure l
theorem allOne_append (a b : List C) : allOne (a ++ b) = (allOne a && allOne b) := by
  induction a with
  | nil => rfl
  | cons x a ih => simp [allOne, ih, Bool.and_assoc]
theorem allOne_trs : ∀ l : List TR, allOne (trsC l) = true
  | [] => rfl
  | t :: l => by rw [trsC, allOne_append, allOne_trs l]; rfl
theorem eff_index_sli {T : TypeId → Option TI} {op : Op} {ev : Operand → SV} {hp : Nat → Option Blk} {t : TypeId} {x i : Operand} (ho : op = .indexAddr t x i) {sz : Nat} {ag : Bool} {z : List C} {e : TypeId} {esz : Nat} {ez : List C} {eq : Option (List K)} (hT : T t = some ⟨sz, ag, z, .slice e esz ez, eq⟩)
    {nl : Bool} {b off len cap : Nat} {hl : SliOk nl len cap} (hx : ev x = .c (.sli nl b off len cap hl)) {k : Nat} {hi : IR k} (hk : ev i = .c (.int k hi)) (hlt : k < len) : eff T op ev hp = some (.val (.c (.ptr b (off + k * esz)))) := by
  subst ho
  simp only [eff, hT, hx, hk]
  show (if k < len then _ else _) = _
  rw [if_pos hlt]
theorem eff_load_sub {T : TypeId → Option TI} {op : Op} {ev : Operand → SV} {hp : Nat → Option Blk} {t : TypeId} {x : Operand} (ho : op = .load t x) {ti : TI} (hT : T t = some ti) {b off : Nat} (hx : ev x = .c (.ptr b off)) {blk : Blk} (hb : hp b = some blk) {m : List C} (hm : subC blk.cs off ti.size = some m)
    {v : SV} (hv : wrapV ti.agg m = some v) : eff T op ev hp = some (.val v) := by
  subst ho
  simp only [eff, hT, hx, hb, partC, hm, hv]
theorem SameTm.refl : ∀ l : List SV, SameTm l l
  | [] => trivial
  | _ :: l => ⟨fun _ => rfl, SameTm.refl l⟩
theorem wrap_id {z : Int} (h : IR z) : IntKind.i64.wrap z = z := by
  unfold IR at h; unfold IntKind.wrap; simp [IntKind.bits, IntKind.signed]; split <;> omega
theorem wrap_add1 {k n : Nat} (h : k < n) (hn : IR n) : IntKind.i64.wrap ((k : Int) + 1) = ((k + 1 : Nat) : Int) := by
  rw [wrap_id (by unfold IR at *; omega)]; rfl
/-- a loop by what holds at each head: the state there is a function of what is left open -/
theorem loop_st {n0 : Nat} {b : List SV → List Blk → (SE → List SV → List Blk → Prop) → Prop} {tm : List SV} {hp : List Blk} {Q : SE → List SV → List Blk → Prop} {G : Type} (st : G → List SV) (hs : G → List Blk) (mu : G → Nat)
    (hent : entK n0 tm hp fun tm2 hp2 => ∃ g, tm2 = st g ∧ hp2 = hs g)
    (hround : ∀ g, b (st g) (hs g) fun e tm' hp' => (match e with
      | .normal => entK n0 tm' hp' fun tm2 hp2 => ∃ g', mu g' < mu g ∧ tm2 = st g' ∧ hp2 = hs g'
      | .exit id => Q (.exit id) tm' hp'
      | .ret => Q .ret tm' hp')) :
    (∃ n, rounds b Q n tm hp) ∨ ∃ (I : Nat → List SV → List Blk → Prop), entK n0 tm hp (fun tm hp => ∃ n, I n tm hp) ∧
      ∀ n tm' hp', I n tm' hp' → b tm' hp' fun e tm' hp' => (match e with
        | .normal => entK n0 tm' hp' fun tm hp => ∃ n', n' < n ∧ I n' tm hp
        | .exit id => Q (.exit id) tm' hp'
        | .ret => Q .ret tm' hp') := by
  have e1 : (fun (tm2 : List SV) (hp2 : List Blk) => ∃ g, tm2 = st g ∧ hp2 = hs g) = fun tm2 hp2 => ∃ n, ∃ g, mu g = n ∧ tm2 = st g ∧ hp2 = hs g := by
    funext tm2 hp2; apply propext
    exact ⟨fun ⟨g, h⟩ => ⟨_, g, rfl, h⟩, fun ⟨_, g, _, h⟩ => ⟨g, h⟩⟩
  have e2 : ∀ n, (fun (tm2 : List SV) (hp2 : List Blk) => ∃ g', mu g' < n ∧ tm2 = st g' ∧ hp2 = hs g') = fun tm2 hp2 => ∃ n', n' < n ∧ ∃ g, mu g = n' ∧ tm2 = st g ∧ hp2 = hs g := fun n => by
    funext tm2 hp2; apply propext
    exact ⟨fun ⟨g, h, h'⟩ => ⟨_, h, g, rfl, h'⟩, fun ⟨_, h, g, e, h'⟩ => ⟨g, by rw [e]; exact h, h'⟩⟩
  rw [e1] at hent
  refine .inr ⟨fun n tm hp => ∃ g, mu g = n ∧ tm = st g ∧ hp = hs g, hent, ?_⟩
  rintro n tm' hp' ⟨g, rfl, rfl, rfl⟩
  have := hround g
  rw [e2] at this
  exact this
theorem sint_eq {a b : Int} (e : a = b) (ha : IR a) (hb : IR b) (ρ : Rho) : (SV.c (.int a ha)).den ρ = (SV.c (.int b hb)).den ρ := by subst e; rfl
end Go.Proofs.YtocbklodkcdhkaaGreatDoor

namespace Go.Proofs.YtocbklodkcdhkaaGreatDoor
open Go.RowKit
set_option maxRecDepth 100000

theorem pureL_append {a b : List C} (ha : PureL a) (hb : PureL b) : PureL (a ++ b) := fun ρ ρ' => by
  rw [List.flatMap_append, List.flatMap_append, ha ρ ρ', hb ρ ρ']
theorem cint {a b : Int} {ha : IR a} (e : a = b) (hb : IR b) : SV.c (.int a ha) = SV.c (.int b hb) := by subst e; rfl
theorem eff_rem {T : TypeId → Option TI} {op : Op} {ev : Operand → SV} {hp : Nat → Option Blk} {t yt : TypeId} {x y : Operand} (ho : op = .binOp .rem t x y yt) {a : Int} {ha : IR a} (hx : ev x = .c (.int a ha)) {b : Int} {hb : IR b} (hy : ev y = .c (.int b hb)) {c : Int} (hb0 : b ≠ 0) (hc : a.tmod b = c) (hi : IR c) :
    eff T op ev hp = some (.val (.c (.int c hi))) := by
  subst ho hc
  simp only [eff, hx, hy, binS]
  rw [if_neg hb0]
theorem eff_slice_hi {T : TypeId → Option TI} {op : Op} {ev : Operand → SV} {hp : Nat → Option Blk} {t : TypeId} {x y : Operand} (ho : op = .slice t x none (some y) none) {sz : Nat} {ag : Bool} {z : List C} {e : TypeId} {esz : Nat} {ez : List C} {eq : Option (List K)} (hT : T t = some ⟨sz, ag, z, .slice e esz ez, eq⟩)
    {nl : Bool} {b off len cap : Nat} {hl : SliOk nl len cap} (hx : ev x = .c (.sli nl b off len cap hl)) {k : Nat} {hi : IR k} (hk : ev y = .c (.int k hi)) (hlt : k ≤ cap) (h2 : SliOk nl k cap) : eff T op ev hp = some (.val (.c (.sli nl b off k cap h2))) := by
  subst ho
  simp only [eff, hT, hx, Option.map, bndO, hk]
  show (if hc : _ then _ else _) = _
  rw [dif_pos ⟨⟨Nat.zero_le _, hlt, Nat.le_refl _⟩, rfl⟩]
  rfl
theorem n_lt {k M : Nat} (h : decide ((k : Int) < (M : Int)) = true) : k < M := by have := of_decide_eq_true h; omega
theorem n_ge {k M : Nat} (h : decide ((k : Int) < (M : Int)) = false) : M ≤ k := by have := of_decide_eq_false h; omega
theorem subC_nil : ∀ cs : List C, subC cs 0 0 = some []
  | [] => rfl
  | _ :: _ => rfl
theorem eff_slice_lo {T : TypeId → Option TI} {op : Op} {ev : Operand → SV} {hp : Nat → Option Blk} {t : TypeId} {x y : Operand} (ho : op = .slice t x (some y) none none) {sz : Nat} {ag : Bool} {z : List C} {e : TypeId} {esz : Nat} {ez : List C} {eq : Option (List K)} (hT : T t = some ⟨sz, ag, z, .slice e esz ez, eq⟩)
    {nl : Bool} {b off len cap : Nat} {hl : SliOk nl len cap} (hx : ev x = .c (.sli nl b off len cap hl)) {k : Nat} {hi : IR k} (hk : ev y = .c (.int k hi)) (hlt : k ≤ len) : eff T op ev hp = some (.val (.c (.sli nl b (slOff off esz k cap) (len - k) (cap - k) (hl.sub ⟨hlt, hl.1, Nat.le_refl _⟩)))) := by
  subst ho
  simp only [eff, hT, hx, Option.map, bndO, hk]
  show (if hc : _ then _ else _) = _
  rw [dif_pos ⟨⟨hlt, hl.1, Nat.le_refl _⟩, rfl⟩]
theorem sliOk_le2 {nl : Bool} {len cap k : Nat} (h : SliOk nl len cap) (hk : k ≤ len) : SliOk nl k cap := ⟨Nat.le_trans hk h.1, h.2.1, h.2.2⟩
theorem n_lt' {k M : Nat} (h : k < M) : decide ((k : Int) < (M : Int)) = true := decide_eq_true (by omega)
theorem n_ge' {k M : Nat} (h : M ≤ k) : decide ((k : Int) < (M : Int)) = false := decide_eq_false (by omega)
theorem eff_index_arr {T : TypeId → Option TI} {op : Op} {ev : Operand → SV} {hp : Nat → Option Blk} {t : TypeId} {x i : Operand} (ho : op = .indexAddr t x i) {sz : Nat} {ag ea : Bool} {z : List C} {m esz : Nat} {eq : Option (List K)} (hT : T t = some ⟨sz, ag, z, .array m esz ea, eq⟩)
    {b off : Nat} (hx : ev x = .c (.ptr b off)) {k : Nat} {hi : IR k} (hk : ev i = .c (.int k hi)) (hlt : k < m) : eff T op ev hp = some (.val (.c (.ptr b (off + k * esz)))) := by
  subst ho
  simp only [eff, hT, hx, hk]
  show (if k < m then _ else _) = _
  rw [if_pos hlt]
theorem bcase_true {b : Bool} {X Y : Prop} (h : b = true) (hx : X) : bcase b X Y := bcase_intro (fun _ => hx) (fun h1 => by rw [h] at h1; cases h1)
theorem bcase_false {b : Bool} {X Y : Prop} (h : b = false) (hy : Y) : bcase b X Y := bcase_intro (fun h1 => by rw [h] at h1; cases h1) (fun _ => hy)
theorem eff_store_at {T : TypeId → Option TI} {op : Op} {ev : Operand → SV} {hp : Nat → Option Blk} {t : TypeId} {x y : Operand} (ho : op = .store t x y) {ti : TI} (hT : T t = some ti) {b off : Nat} (hx : ev x = .c (.ptr b off)) {l : List C} (hy : (ev y).ch = some l) (hl : sizeC l = ti.size ∧ allOne l = true)
    {blk : Blk} (hb : hp b = some blk) (hro : blk.ro = false) {cs : List C} (hs : spliceC blk.cs off l = some cs) : eff T op ev hp = some (.put b cs) := by
  subst ho
  simp only [eff, hT, hx, hy, hb, putC, hs, hro]
  rw [if_pos hl]
  rfl
theorem spliceC_app (a m b new : List C) (h : sizeC new = sizeC m) : spliceC (a ++ (m ++ b)) (sizeC a) new = some (a ++ (new ++ b)) := by
  unfold spliceC
  rw [takeC_app, h]
  simp only [takeC_app]
theorem len_pos {nl : Bool} {len cap : Nat} (_ : SliOk nl len cap) (h : decide (0 < (len : Int)) = true) : 0 < len := by have := of_decide_eq_true h; omega
theorem wrap_pred {k : Nat} (hk : 0 < k) (h : IR k) : IntKind.i64.wrap ((k : Int) - 1) = ((k - 1 : Nat) : Int) := by
  rw [wrap_id (by unfold IR at *; omega)]; omega
theorem len_zero {k : Nat} (h : decide (0 < (k : Int)) = false) : k = 0 := by have := of_decide_eq_false h; omega
theorem ltI {nl : Bool} {k n cap : Nat} (h : SliOk nl n cap) (hk : k ≤ n) : IR k := by have := h.ir; unfold IR at *; omega
end Go.Proofs.YtocbklodkcdhkaaGreatDoor
