/- Points and triangles of a small grid, moved points. -/
import Derived.Test.YtmooplnklcgfjaaGreatDoorL0
namespace Go.Proofs.YtmooplnklcgfjaaGreatDoor
open Go.RowKit
set_option maxRecDepth 100000

theorem ir_emod {n m : Int} (hn : IR n) (hm : IR m) : IR (n % m) := by
  by_cases h : m = 0
  · subst h; rw [Int.emod_zero]; exact hn
  · have h1 := Int.emod_nonneg n h
    have h2 := Int.emod_lt n h
    unfold IR at *
    omega
theorem mod_eq {n m : Int} (hn : IR n) (h : 0 < m ∧ m ≤ 1000000) : (IntKind.i64.wrap (n.tmod m + m)).tmod m = n % m := by
  have h1 : -m < n.tmod m := Int.lt_tmod_of_pos n h.1
  have h2 : n.tmod m < m := Int.tmod_lt_of_pos n h.1
  rw [wrap_id (z := n.tmod m + m) (by unfold IR; omega), Int.tmod_eq_emod_of_nonneg (by omega), Int.add_emod_right]
  have _ := hn
  rw [Int.tmod_def, Int.sub_mul_emod_self_left]
def dMod : Dn
  | [.c (.int n hn), .c (.int m hm)] => some (some (0 < m ∧ m ≤ 1000000), .c (.int (n % m) (ir_emod hn hm)))
  | _ => none
theorem spMod : SpOk Tryz.prog 31 dMod := sp_of2 (un := 20) (n := 0) ⟨Tryz.func31, by kernel_rfl, by kernel_rfl⟩ baseL1_ok noF_ok fun args p v hd => by
  unfold dMod at hd
  split at hd
  · rename_i n hn m hm
    cases hd
    refine ⟨[.c (.int n hn), .c (.int m hm)], fun _ => rfl, fun _ _ => rfl, fun _ _ => rfl, fun hpre => ?_⟩
    have hm0 : 0 < m ∧ m ≤ 1000000 := hpre _ rfl
    conv => whnf
    conv =>
      arg 2
      tactic' =>
        apply eff_rem (hi := hn.tmod m) (ho := ?how1) (hx := ?hxw1) (hy := ?hyw1) (hb0 := ?hb0w1) (hc := ?hcw1)
        case how1 => rfl
        case hxw1 => rfl
        case hyw1 => rfl
        case hb0w1 => exact (by omega)
        case hcw1 => rfl
    conv => whnf
    conv =>
      arg 2
      tactic' =>
        apply eff_rem (hi := ir_emod hn hm) (ho := ?how2) (hx := ?hxw2) (hy := ?hyw2) (hb0 := ?hb0w2) (hc := ?hcw2)
        case how2 => rfl
        case hxw2 => rfl
        case hyw2 => rfl
        case hb0w2 => exact (by omega)
        case hcw2 => exact mod_eq hn hm0
    conv => whnf
    exact fun _ => rfl
  · cases hd
def baseP1 : List (FuncId × Dn) := (31, dMod) :: baseL1
theorem baseP1_ok : AllOk baseP1 := .cons spMod <| baseL1_ok
def dGrid : Dn
  | [.agg [.int x hx, .int y hy, .int z hz], .c (.int n hn)] =>
    some ((some (0 < n ∧ n ≤ 1000000)), .agg [.int (x % n) (ir_emod hx hn), .int (y % n) (ir_emod hy hn), .int (z % n) (ir_emod hz hn)])
  | _ => none
theorem spGrid : SpOk Tryz.prog 12 dGrid := sp_of2 (un := 20) (n := 0) ⟨Tryz.func12, by kernel_rfl, by kernel_rfl⟩ baseP1_ok noF_ok fun args p v hd => by
  unfold dGrid at hd
  split at hd
  · rename_i x hx y hy z hz n hn
    cases hd
    refine ⟨[.agg [.int x hx, .int y hy, .int z hz], .c (.int n hn)], fun _ => rfl, fun _ _ => rfl, fun _ _ => rfl, fun hpre => ?_⟩
    conv => whnf
    refine ⟨hpre _ rfl, ?_⟩
    conv => whnf
    refine ⟨hpre _ rfl, ?_⟩
    conv => whnf
    refine ⟨hpre _ rfl, ?_⟩
    conv => whnf
    exact fun _ => rfl
  · cases hd
def baseP2 : List (FuncId × Dn) := (12, dGrid) :: baseP1
theorem baseP2_ok : AllOk baseP2 := .cons spGrid <| baseP1_ok
def dTri : Dn
  | [.agg [.int x1 hx1, .int y1 hy1, .int z1 hz1, .int x2 hx2, .int y2 hy2, .int z2 hz2, .int x3 hx3, .int y3 hy3, .int z3 hz3], .c (.int n hn)] =>
    some ((some (0 < n ∧ n ≤ 1000000)), .agg [.int (x1 % n) (ir_emod hx1 hn), .int (y1 % n) (ir_emod hy1 hn), .int (z1 % n) (ir_emod hz1 hn), .int (x2 % n) (ir_emod hx2 hn), .int (y2 % n) (ir_emod hy2 hn), .int (z2 % n) (ir_emod hz2 hn), .int (x3 % n) (ir_emod hx3 hn), .int (y3 % n) (ir_emod hy3 hn), .int (z3 % n) (ir_emod hz3 hn)])
  | _ => none
theorem spTri : SpOk Tryz.prog 8 dTri := sp_of2 (un := 20) (n := 0) ⟨Tryz.func8, by kernel_rfl, by kernel_rfl⟩ baseP2_ok noF_ok fun args p v hd => by
  unfold dTri at hd
  split at hd
  · rename_i x1 hx1 y1 hy1 z1 hz1 x2 hx2 y2 hy2 z2 hz2 x3 hx3 y3 hy3 z3 hz3 n hn
    cases hd
    refine ⟨[.agg [.int x1 hx1, .int y1 hy1, .int z1 hz1, .int x2 hx2, .int y2 hy2, .int z2 hz2, .int x3 hx3, .int y3 hy3, .int z3 hz3], .c (.int n hn)], fun _ => rfl, fun _ _ => rfl, fun _ _ => rfl, fun hpre => ?_⟩
    conv => whnf
    refine ⟨hpre _ rfl, ?_⟩
    conv => whnf
    refine ⟨hpre _ rfl, ?_⟩
    conv => whnf
    refine ⟨hpre _ rfl, ?_⟩
    conv => whnf
    exact fun _ => rfl
  · cases hd
/-- a coordinate, scaled and moved -/
def mvW (s t x : Int) : Int := IntKind.i64.wrap (IntKind.i64.wrap (x * s) + t)
theorem ir_mvW (s t x : Int) : IR (mvW s t x) := IR.wrap _
def dMoved : Dn
  | [.agg [.int x _, .int y _, .int z _], .agg [.int t0 _, .int t1 _, .int t2 _], .c (.int s _)] =>
    some (none, .agg [.int (mvW s t0 x) (ir_mvW _ _ _), .int (mvW s t1 y) (ir_mvW _ _ _), .int (mvW s t2 z) (ir_mvW _ _ _)])
  | _ => none
theorem spMoved : SpOk Tryz.prog 32 dMoved := sp_of2 (un := 20) (n := 0) ⟨Tryz.func32, by kernel_rfl, by kernel_rfl⟩ baseP2_ok noF_ok fun args p v hd => by
  unfold dMoved at hd
  split at hd
  · rename_i x hx y hy z hz t0 ht0 t1 ht1 t2 ht2 s hs
    cases hd
    refine ⟨[.agg [.int x hx, .int y hy, .int z hz], .agg [.int t0 ht0, .int t1 ht1, .int t2 ht2], .c (.int s hs)], fun _ => rfl, fun _ _ => rfl, fun _ _ => rfl, fun _ => ?_⟩
    conv => whnf
    exact fun _ => rfl
  · cases hd
def baseP3 : List (FuncId × Dn) := (8, dTri) :: (32, dMoved) :: baseP2
theorem baseP3_ok : AllOk baseP3 := .cons spTri <| .cons spMoved <| baseP2_ok
def dMovedTri : Dn
  | [.agg [.int x1 _, .int y1 _, .int z1 _, .int x2 _, .int y2 _, .int z2 _, .int x3 _, .int y3 _, .int z3 _], .agg [.int t0 _, .int t1 _, .int t2 _], .c (.int s _)] =>
    some (none, .agg [.int (mvW s t0 x1) (ir_mvW _ _ _), .int (mvW s t1 y1) (ir_mvW _ _ _), .int (mvW s t2 z1) (ir_mvW _ _ _), .int (mvW s t0 x2) (ir_mvW _ _ _), .int (mvW s t1 y2) (ir_mvW _ _ _), .int (mvW s t2 z2) (ir_mvW _ _ _), .int (mvW s t0 x3) (ir_mvW _ _ _), .int (mvW s t1 y3) (ir_mvW _ _ _), .int (mvW s t2 z3) (ir_mvW _ _ _)])
  | _ => none
theorem spMovedTri : SpOk Tryz.prog 13 dMovedTri := sp_of2 (un := 20) (n := 0) ⟨Tryz.func13, by kernel_rfl, by kernel_rfl⟩ baseP3_ok noF_ok fun args p v hd => by
  unfold dMovedTri at hd
  split at hd
  · rename_i x1 hx1 y1 hy1 z1 hz1 x2 hx2 y2 hy2 z2 hz2 x3 hx3 y3 hy3 z3 hz3 t0 ht0 t1 ht1 t2 ht2 s hs
    cases hd
    refine ⟨[.agg [.int x1 hx1, .int y1 hy1, .int z1 hz1, .int x2 hx2, .int y2 hy2, .int z2 hz2, .int x3 hx3, .int y3 hy3, .int z3 hz3], .agg [.int t0 ht0, .int t1 ht1, .int t2 ht2], .c (.int s hs)], fun _ => rfl, fun _ _ => rfl, fun _ _ => rfl, fun _ => ?_⟩
    conv => whnf
    exact fun _ => rfl
  · cases hd
def baseP : List (FuncId × Dn) := (13, dMovedTri) :: baseP3
theorem baseP_ok : AllOk baseP := .cons spMovedTri <| baseP3_ok
end Go.Proofs.YtmooplnklcgfjaaGreatDoor
