/- law 02: points, and the first laws. -/
import Derived.Test.YtmooplnklcgfjaaGreatDoorE8
namespace Go.Proofs.YtmooplnklcgfjaaGreatDoor
open Go.RowKit
set_option maxRecDepth 100000

noncomputable def fxPt : FuncId → Option Func := lk [(41, Tryz.f41)]
theorem fxPt_ok : ∀ f fn, fxPt f = some fn → FnOk Tryz.prog f fn := lkF_ok fun x hx => by
  simp only [List.mem_cons, List.not_mem_nil, or_false] at hx
  subst hx
  · exact ⟨Tryz.func41, by kernel_rfl, by kernel_rfl⟩
def dPoint : Dn
  | [.agg [.int x1 hx1, .int y1 hy1, .int z1 hz1]] =>
    some (none, .agg [.int x1 hx1, .int y1 hy1, .int z1 hz1])
  | _ => none
theorem spPoint : SpOk Tryz.prog 15 dPoint := sp_of2 (un := 20) (n := 2) ⟨Tryz.func15, by kernel_rfl, by kernel_rfl⟩ baseL0_ok fxPt_ok fun args p v hd => by
  unfold dPoint at hd
  split at hd
  · rename_i x1 hx1 y1 hy1 z1 hz1
    cases hd
    refine ⟨[.agg [.int x1 hx1, .int y1 hy1, .int z1 hz1]], fun _ => rfl, fun _ _ => rfl, fun _ _ => rfl, fun _ => ?_⟩
    conv => whnf
    exact fun _ => rfl
  · cases hd
def baseL1 : List (FuncId × Dn) := (15, dPoint) :: baseL0
theorem baseL1_ok : AllOk baseL1 := .cons spPoint <| baseL0_ok
theorem wneg (x : Int) : IntKind.i64.wrap (0 - x.sign) = -x.sign := by
  have := ir_sg x
  rw [wrap_i (by omega)]; omega
theorem cneg {a b : Int} (h : a = -b) : decide (a.sign = IntKind.i64.wrap (0 - b.sign)) = true := decide_eq_true (by rw [wneg, h, Int.sign_neg])
theorem det_s4 (p q r s : V3) : detZ s q r p = -detZ p q r s := by simp only [detZ, normZ, V3.dot, V3.cross, V3.sub]; grind
theorem det_0a (p r s : V3) : detZ p p r s = 0 := by simp only [detZ, normZ, V3.dot, V3.cross, V3.sub]; grind
theorem det_0b (p q r : V3) : detZ p q r p = 0 := by simp only [detZ, normZ, V3.dot, V3.cross, V3.sub]; grind
theorem det_0c (p q s : V3) : detZ p q q s = 0 := by simp only [detZ, normZ, V3.dot, V3.cross, V3.sub]; grind
theorem czero {a : Int} (h : a = 0) : decide (a.sign = 0) = true := decide_eq_true (by rw [h]; rfl)
theorem less_eq {p q : V3} (h : (!(lessZ p q == lessZ q p)) = false) : eqB p q = true ∧ (!lessZ p q) = true := by
  cases h1 : lessZ p q <;> cases h2 : lessZ q p <;> rw [h1, h2] at h <;> first | cases h | skip
  · rw [less_no] at h1 h2
    exact ⟨eqB_iff.2 (V3.ext' (by omega) (by omega) (by omega)), rfl⟩
  · rw [less_iff] at h1 h2; omega
theorem wzB (x : Int) : (decide (x < 0) == false && decide ((⟨(mag x.natAbs).toArray⟩ : ByteArray) = ⟨#[]⟩)) = decide (x = 0) := by
  by_cases h : x = 0
  · subst h
    rw [show ((0 : Int).natAbs) = 0 from rfl, mag_zero]; rfl
  · have : (⟨(mag x.natAbs).toArray⟩ : ByteArray) ≠ ⟨#[]⟩ := fun e => h (by
      have e := congrArg (fun b => b.data.toList) e
      have e : mag x.natAbs = [] := by simpa using e
      have := mag_eq_nil.1 e
      omega)
    rw [decide_eq_false this, decide_eq_false h, Bool.and_false]
theorem wnz {x : Int} (h : x = 0) : (!(decide (x < 0) == false && decide ((⟨(mag x.natAbs).toArray⟩ : ByteArray) = ⟨#[]⟩))) = false := by rw [wzB, decide_eq_true h]; rfl
theorem wne {x y : Int} (h : x = y) : (!decide (x = y)) = false := by rw [decide_eq_true h]; rfl
theorem not_ff {b : Bool} (h : (!b) = false) : b = true := by simpa using h
theorem less_tr {p q r : V3} (h1 : (!lessZ p q) = false) (h2 : (!lessZ q r) = false) : lessZ p r = true := by
  have h1 := less_iff.1 (not_ff h1); have h2 := less_iff.1 (not_ff h2)
  exact less_iff.2 (by omega)
end Go.Proofs.YtmooplnklcgfjaaGreatDoor
