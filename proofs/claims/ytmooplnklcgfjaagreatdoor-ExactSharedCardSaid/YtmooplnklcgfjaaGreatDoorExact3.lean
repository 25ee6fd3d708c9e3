/- exact's vectors and normals, by the reckoner. -/
import Derived.Test.YtmooplnklcgfjaaGreatDoorSpec
namespace Go.Proofs.YtmooplnklcgfjaaGreatDoor
open Go.RowKit
set_option maxRecDepth 100000

theorem smI {n : Int} (h : IR n) : Sm 64 n := Sm.int h.1 h.2
theorem sm0 : Sm 0 0 := by unfold Sm; decide
def dX : Dn
  | [.agg [.int x hx, .int _ _, .int _ _]] => some (none, .c (.int x hx))
  | _ => none
def dY : Dn
  | [.agg [.int _ _, .int y hy, .int _ _]] => some (none, .c (.int y hy))
  | _ => none
def dZ : Dn
  | [.agg [.int _ _, .int _ _, .int z hz]] => some (none, .c (.int z hz))
  | _ => none
theorem spX : SpOk Tryz.prog 87 dX := sp_of (un := 20) (n := 0) ⟨Tryz.func87, by kernel_rfl, by kernel_rfl⟩ base_ok noF_ok fun args p v hd => by
  unfold dX at hd
  split at hd
  · cases hd
    refine ⟨fun _ _ => rfl, fun _ _ => rfl, fun _ => ?_⟩
    conv => whnf
    exact fun _ => rfl
  · cases hd
theorem spY : SpOk Tryz.prog 88 dY := sp_of (un := 20) (n := 0) ⟨Tryz.func88, by kernel_rfl, by kernel_rfl⟩ base_ok noF_ok fun args p v hd => by
  unfold dY at hd
  split at hd
  · cases hd
    refine ⟨fun _ _ => rfl, fun _ _ => rfl, fun _ => ?_⟩
    conv => whnf
    exact fun _ => rfl
  · cases hd
theorem spZ : SpOk Tryz.prog 89 dZ := sp_of (un := 20) (n := 0) ⟨Tryz.func89, by kernel_rfl, by kernel_rfl⟩ base_ok noF_ok fun args p v hd => by
  unfold dZ at hd
  split at hd
  · cases hd
    refine ⟨fun _ _ => rfl, fun _ _ => rfl, fun _ => ?_⟩
    conv => whnf
    exact fun _ => rfl
  · cases hd
def base1 : List (FuncId × Dn) := (87, dX) :: (88, dY) :: (89, dZ) :: base
theorem base1_ok : AllOk base1 := .cons spX <| .cons spY <| .cons spZ base_ok
noncomputable def fx1 : FuncId → Option Func := lk [(70, Tryz.f70), (73, Tryz.f73)]
theorem fx1_ok : ∀ f fn, fx1 f = some fn → FnOk Tryz.prog f fn := lkF_ok fun x hx => by
  simp only [List.mem_cons, List.not_mem_nil, or_false] at hx
  rcases hx with rfl | rfl
  · exact ⟨Tryz.func70, by kernel_rfl, by kernel_rfl⟩
  · exact ⟨Tryz.func73, by kernel_rfl, by kernel_rfl⟩
def dFar : Dn
  | [.agg [.int x1 h1, .int y1 h2, .int z1 h3], .agg [.int x2 h4, .int y2 h5, .int z2 h6]] =>
    some (none, .agg [.wid 129 (x2 - x1) (sm_subj (smI h4) (smI h1)), .wid 129 (y2 - y1) (sm_subj (smI h5) (smI h2)), .wid 129 (z2 - z1) (sm_subj (smI h6) (smI h3))])
  | _ => none
theorem spFar : SpOk Tryz.prog 42 dFar := sp_of (un := 20) (n := 3) ⟨Tryz.func42, by kernel_rfl, by kernel_rfl⟩ base1_ok fx1_ok fun args p v hd => by
  unfold dFar at hd
  split at hd
  · cases hd
    refine ⟨fun _ _ => rfl, fun _ _ => rfl, fun _ => ?_⟩
    conv => whnf
    exact fun _ => rfl
  · cases hd
end Go.Proofs.YtmooplnklcgfjaaGreatDoor
