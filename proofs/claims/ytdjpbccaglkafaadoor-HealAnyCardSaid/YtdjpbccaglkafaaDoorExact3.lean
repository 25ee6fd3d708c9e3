/- exact's vectors and normals, by the reckoner. -/
import Derived.Test.YtdjpbccaglkafaaDoorSpec
namespace Go.Proofs.YtdjpbccaglkafaaDoor
open Go.RowKit
set_option maxRecDepth 100000

theorem smI {n : Int} (h : IR n) : Sm 64 n := Sm.int h.1 h.2
theorem sm0 : Sm 0 0 := by unfold Sm; decide
def dX : Dn
  | [.agg [.int x hx, .int _ _, .int _ _]] => some (none, .c (.int x hx))
  | _ => none
def dY : Dn
  | [.agg [.int _ _, .int y hy, .int _ _]] => some (none, .c (.int y hy))
  | _ => none
def dZ : Dn
  | [.agg [.int _ _, .int _ _, .int z hz]] => some (none, .c (.int z hz))
  | _ => none
theorem spX : SpOk Tryd.prog 42 dX := sp_of (un := 20) (n := 0) ⟨Tryd.func42, by kernel_rfl, by kernel_rfl⟩ base_ok noF_ok fun args p v hd => by
  unfold dX at hd
  split at hd
  · cases hd
    refine ⟨fun _ _ => rfl, fun _ _ => rfl, fun _ => ?_⟩
    conv => whnf
    exact fun _ => rfl
  · cases hd
theorem spY : SpOk Tryd.prog 43 dY := sp_of (un := 20) (n := 0) ⟨Tryd.func43, by kernel_rfl, by kernel_rfl⟩ base_ok noF_ok fun args p v hd => by
  unfold dY at hd
  split at hd
  · cases hd
    refine ⟨fun _ _ => rfl, fun _ _ => rfl, fun _ => ?_⟩
    conv => whnf
    exact fun _ => rfl
  · cases hd
theorem spZ : SpOk Tryd.prog 44 dZ := sp_of (un := 20) (n := 0) ⟨Tryd.func44, by kernel_rfl, by kernel_rfl⟩ base_ok noF_ok fun args p v hd => by
  unfold dZ at hd
  split at hd
  · cases hd
    refine ⟨fun _ _ => rfl, fun _ _ => rfl, fun _ => ?_⟩
    conv => whnf
    exact fun _ => rfl
  · cases hd
def base1 : List (FuncId × Dn) := (42, dX) :: (43, dY) :: (44, dZ) :: base
theorem base1_ok : AllOk base1 := .cons spX <| .cons spY <| .cons spZ base_ok
noncomputable def fx1 : FuncId → Option Func := lk [(39, Tryd.f39), (60, Tryd.f60)]
theorem fx1_ok : ∀ f fn, fx1 f = some fn → FnOk Tryd.prog f fn := lkF_ok fun x hx => by
  simp only [List.mem_cons, List.not_mem_nil, or_false] at hx
  rcases hx with rfl | rfl
  · exact ⟨Tryd.func39, by kernel_rfl, by kernel_rfl⟩
  · exact ⟨Tryd.func60, by kernel_rfl, by kernel_rfl⟩
def dFar : Dn
  | [.agg [.int x1 h1, .int y1 h2, .int z1 h3], .agg [.int x2 h4, .int y2 h5, .int z2 h6]] =>
    some (none, .agg [.wid 129 (x2 - x1) (sm_subj (smI h4) (smI h1)), .wid 129 (y2 - y1) (sm_subj (smI h5) (smI h2)), .wid 129 (z2 - z1) (sm_subj (smI h6) (smI h3))])
  | _ => none
theorem spFar : SpOk Tryd.prog 49 dFar := sp_of (un := 20) (n := 3) ⟨Tryd.func49, by kernel_rfl, by kernel_rfl⟩ base1_ok fx1_ok fun args p v hd => by
  unfold dFar at hd
  split at hd
  · cases hd
    refine ⟨fun _ _ => rfl, fun _ _ => rfl, fun _ => ?_⟩
    conv => whnf
    exact fun _ => rfl
  · cases hd
end Go.Proofs.YtdjpbccaglkafaaDoor
