/- Order of points, by the reckoner (law 05 reaches no more of it). -/
import Derived.Test.YtdjpbccaglkafaaDoorRyG
namespace Go.Proofs.YtdjpbccaglkafaaDoor
open Go.RowKit
set_option maxRecDepth 100000

/-- six times the volume -/
def detZ (p q s t : V3) : Int := (normZ p q s).dot (t.sub p)
/-- the order of points -/
def lessZ (p q : V3) : Bool := cond (!decide (p.x = q.x)) (decide (p.x < q.x)) (cond (!decide (p.y = q.y)) (decide (p.y < q.y)) (cond (!decide (p.z = q.z)) (decide (p.z < q.z)) false))
theorem less1 {p q : V3} (h : (!decide (p.x = q.x)) = true) : decide (p.x < q.x) = lessZ p q := by unfold lessZ; rw [h]; rfl
theorem less2 {p q : V3} (h : (!decide (p.x = q.x)) = false) (h1 : (!decide (p.y = q.y)) = true) : decide (p.y < q.y) = lessZ p q := by unfold lessZ; rw [h, h1]; rfl
theorem less3 {p q : V3} (h : (!decide (p.x = q.x)) = false) (h1 : (!decide (p.y = q.y)) = false) (h2 : (!decide (p.z = q.z)) = true) : decide (p.z < q.z) = lessZ p q := by unfold lessZ; rw [h, h1, h2]; rfl
theorem less4 {p q : V3} (h : (!decide (p.x = q.x)) = false) (h1 : (!decide (p.y = q.y)) = false) (h2 : (!decide (p.z = q.z)) = false) : false = lessZ p q := by unfold lessZ; rw [h, h1, h2]; rfl
theorem less5 {p q : V3} (h : (!decide (p.x = q.x)) = false) (h1 : (!decide (p.y = q.y)) = false) : decide (p.z < q.z) = lessZ p q := by
  unfold lessZ; rw [h, h1]
  show _ = cond (!decide (p.z = q.z)) (decide (p.z < q.z)) false
  by_cases e : p.z = q.z
  · simp [e]
  · simp [e]
noncomputable def fxAx : FuncId → Option Func := lk [(39, Tryd.f39)]
theorem fxAx_ok : ∀ f fn, fxAx f = some fn → FnOk Tryd.prog f fn := lkF_ok fun x hx => by
  simp only [List.mem_cons, List.not_mem_nil, or_false] at hx
  subst hx
  · exact ⟨Tryd.func39, by kernel_rfl, by kernel_rfl⟩
def dLess : Dn
  | [.agg [.int x1 _, .int y1 _, .int z1 _], .agg [.int x2 _, .int y2 _, .int z2 _]] =>
    some (none, .c (.val (.bool (lessZ ⟨x1, y1, z1⟩ ⟨x2, y2, z2⟩))))
  | _ => none
theorem spLess : SpOk Tryd.prog 30 dLess := sp_of2 (un := 20) (n := 3) ⟨Tryd.func30, by kernel_rfl, by kernel_rfl⟩ baseF3_ok fxAx_ok fun args p v hd => by
  unfold dLess at hd
  split at hd
  · rename_i x1 hx1 y1 hy1 z1 hz1 x2 hx2 y2 hy2 z2 hz2
    cases hd
    refine ⟨[.agg [.int x1 hx1, .int y1 hy1, .int z1 hz1], .agg [.int x2 hx2, .int y2 hy2, .int z2 hz2]], fun _ => rfl, fun _ _ => rfl, fun _ _ => rfl, fun _ => ?_⟩
    conv => whnf
    refine bcase_intro (fun h0 => ?_) (fun h0 => ?_)
    · conv => whnf
      exact fun ρ => sbool_e (less1 (p := (⟨x1, y1, z1⟩ : V3)) (q := (⟨x2, y2, z2⟩ : V3)) h0) ρ
    conv => whnf
    refine bcase_intro (fun h1 => ?_) (fun h1 => ?_)
    · conv => whnf
      exact fun ρ => sbool_e (less2 (p := (⟨x1, y1, z1⟩ : V3)) (q := (⟨x2, y2, z2⟩ : V3)) h0 h1) ρ
    conv => whnf
    refine bcase_intro (fun h2 => ?_) (fun h2 => ?_)
    · conv => whnf
      exact fun ρ => sbool_e (less3 (p := (⟨x1, y1, z1⟩ : V3)) (q := (⟨x2, y2, z2⟩ : V3)) h0 h1 h2) ρ
    conv => whnf
    exact fun ρ => sbool_e (less4 (p := (⟨x1, y1, z1⟩ : V3)) (q := (⟨x2, y2, z2⟩ : V3)) h0 h1 h2) ρ
  · cases hd
def dLess2 : Dn
  | [.agg [.int x1 _, .int y1 _, .int z1 _], .agg [.int x2 _, .int y2 _, .int z2 _]] =>
    some (none, .c (.val (.bool (lessZ ⟨x1, y1, z1⟩ ⟨x2, y2, z2⟩))))
  | _ => none
def baseF4 : List (FuncId × Dn) := (30, dLess) :: baseF3
theorem baseF4_ok : AllOk baseF4 := .cons spLess <| baseF3_ok
end Go.Proofs.YtdjpbccaglkafaaDoor
