/- law 01: the call of WideTexts. -/
import Derived.Test.YtbhcmajeoamloaaDoorWT
namespace Go.Proofs.YtbhcmajeoamloaaDoor
open Go.RowKit
set_option maxRecDepth 100000

theorem callWideTexts {W : World} {v0 : Value} {y1 : Int} (n0 : NumAt W v0) (k1 : IR y1) : Calls Tryd.prog 14 #[v0, .int .i64 y1] W fun e w' => e = .returned (.bool true) ∧ Below W.heap.size W w' := by
  have hfn : FnOk Tryd.prog 14 Tryd.f14 := ⟨Tryd.func14, by kernel_rfl, by kernel_rfl⟩
  obtain ⟨_, rfl, n0⟩ := n0
  rcases n0 with ⟨b0, z0, l0, c0, p0, rfl, h0, g0, m0, r0⟩ | ⟨b0, z0, a0, rfl, h0⟩
  · refine read_ok (P := Tryd.prog) envT_ok mixed fxMade_ok hfn (fun _ _ => rfl) (fun i c hi => ?_) (fun i => match i with  | _ => p0) (fun ρ' hρ => ?_) (vcWideTextsA b0 z0 h0 l0 c0 g0 m0 y1 k1) W (fun i c hi => ?_)
    · rcases i with _ | i <;> simp [nthO] at hi <;> subst hi <;> exact ⟨rfl, bsC_pure _⟩
    · have e0 : ρ' 0 = p0 := hρ 0 rfl
      simp only [List.map_cons, List.map_nil, SV.den, cellsL_cons, C.cells, e0]
      rfl
    · rcases i with _ | i
      · simp [nthO] at hi; subst hi; exact r0 _
      · simp [nthO] at hi
  · refine read_ok (P := Tryd.prog) envT_ok mixed fxMade_ok hfn (fun _ _ => rfl) (fun i c hi => ?_) (fun _ => (0, 0)) (fun ρ' hρ => ?_) (vcWideTextsB b0 z0 h0 a0 y1 k1) W (fun i c hi => ?_)
    · simp [nthO] at hi
    · rfl
    · simp [nthO] at hi
end Go.Proofs.YtbhcmajeoamloaaDoor
