/- law 01: the calls of WideRoots and WideInts. -/
import Derived.Test.YtbhcmajeoamloaaDoorW7
import Derived.Test.YtbhcmajeoamloaaDoorRowX
namespace Go.Proofs.YtbhcmajeoamloaaDoor
open Go.RowKit
set_option maxRecDepth 100000

theorem callWideRoots {W : World} {v0 : Value} {y1 : Int} (n0 : NumAt W v0) (k1 : IR y1) : Calls Tryd.prog 10 #[v0, .int .i64 y1] W fun e w' => e = .returned (.bool true) ∧ Below W.heap.size W w' := by
  have hfn : FnOk Tryd.prog 10 Tryd.f10 := ⟨Tryd.func10, by kernel_rfl, by kernel_rfl⟩
  obtain ⟨_, rfl, n0⟩ := n0
  rcases n0 with ⟨b0, z0, l0, c0, p0, rfl, h0, g0, m0, r0⟩ | ⟨b0, z0, a0, rfl, h0⟩
  · refine read_ok (P := Tryd.prog) envR1_ok mixed noF_ok hfn (fun _ _ => rfl) (fun i c hi => ?_) (fun i => match i with  | _ => p0) (fun ρ' hρ => ?_) (vcWideRootsA b0 z0 h0 l0 c0 g0 m0 y1 k1) W (fun i c hi => ?_)
    · rcases i with _ | i <;> simp [nthO] at hi <;> subst hi <;> exact ⟨rfl, bsC_pure _⟩
    · have e0 : ρ' 0 = p0 := hρ 0 rfl
      simp only [List.map_cons, List.map_nil, SV.den, cellsL_cons, C.cells, e0]
      rfl
    · rcases i with _ | i
      · simp [nthO] at hi; subst hi; exact r0 _
      · simp [nthO] at hi
  · refine read_ok (P := Tryd.prog) envR1_ok mixed noF_ok hfn (fun _ _ => rfl) (fun i c hi => ?_) (fun _ => (0, 0)) (fun ρ' hρ => ?_) (vcWideRootsB b0 z0 h0 a0 y1 k1) W (fun i c hi => ?_)
    · simp [nthO] at hi
    · rfl
    · simp [nthO] at hi
theorem callWideInts {W : World} {v2 : Value} {y0 : Int} {y1 : Int} (k0 : IR y0) (k1 : IR y1) (n2 : NumAt W v2) : Calls Tryd.prog 13 #[.int .i64 y0, .int .i64 y1, v2] W fun e w' => e = .returned (.bool true) ∧ Below W.heap.size W w' := by
  have hfn : FnOk Tryd.prog 13 Tryd.f13 := ⟨Tryd.func13, by kernel_rfl, by kernel_rfl⟩
  obtain ⟨_, rfl, n2⟩ := n2
  rcases n2 with ⟨b2, z2, l2, c2, p2, rfl, h2, g2, m2, r2⟩ | ⟨b2, z2, a2, rfl, h2⟩
  · refine read_ok (P := Tryd.prog) envR1_ok mixed noF_ok hfn (fun _ _ => rfl) (fun i c hi => ?_) (fun i => match i with  | _ => p2) (fun ρ' hρ => ?_) (vcWideIntsA y0 k0 y1 k1 b2 z2 h2 l2 c2 g2 m2) W (fun i c hi => ?_)
    · rcases i with _ | i <;> simp [nthO] at hi <;> subst hi <;> exact ⟨rfl, bsC_pure _⟩
    · have e2 : ρ' 0 = p2 := hρ 0 rfl
      simp only [List.map_cons, List.map_nil, SV.den, cellsL_cons, C.cells, e2]
      rfl
    · rcases i with _ | i
      · simp [nthO] at hi; subst hi; exact r2 _
      · simp [nthO] at hi
  · refine read_ok (P := Tryd.prog) envR1_ok mixed noF_ok hfn (fun _ _ => rfl) (fun i c hi => ?_) (fun _ => (0, 0)) (fun ρ' hρ => ?_) (vcWideIntsB y0 k0 y1 k1 b2 z2 h2 a2) W (fun i c hi => ?_)
    · simp [nthO] at hi
    · rfl
    · simp [nthO] at hi
end Go.Proofs.YtbhcmajeoamloaaDoor
