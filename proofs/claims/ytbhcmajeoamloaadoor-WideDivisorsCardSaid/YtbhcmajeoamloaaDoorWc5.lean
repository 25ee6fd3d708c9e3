/- law 01: the calls of WideRemainders, WideQuotients and WideDivisors. -/
import Derived.Test.YtbhcmajeoamloaaDoorW5
import Derived.Test.YtbhcmajeoamloaaDoorRowW
namespace Go.Proofs.YtbhcmajeoamloaaDoor
open Go.RowKit
set_option maxRecDepth 100000

theorem callWideRemainders {W : World} {v0 v1 : Value} (n0 : NumAt W v0) (n1 : NumAt W v1) : Calls Tryd.prog 9 #[v0, v1] W fun e w' => e = .returned (.bool true) ∧ Below W.heap.size W w' := by
  have hfn : FnOk Tryd.prog 9 Tryd.f9 := ⟨Tryd.func9, by kernel_rfl, by kernel_rfl⟩
  obtain ⟨_, rfl, n0⟩ := n0
  obtain ⟨_, rfl, n1⟩ := n1
  rcases n0 with ⟨b0, z0, l0, c0, p0, rfl, h0, g0, m0, r0⟩ | ⟨b0, z0, a0, rfl, h0⟩
  · rcases n1 with ⟨b1, z1, l1, c1, p1, rfl, h1, g1, m1, r1⟩ | ⟨b1, z1, a1, rfl, h1⟩
    · refine read_ok (P := Tryd.prog) envP_ok mixed noF_ok hfn (fun _ _ => rfl) (fun i c hi => ?_) (fun i => match i with | 0 => p0 | _ => p1) (fun ρ' hρ => ?_) (vcWideRemaindersAA b0 z0 h0 l0 c0 g0 m0 b1 z1 h1 l1 c1 g1 m1) W (fun i c hi => ?_)
      · rcases i with _ | _ | i <;> simp [nthO] at hi <;> subst hi <;> exact ⟨rfl, bsC_pure _⟩
      · have e0 : ρ' 0 = p0 := hρ 0 rfl
        have e1 : ρ' 1 = p1 := hρ 1 rfl
        simp only [List.map_cons, List.map_nil, SV.den, cellsL_cons, C.cells, e0, e1]
        rfl
      · rcases i with _ | _ | i
        · simp [nthO] at hi; subst hi; exact r0 _
        · simp [nthO] at hi; subst hi; exact r1 _
        · simp [nthO] at hi
    · refine read_ok (P := Tryd.prog) envP_ok mixed noF_ok hfn (fun _ _ => rfl) (fun i c hi => ?_) (fun i => match i with  | _ => p0) (fun ρ' hρ => ?_) (vcWideRemaindersAB b0 z0 h0 l0 c0 g0 m0 b1 z1 h1 a1) W (fun i c hi => ?_)
      · rcases i with _ | i <;> simp [nthO] at hi <;> subst hi <;> exact ⟨rfl, bsC_pure _⟩
      · have e0 : ρ' 0 = p0 := hρ 0 rfl
        simp only [List.map_cons, List.map_nil, SV.den, cellsL_cons, C.cells, e0]
        rfl
      · rcases i with _ | i
        · simp [nthO] at hi; subst hi; exact r0 _
        · simp [nthO] at hi
  · rcases n1 with ⟨b1, z1, l1, c1, p1, rfl, h1, g1, m1, r1⟩ | ⟨b1, z1, a1, rfl, h1⟩
    · refine read_ok (P := Tryd.prog) envP_ok mixed noF_ok hfn (fun _ _ => rfl) (fun i c hi => ?_) (fun i => match i with  | _ => p1) (fun ρ' hρ => ?_) (vcWideRemaindersBA b0 z0 h0 a0 b1 z1 h1 l1 c1 g1 m1) W (fun i c hi => ?_)
      · rcases i with _ | i <;> simp [nthO] at hi <;> subst hi <;> exact ⟨rfl, bsC_pure _⟩
      · have e1 : ρ' 0 = p1 := hρ 0 rfl
        simp only [List.map_cons, List.map_nil, SV.den, cellsL_cons, C.cells, e1]
        rfl
      · rcases i with _ | i
        · simp [nthO] at hi; subst hi; exact r1 _
        · simp [nthO] at hi
    · refine read_ok (P := Tryd.prog) envP_ok mixed noF_ok hfn (fun _ _ => rfl) (fun i c hi => ?_) (fun _ => (0, 0)) (fun ρ' hρ => ?_) (vcWideRemaindersBB b0 z0 h0 a0 b1 z1 h1 a1) W (fun i c hi => ?_)
      · simp [nthO] at hi
      · rfl
      · simp [nthO] at hi
theorem callWideQuotients {W : World} {v0 v1 v2 : Value} (n0 : NumAt W v0) (n1 : NumAt W v1) (n2 : NumAt W v2) : Calls Tryd.prog 4 #[v0, v1, v2] W fun e w' => e = .returned (.bool true) ∧ Below W.heap.size W w' := by
  have hfn : FnOk Tryd.prog 4 Tryd.f4 := ⟨Tryd.func4, by kernel_rfl, by kernel_rfl⟩
  obtain ⟨_, rfl, n0⟩ := n0
  obtain ⟨_, rfl, n1⟩ := n1
  obtain ⟨_, rfl, n2⟩ := n2
  rcases n0 with ⟨b0, z0, l0, c0, p0, rfl, h0, g0, m0, r0⟩ | ⟨b0, z0, a0, rfl, h0⟩
  · rcases n1 with ⟨b1, z1, l1, c1, p1, rfl, h1, g1, m1, r1⟩ | ⟨b1, z1, a1, rfl, h1⟩
    · rcases n2 with ⟨b2, z2, l2, c2, p2, rfl, h2, g2, m2, r2⟩ | ⟨b2, z2, a2, rfl, h2⟩
      · refine read_ok (P := Tryd.prog) envQ_ok mixed noF_ok hfn (fun _ _ => rfl) (fun i c hi => ?_) (fun i => match i with | 0 => p0 | 1 => p1 | _ => p2) (fun ρ' hρ => ?_) (vcWideQuotientsAAA b0 z0 h0 l0 c0 g0 m0 b1 z1 h1 l1 c1 g1 m1 b2 z2 h2 l2 c2 g2 m2) W (fun i c hi => ?_)
        · rcases i with _ | _ | _ | i <;> simp [nthO] at hi <;> subst hi <;> exact ⟨rfl, bsC_pure _⟩
        · have e0 : ρ' 0 = p0 := hρ 0 rfl
          have e1 : ρ' 1 = p1 := hρ 1 rfl
          have e2 : ρ' 2 = p2 := hρ 2 rfl
          simp only [List.map_cons, List.map_nil, SV.den, cellsL_cons, C.cells, e0, e1, e2]
          rfl
        · rcases i with _ | _ | _ | i
          · simp [nthO] at hi; subst hi; exact r0 _
          · simp [nthO] at hi; subst hi; exact r1 _
          · simp [nthO] at hi; subst hi; exact r2 _
          · simp [nthO] at hi
      · refine read_ok (P := Tryd.prog) envQ_ok mixed noF_ok hfn (fun _ _ => rfl) (fun i c hi => ?_) (fun i => match i with | 0 => p0 | _ => p1) (fun ρ' hρ => ?_) (vcWideQuotientsAAB b0 z0 h0 l0 c0 g0 m0 b1 z1 h1 l1 c1 g1 m1 b2 z2 h2 a2) W (fun i c hi => ?_)
        · rcases i with _ | _ | i <;> simp [nthO] at hi <;> subst hi <;> exact ⟨rfl, bsC_pure _⟩
        · have e0 : ρ' 0 = p0 := hρ 0 rfl
          have e1 : ρ' 1 = p1 := hρ 1 rfl
          simp only [List.map_cons, List.map_nil, SV.den, cellsL_cons, C.cells, e0, e1]
          rfl
        · rcases i with _ | _ | i
          · simp [nthO] at hi; subst hi; exact r0 _
          · simp [nthO] at hi; subst hi; exact r1 _
          · simp [nthO] at hi
    · rcases n2 with ⟨b2, z2, l2, c2, p2, rfl, h2, g2, m2, r2⟩ | ⟨b2, z2, a2, rfl, h2⟩
      · refine read_ok (P := Tryd.prog) envQ_ok mixed noF_ok hfn (fun _ _ => rfl) (fun i c hi => ?_) (fun i => match i with | 0 => p0 | _ => p2) (fun ρ' hρ => ?_) (vcWideQuotientsABA b0 z0 h0 l0 c0 g0 m0 b1 z1 h1 a1 b2 z2 h2 l2 c2 g2 m2) W (fun i c hi => ?_)
        · rcases i with _ | _ | i <;> simp [nthO] at hi <;> subst hi <;> exact ⟨rfl, bsC_pure _⟩
        · have e0 : ρ' 0 = p0 := hρ 0 rfl
          have e2 : ρ' 1 = p2 := hρ 1 rfl
          simp only [List.map_cons, List.map_nil, SV.den, cellsL_cons, C.cells, e0, e2]
          rfl
        · rcases i with _ | _ | i
          · simp [nthO] at hi; subst hi; exact r0 _
          · simp [nthO] at hi; subst hi; exact r2 _
          · simp [nthO] at hi
      · refine read_ok (P := Tryd.prog) envQ_ok mixed noF_ok hfn (fun _ _ => rfl) (fun i c hi => ?_) (fun i => match i with  | _ => p0) (fun ρ' hρ => ?_) (vcWideQuotientsABB b0 z0 h0 l0 c0 g0 m0 b1 z1 h1 a1 b2 z2 h2 a2) W (fun i c hi => ?_)
        · rcases i with _ | i <;> simp [nthO] at hi <;> subst hi <;> exact ⟨rfl, bsC_pure _⟩
        · have e0 : ρ' 0 = p0 := hρ 0 rfl
          simp only [List.map_cons, List.map_nil, SV.den, cellsL_cons, C.cells, e0]
          rfl
        · rcases i with _ | i
          · simp [nthO] at hi; subst hi; exact r0 _
          · simp [nthO] at hi
  · rcases n1 with ⟨b1, z1, l1, c1, p1, rfl, h1, g1, m1, r1⟩ | ⟨b1, z1, a1, rfl, h1⟩
    · rcases n2 with ⟨b2, z2, l2, c2, p2, rfl, h2, g2, m2, r2⟩ | ⟨b2, z2, a2, rfl, h2⟩
      · refine read_ok (P := Tryd.prog) envQ_ok mixed noF_ok hfn (fun _ _ => rfl) (fun i c hi => ?_) (fun i => match i with | 0 => p1 | _ => p2) (fun ρ' hρ => ?_) (vcWideQuotientsBAA b0 z0 h0 a0 b1 z1 h1 l1 c1 g1 m1 b2 z2 h2 l2 c2 g2 m2) W (fun i c hi => ?_)
        · rcases i with _ | _ | i <;> simp [nthO] at hi <;> subst hi <;> exact ⟨rfl, bsC_pure _⟩
        · have e1 : ρ' 0 = p1 := hρ 0 rfl
          have e2 : ρ' 1 = p2 := hρ 1 rfl
          simp only [List.map_cons, List.map_nil, SV.den, cellsL_cons, C.cells, e1, e2]
          rfl
        · rcases i with _ | _ | i
          · simp [nthO] at hi; subst hi; exact r1 _
          · simp [nthO] at hi; subst hi; exact r2 _
          · simp [nthO] at hi
      · refine read_ok (P := Tryd.prog) envQ_ok mixed noF_ok hfn (fun _ _ => rfl) (fun i c hi => ?_) (fun i => match i with  | _ => p1) (fun ρ' hρ => ?_) (vcWideQuotientsBAB b0 z0 h0 a0 b1 z1 h1 l1 c1 g1 m1 b2 z2 h2 a2) W (fun i c hi => ?_)
        · rcases i with _ | i <;> simp [nthO] at hi <;> subst hi <;> exact ⟨rfl, bsC_pure _⟩
        · have e1 : ρ' 0 = p1 := hρ 0 rfl
          simp only [List.map_cons, List.map_nil, SV.den, cellsL_cons, C.cells, e1]
          rfl
        · rcases i with _ | i
          · simp [nthO] at hi; subst hi; exact r1 _
          · simp [nthO] at hi
    · rcases n2 with ⟨b2, z2, l2, c2, p2, rfl, h2, g2, m2, r2⟩ | ⟨b2, z2, a2, rfl, h2⟩
      · refine read_ok (P := Tryd.prog) envQ_ok mixed noF_ok hfn (fun _ _ => rfl) (fun i c hi => ?_) (fun i => match i with  | _ => p2) (fun ρ' hρ => ?_) (vcWideQuotientsBBA b0 z0 h0 a0 b1 z1 h1 a1 b2 z2 h2 l2 c2 g2 m2) W (fun i c hi => ?_)
        · rcases i with _ | i <;> simp [nthO] at hi <;> subst hi <;> exact ⟨rfl, bsC_pure _⟩
        · have e2 : ρ' 0 = p2 := hρ 0 rfl
          simp only [List.map_cons, List.map_nil, SV.den, cellsL_cons, C.cells, e2]
          rfl
        · rcases i with _ | i
          · simp [nthO] at hi; subst hi; exact r2 _
          · simp [nthO] at hi
      · refine read_ok (P := Tryd.prog) envQ_ok mixed noF_ok hfn (fun _ _ => rfl) (fun i c hi => ?_) (fun _ => (0, 0)) (fun ρ' hρ => ?_) (vcWideQuotientsBBB b0 z0 h0 a0 b1 z1 h1 a1 b2 z2 h2 a2) W (fun i c hi => ?_)
        · simp [nthO] at hi
        · rfl
        · simp [nthO] at hi
theorem callWideDivisors {W : World} {v0 v1 v2 : Value} (n0 : NumAt W v0) (n1 : NumAt W v1) (n2 : NumAt W v2) : Calls Tryd.prog 5 #[v0, v1, v2] W fun e w' => e = .returned (.bool true) ∧ Below W.heap.size W w' := by
  have hfn : FnOk Tryd.prog 5 Tryd.f5 := ⟨Tryd.func5, by kernel_rfl, by kernel_rfl⟩
  obtain ⟨_, rfl, n0⟩ := n0
  obtain ⟨_, rfl, n1⟩ := n1
  obtain ⟨_, rfl, n2⟩ := n2
  rcases n0 with ⟨b0, z0, l0, c0, p0, rfl, h0, g0, m0, r0⟩ | ⟨b0, z0, a0, rfl, h0⟩
  · rcases n1 with ⟨b1, z1, l1, c1, p1, rfl, h1, g1, m1, r1⟩ | ⟨b1, z1, a1, rfl, h1⟩
    · rcases n2 with ⟨b2, z2, l2, c2, p2, rfl, h2, g2, m2, r2⟩ | ⟨b2, z2, a2, rfl, h2⟩
      · refine read_ok (P := Tryd.prog) envQ_ok mixed noF_ok hfn (fun _ _ => rfl) (fun i c hi => ?_) (fun i => match i with | 0 => p0 | 1 => p1 | _ => p2) (fun ρ' hρ => ?_) (vcWideDivisorsAAA b0 z0 h0 l0 c0 g0 m0 b1 z1 h1 l1 c1 g1 m1 b2 z2 h2 l2 c2 g2 m2) W (fun i c hi => ?_)
        · rcases i with _ | _ | _ | i <;> simp [nthO] at hi <;> subst hi <;> exact ⟨rfl, bsC_pure _⟩
        · have e0 : ρ' 0 = p0 := hρ 0 rfl
          have e1 : ρ' 1 = p1 := hρ 1 rfl
          have e2 : ρ' 2 = p2 := hρ 2 rfl
          simp only [List.map_cons, List.map_nil, SV.den, cellsL_cons, C.cells, e0, e1, e2]
          rfl
        · rcases i with _ | _ | _ | i
          · simp [nthO] at hi; subst hi; exact r0 _
          · simp [nthO] at hi; subst hi; exact r1 _
          · simp [nthO] at hi; subst hi; exact r2 _
          · simp [nthO] at hi
      · refine read_ok (P := Tryd.prog) envQ_ok mixed noF_ok hfn (fun _ _ => rfl) (fun i c hi => ?_) (fun i => match i with | 0 => p0 | _ => p1) (fun ρ' hρ => ?_) (vcWideDivisorsAAB b0 z0 h0 l0 c0 g0 m0 b1 z1 h1 l1 c1 g1 m1 b2 z2 h2 a2) W (fun i c hi => ?_)
        · rcases i with _ | _ | i <;> simp [nthO] at hi <;> subst hi <;> exact ⟨rfl, bsC_pure _⟩
        · have e0 : ρ' 0 = p0 := hρ 0 rfl
          have e1 : ρ' 1 = p1 := hρ 1 rfl
          simp only [List.map_cons, List.map_nil, SV.den, cellsL_cons, C.cells, e0, e1]
          rfl
        · rcases i with _ | _ | i
          · simp [nthO] at hi; subst hi; exact r0 _
          · simp [nthO] at hi; subst hi; exact r1 _
          · simp [nthO] at hi
    · rcases n2 with ⟨b2, z2, l2, c2, p2, rfl, h2, g2, m2, r2⟩ | ⟨b2, z2, a2, rfl, h2⟩
      · refine read_ok (P := Tryd.prog) envQ_ok mixed noF_ok hfn (fun _ _ => rfl) (fun i c hi => ?_) (fun i => match i with | 0 => p0 | _ => p2) (fun ρ' hρ => ?_) (vcWideDivisorsABA b0 z0 h0 l0 c0 g0 m0 b1 z1 h1 a1 b2 z2 h2 l2 c2 g2 m2) W (fun i c hi => ?_)
        · rcases i with _ | _ | i <;> simp [nthO] at hi <;> subst hi <;> exact ⟨rfl, bsC_pure _⟩
        · have e0 : ρ' 0 = p0 := hρ 0 rfl
          have e2 : ρ' 1 = p2 := hρ 1 rfl
          simp only [List.map_cons, List.map_nil, SV.den, cellsL_cons, C.cells, e0, e2]
          rfl
        · rcases i with _ | _ | i
          · simp [nthO] at hi; subst hi; exact r0 _
          · simp [nthO] at hi; subst hi; exact r2 _
          · simp [nthO] at hi
      · refine read_ok (P := Tryd.prog) envQ_ok mixed noF_ok hfn (fun _ _ => rfl) (fun i c hi => ?_) (fun i => match i with  | _ => p0) (fun ρ' hρ => ?_) (vcWideDivisorsABB b0 z0 h0 l0 c0 g0 m0 b1 z1 h1 a1 b2 z2 h2 a2) W (fun i c hi => ?_)
        · rcases i with _ | i <;> simp [nthO] at hi <;> subst hi <;> exact ⟨rfl, bsC_pure _⟩
        · have e0 : ρ' 0 = p0 := hρ 0 rfl
          simp only [List.map_cons, List.map_nil, SV.den, cellsL_cons, C.cells, e0]
          rfl
        · rcases i with _ | i
          · simp [nthO] at hi; subst hi; exact r0 _
          · simp [nthO] at hi
  · rcases n1 with ⟨b1, z1, l1, c1, p1, rfl, h1, g1, m1, r1⟩ | ⟨b1, z1, a1, rfl, h1⟩
    · rcases n2 with ⟨b2, z2, l2, c2, p2, rfl, h2, g2, m2, r2⟩ | ⟨b2, z2, a2, rfl, h2⟩
      · refine read_ok (P := Tryd.prog) envQ_ok mixed noF_ok hfn (fun _ _ => rfl) (fun i c hi => ?_) (fun i => match i with | 0 => p1 | _ => p2) (fun ρ' hρ => ?_) (vcWideDivisorsBAA b0 z0 h0 a0 b1 z1 h1 l1 c1 g1 m1 b2 z2 h2 l2 c2 g2 m2) W (fun i c hi => ?_)
        · rcases i with _ | _ | i <;> simp [nthO] at hi <;> subst hi <;> exact ⟨rfl, bsC_pure _⟩
        · have e1 : ρ' 0 = p1 := hρ 0 rfl
          have e2 : ρ' 1 = p2 := hρ 1 rfl
          simp only [List.map_cons, List.map_nil, SV.den, cellsL_cons, C.cells, e1, e2]
          rfl
        · rcases i with _ | _ | i
          · simp [nthO] at hi; subst hi; exact r1 _
          · simp [nthO] at hi; subst hi; exact r2 _
          · simp [nthO] at hi
      · refine read_ok (P := Tryd.prog) envQ_ok mixed noF_ok hfn (fun _ _ => rfl) (fun i c hi => ?_) (fun i => match i with  | _ => p1) (fun ρ' hρ => ?_) (vcWideDivisorsBAB b0 z0 h0 a0 b1 z1 h1 l1 c1 g1 m1 b2 z2 h2 a2) W (fun i c hi => ?_)
        · rcases i with _ | i <;> simp [nthO] at hi <;> subst hi <;> exact ⟨rfl, bsC_pure _⟩
        · have e1 : ρ' 0 = p1 := hρ 0 rfl
          simp only [List.map_cons, List.map_nil, SV.den, cellsL_cons, C.cells, e1]
          rfl
        · rcases i with _ | i
          · simp [nthO] at hi; subst hi; exact r1 _
          · simp [nthO] at hi
    · rcases n2 with ⟨b2, z2, l2, c2, p2, rfl, h2, g2, m2, r2⟩ | ⟨b2, z2, a2, rfl, h2⟩
      · refine read_ok (P := Tryd.prog) envQ_ok mixed noF_ok hfn (fun _ _ => rfl) (fun i c hi => ?_) (fun i => match i with  | _ => p2) (fun ρ' hρ => ?_) (vcWideDivisorsBBA b0 z0 h0 a0 b1 z1 h1 a1 b2 z2 h2 l2 c2 g2 m2) W (fun i c hi => ?_)
        · rcases i with _ | i <;> simp [nthO] at hi <;> subst hi <;> exact ⟨rfl, bsC_pure _⟩
        · have e2 : ρ' 0 = p2 := hρ 0 rfl
          simp only [List.map_cons, List.map_nil, SV.den, cellsL_cons, C.cells, e2]
          rfl
        · rcases i with _ | i
          · simp [nthO] at hi; subst hi; exact r2 _
          · simp [nthO] at hi
      · refine read_ok (P := Tryd.prog) envQ_ok mixed noF_ok hfn (fun _ _ => rfl) (fun i c hi => ?_) (fun _ => (0, 0)) (fun ρ' hρ => ?_) (vcWideDivisorsBBB b0 z0 h0 a0 b1 z1 h1 a1 b2 z2 h2 a2) W (fun i c hi => ?_)
        · simp [nthO] at hi
        · rfl
        · simp [nthO] at hi
end Go.Proofs.YtbhcmajeoamloaaDoor
