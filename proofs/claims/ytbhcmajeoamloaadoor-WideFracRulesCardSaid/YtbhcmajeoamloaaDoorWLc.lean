/- law 01: the calls of WideFracs and WideFracRules. -/
import Derived.Test.YtbhcmajeoamloaaDoorWL
import Derived.Test.YtbhcmajeoamloaaDoorRowY
namespace Go.Proofs.YtbhcmajeoamloaaDoor
open Go.RowKit
set_option maxRecDepth 100000

set_option maxHeartbeats 4000000 in
theorem callWideFracs {W : World} {v0 v1 : Value} (n0 : Nums2At W v0) (n1 : Nums2At W v1) : Calls Tryd.prog 11 #[v0, v1] W fun e w' => e = .returned (.bool true) ∧ Below W.heap.size W w' := by
  have hfn : FnOk Tryd.prog 11 Tryd.f11 := ⟨Tryd.func11, by kernel_rfl, by kernel_rfl⟩
  obtain ⟨x0, x1, rfl, q0, q1⟩ := n0
  obtain ⟨x2, x3, rfl, q2, q3⟩ := n1
  obtain ⟨b0, z0, h0, c0, l0, p0, k0, d0, r0⟩ := q0.open
  obtain ⟨b1, z1, h1, c1, l1, p1, k1, d1, r1⟩ := q1.open
  obtain ⟨b2, z2, h2, c2, l2, p2, k2, d2, r2⟩ := q2.open
  obtain ⟨b3, z3, h3, c3, l3, p3, k3, d3, r3⟩ := q3.open
  have hρ0 : ∃ ρ : Rho, ρ 0 = p0 ∧ ρ 1 = p1 ∧ ρ 2 = p2 ∧ ρ 3 = p3 := ⟨fun i => match i with | 0 => p0 | 1 => p1 | 2 => p2 | _ => p3, rfl, rfl, rfl, rfl⟩
  obtain ⟨ρ, f0, f1, f2, f3⟩ := hρ0
  have key := read_ok (P := Tryd.prog) envG_ok mixed noF_ok hfn (v := SV.c (.val (.bool true))) (fun _ _ => rfl) (fun i c hi => ?_) ρ (fun ρ' hρ => ?_) (vcWideFracs b0 z0 h0 (c0 0) l0 (k0 0) b1 z1 h1 (c1 1) l1 (k1 1) b2 z2 h2 (c2 2) l2 (k2 2) b3 z3 h3 (c3 3) l3 (k3 3)) W (fun i c hi => ?_)
  · have e0 : cellsL ρ ([C.val (.bool b0), c0 0, .int z0 h0] ++ [C.val (.bool b1), c1 1, .int z1 h1]) = x0 ++ x1 := by rw [cellsL_append, d0 0 ρ f0, d1 1 ρ f1]
    have e1 : cellsL ρ ([C.val (.bool b2), c2 2, .int z2 h2] ++ [C.val (.bool b3), c3 3, .int z3 h3]) = x2 ++ x3 := by rw [cellsL_append, d2 2 ρ f2, d3 3 ρ f3]
    rw [← e0, ← e1]
    exact key
  · rcases i with _ | _ | _ | _ | i <;> simp [nthO] at hi <;> subst hi <;> exact ⟨rfl, bsC_pure _⟩
  · have g0 := (k0 0).cells (hρ 0 rfl)
    have g1 := (k1 1).cells (hρ 1 rfl)
    have g2 := (k2 2).cells (hρ 2 rfl)
    have g3 := (k3 3).cells (hρ 3 rfl)
    simp only [List.map_cons, List.map_nil, SV.den, cellsL_cons, g0, g1, g2, g3]
    rfl
  · rcases i with _ | _ | _ | _ | i
    · simp [nthO] at hi; subst hi; show W.rangeAt (ρ 0).1 (ρ 0).2 _; rw [f0]; exact r0 _
    · simp [nthO] at hi; subst hi; show W.rangeAt (ρ 1).1 (ρ 1).2 _; rw [f1]; exact r1 _
    · simp [nthO] at hi; subst hi; show W.rangeAt (ρ 2).1 (ρ 2).2 _; rw [f2]; exact r2 _
    · simp [nthO] at hi; subst hi; show W.rangeAt (ρ 3).1 (ρ 3).2 _; rw [f3]; exact r3 _
    · simp [nthO] at hi
set_option maxHeartbeats 4000000 in
theorem callWideFracRules {W : World} {v0 v1 : Value} (n0 : Nums3At W v0) (n1 : Nums3At W v1) : Calls Tryd.prog 12 #[v0, v1] W fun e w' => e = .returned (.bool true) ∧ Below W.heap.size W w' := by
  have hfn : FnOk Tryd.prog 12 Tryd.f12 := ⟨Tryd.func12, by kernel_rfl, by kernel_rfl⟩
  obtain ⟨x0, x1, x2, rfl, q0, q1, q2⟩ := n0
  obtain ⟨x3, x4, x5, rfl, q3, q4, q5⟩ := n1
  obtain ⟨b0, z0, h0, c0, l0, p0, k0, d0, r0⟩ := q0.open
  obtain ⟨b1, z1, h1, c1, l1, p1, k1, d1, r1⟩ := q1.open
  obtain ⟨b2, z2, h2, c2, l2, p2, k2, d2, r2⟩ := q2.open
  obtain ⟨b3, z3, h3, c3, l3, p3, k3, d3, r3⟩ := q3.open
  obtain ⟨b4, z4, h4, c4, l4, p4, k4, d4, r4⟩ := q4.open
  obtain ⟨b5, z5, h5, c5, l5, p5, k5, d5, r5⟩ := q5.open
  have hρ0 : ∃ ρ : Rho, ρ 0 = p0 ∧ ρ 1 = p1 ∧ ρ 2 = p2 ∧ ρ 3 = p3 ∧ ρ 4 = p4 ∧ ρ 5 = p5 := ⟨fun i => match i with | 0 => p0 | 1 => p1 | 2 => p2 | 3 => p3 | 4 => p4 | _ => p5, rfl, rfl, rfl, rfl, rfl, rfl⟩
  obtain ⟨ρ, f0, f1, f2, f3, f4, f5⟩ := hρ0
  have key := read_ok (P := Tryd.prog) envG_ok mixed noF_ok hfn (v := SV.c (.val (.bool true))) (fun _ _ => rfl) (fun i c hi => ?_) ρ (fun ρ' hρ => ?_) (vcWideFracRules b0 z0 h0 (c0 0) l0 (k0 0) b1 z1 h1 (c1 1) l1 (k1 1) b2 z2 h2 (c2 2) l2 (k2 2) b3 z3 h3 (c3 3) l3 (k3 3) b4 z4 h4 (c4 4) l4 (k4 4) b5 z5 h5 (c5 5) l5 (k5 5)) W (fun i c hi => ?_)
  · have e0 : cellsL ρ ([C.val (.bool b0), c0 0, .int z0 h0] ++ ([C.val (.bool b1), c1 1, .int z1 h1] ++ [C.val (.bool b2), c2 2, .int z2 h2])) = x0 ++ (x1 ++ x2) := by rw [cellsL_append, cellsL_append, d0 0 ρ f0, d1 1 ρ f1, d2 2 ρ f2]
    have e1 : cellsL ρ ([C.val (.bool b3), c3 3, .int z3 h3] ++ ([C.val (.bool b4), c4 4, .int z4 h4] ++ [C.val (.bool b5), c5 5, .int z5 h5])) = x3 ++ (x4 ++ x5) := by rw [cellsL_append, cellsL_append, d3 3 ρ f3, d4 4 ρ f4, d5 5 ρ f5]
    rw [← e0, ← e1]
    exact key
  · rcases i with _ | _ | _ | _ | _ | _ | i <;> simp [nthO] at hi <;> subst hi <;> exact ⟨rfl, bsC_pure _⟩
  · have g0 := (k0 0).cells (hρ 0 rfl)
    have g1 := (k1 1).cells (hρ 1 rfl)
    have g2 := (k2 2).cells (hρ 2 rfl)
    have g3 := (k3 3).cells (hρ 3 rfl)
    have g4 := (k4 4).cells (hρ 4 rfl)
    have g5 := (k5 5).cells (hρ 5 rfl)
    simp only [List.map_cons, List.map_nil, SV.den, cellsL_cons, g0, g1, g2, g3, g4, g5]
    rfl
  · rcases i with _ | _ | _ | _ | _ | _ | i
    · simp [nthO] at hi; subst hi; show W.rangeAt (ρ 0).1 (ρ 0).2 _; rw [f0]; exact r0 _
    · simp [nthO] at hi; subst hi; show W.rangeAt (ρ 1).1 (ρ 1).2 _; rw [f1]; exact r1 _
    · simp [nthO] at hi; subst hi; show W.rangeAt (ρ 2).1 (ρ 2).2 _; rw [f2]; exact r2 _
    · simp [nthO] at hi; subst hi; show W.rangeAt (ρ 3).1 (ρ 3).2 _; rw [f3]; exact r3 _
    · simp [nthO] at hi; subst hi; show W.rangeAt (ρ 4).1 (ρ 4).2 _; rw [f4]; exact r4 _
    · simp [nthO] at hi; subst hi; show W.rangeAt (ρ 5).1 (ρ 5).2 _; rw [f5]; exact r5 _
    · simp [nthO] at hi
end Go.Proofs.YtbhcmajeoamloaaDoor
