/- law 05: HealOrder called. -/
import Derived.Test.YtdjpbccaglkafaaDoorHO
namespace Go.Proofs.YtdjpbccaglkafaaDoor
open Go.RowKit
set_option maxRecDepth 100000

theorem call_lawRR {f : FuncId} (hf : CSpX Tryd.prog f cLawRR) {v1 v2 : C} {t1 t2 : TypeId} {fam1 fam2 : List Ent} {L M : List LN} {a b : Nat × Nat} (h1 : okRw [.c v1] [⟨.t t1, true, lnsC L, 0⟩, ⟨.x fam1, true, [], 3⟩] v1 t1 fam1 L) (h2 : okRw [.c v2] [⟨.t t2, true, lnsC M, 0⟩, ⟨.x fam2, true, [], 3⟩] v2 t2 fam2 M) (w : World)
    (hr1 : w.rangeAt a.1 a.2 (cellsL (fun _ => a) (lnsC L))) (hr2 : w.rangeAt b.1 b.2 (cellsL (fun _ => b) (lnsC M))) (hfm1 : ∀ e ∈ fam1, FamAt w.heap.size w false e) (hfm2 : ∀ e ∈ fam2, FamAt w.heap.size w false e) :
    Calls Tryd.prog f #[(SV.c v1).den (fun _ => a), (SV.c v2).den (fun _ => b)] w fun e w' => e = .returned (.bool true) ∧ Below w.heap.size w w' := by
  obtain ⟨-, -, hv1, hin1⟩ := h1
  obtain ⟨-, -, hv2, hin2⟩ := h2
  obtain ⟨ρ, hρ⟩ : ∃ ρ : Rho, ρ = fun i => if i = 1 then b else a := ⟨_, rfl⟩
  have hρ0 : ρ 0 = a := by rw [hρ]; rfl
  have hρ1 : ρ 1 = b := by rw [hρ]; rfl
  have e1 : okR1 0 v1 L ∧ (SV.c v1).den (fun _ => a) = (SV.c v1).den ρ := by
    rcases hv1 with ⟨nl, cap, hl, rfl⟩ | ⟨x, c, rfl, rfl⟩
    · exact ⟨.inl ⟨_, _, hl, rfl⟩, by simp only [SV.den, C.den, C.cells, hρ0]⟩
    · exact ⟨.inr ⟨_, _, rfl, rfl⟩, rfl⟩
  obtain ⟨u2, k2, e2⟩ : ∃ u2, okR1 1 u2 M ∧ (SV.c v2).den (fun _ => b) = (SV.c u2).den ρ := by
    rcases hv2 with ⟨nl, cap, hl, rfl⟩ | ⟨x, c, rfl, rfl⟩
    · exact ⟨.sli nl 1 0 M.length cap hl, .inl ⟨_, _, hl, rfl⟩, by simp only [SV.den, C.den, C.cells, hρ1]⟩
    · exact ⟨.val (.slice x 0 c), .inr ⟨_, _, rfl, rfl⟩, rfl⟩
  rw [e1.2, e2]
  refine (hf.2 [.c v1, .c u2] [⟨.t t1, true, lnsC L, 0⟩, ⟨.t t2, true, lnsC M, 0⟩, ⟨.x (fam1 ++ fam2), true, [], 3⟩] (fun u _ => u = .c (.val (.bool true)))
    ⟨⟨_, _, _, _, _, _, _, rfl, rfl, e1.1, k2, fun p hp => (hin1 p hp).imp id InF.left, fun p hp => (hin2 p hp).imp id InF.right⟩, rfl⟩ ⟨⟨rfl, rfl⟩, ⟨rfl, rfl⟩, ⟨rfl, rfl⟩, trivial⟩ ⟨lnsC_pure L, lnsC_pure M, fun _ _ => rfl, trivial⟩ ρ w (fun i c hi => ?_) (fun i b o l e hi hb he => ?_) (fun i b o l hi hb => ?_)).mono ?_
  · rcases i with _ | _ | _ | i <;> simp [nthO] at hi
    · subst hi
      rw [hρ0, show cellsL ρ (lnsC L) = cellsL (fun _ => a) (lnsC L) from lnsC_pure L _ _]; exact hr1
    · subst hi
      show w.rangeAt (ρ 1).1 (ρ 1).2 (cellsL ρ (lnsC M))
      rw [hρ1, show cellsL ρ (lnsC M) = cellsL (fun _ => b) (lnsC M) from lnsC_pure M _ _]; exact hr2
    · subst hi; exact fun j v h => by simp [cellsL] at h
  · rcases i with _ | _ | _ | i <;> simp [nthO] at hi
    · subst hi; cases hb
    · subst hi; cases hb
    · subst hi; cases hb
      rcases List.mem_append.1 he with he | he
      · exact hfm1 e he
      · exact hfm2 e he
  · rcases i with _ | _ | _ | i <;> simp [nthO] at hi
    · subst hi; cases hb
    · subst hi; cases hb
    · subst hi; cases hb; rfl
  · rintro e w' ⟨u, news, σ, rfl, _, hh, _, he⟩
    exact ⟨he σ (Agr.refl _ _), hh.bel.below⟩
end Go.Proofs.YtdjpbccaglkafaaDoor
