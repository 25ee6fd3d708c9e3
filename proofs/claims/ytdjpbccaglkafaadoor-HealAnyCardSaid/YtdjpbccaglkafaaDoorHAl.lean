/- law 05: HealAny called. -/
import Derived.Test.YtdjpbccaglkafaaDoorHA
import Derived.Test.YtdjpbccaglkafaaDoorRowA
namespace Go.Proofs.YtdjpbccaglkafaaDoor
open Go.RowKit
set_option maxRecDepth 100000

theorem call_lawA {f : FuncId} (hf : CSpX Tryd.prog f cLawA) {v : C} {ty : TypeId} {fam : List Ent} {L : List PN} {a : Nat × Nat} (hv : okPw [.c v] [⟨.t ty, true, pnsC L, 0⟩, ⟨.x fam, true, [], 3⟩] v ty fam L) (w : World) (hr : w.rangeAt a.1 a.2 (cellsL (fun _ => a) (pnsC L))) (hfm : ∀ e ∈ fam, FamAt w.heap.size w false e) :
    Calls Tryd.prog f #[(SV.c v).den (fun _ => a)] w fun e w' => e = .returned (.bool true) ∧ Below w.heap.size w w' := by
  refine (hf.2 [.c v] [⟨.t ty, true, pnsC L, 0⟩, ⟨.x fam, true, [], 3⟩] (fun u _ => u = .c (.val (.bool true))) ⟨⟨_, _, _, _, hv⟩, rfl⟩ ⟨⟨rfl, rfl⟩, ⟨rfl, rfl⟩, trivial⟩ ⟨pnsC_pure L, fun _ _ => rfl, trivial⟩ (fun _ => a) w (fun i c hi => ?_) (fun i b o l e hi hb he => ?_) (fun i b o l hi hb => ?_)).mono ?_
  · rcases i with _ | _ | i <;> simp [nthO] at hi
    · subst hi; exact hr
    · subst hi; exact fun j v h => by simp [cellsL] at h
  · rcases i with _ | _ | i <;> simp [nthO] at hi
    · subst hi; cases hb
    · subst hi; cases hb; exact hfm e he
  · rcases i with _ | _ | i <;> simp [nthO] at hi
    · subst hi; cases hb
    · subst hi; cases hb; rfl
  · rintro e w' ⟨u, news, σ, rfl, _, hh, _, he⟩
    exact ⟨he σ (Agr.refl _ _), hh.bel.below⟩
end Go.Proofs.YtdjpbccaglkafaaDoor
