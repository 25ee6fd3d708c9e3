/- The reckoner: two families of one's own become one, ahead of a call. -/
import Derived.Test.YtdjpbccaglkafaaDoorFam
namespace Go.Proofs.YtdjpbccaglkafaaDoor
open Go.RowKit

def hmrg (H : FuncId → List SV → List Blk → (SV → List Blk → Prop) → Prop) (f : FuncId) (args : List SV) (hp : List Blk) (K : SV → List Blk → Prop) : Prop :=
  H f args hp K ∨ ∃ b1 b2, match nthO hp b1, nthO hp b2 with
    | some ⟨.x l1, true, [], 2⟩, some ⟨.x l2, true, [], 2⟩ => updK hp b1 ⟨.x (l1 ++ l2), true, [], 2⟩ fun hp' => H f args hp' K
    | _, _ => False
theorem hmrg_ok {P : Program} {H : FuncId → List SV → List Blk → (SV → List Blk → Prop) → Prop} (hH : HOk P H) : HOk P (hmrg H) := fun f args hp K h => by
  rcases h with h | ⟨b1, b2, h⟩
  · exact hH f args hp K h
  · split at h
    · rename_i l1 l2 h1 h2
      rw [updK_eq] at h
      refine ⟨(hH f args _ K h).1, fun N w0 ρ0 w hh hargs => ?_⟩
      have hsn : nthO (hp.set b1 (⟨.x (l1 ++ l2), true, [], 2⟩ : Blk)) = upF (nthO hp) b1 ⟨.x (l1 ++ l2), true, [], 2⟩ := nthO_set _ _ _ _ h1
      have hg : HRel N w0 (nthO (hp.set b1 (⟨.x (l1 ++ l2), true, [], 2⟩ : Blk))) ρ0 w := by
        rw [hsn]
        refine hh.ghost fun e he => ?_
        rcases List.mem_append.1 he with he | he
        · have := hh.fam b1 _ true l1 e h1 rfl he
          exact ⟨this.1, fun j c _ hj hc => this.2 j c hj hc⟩
        · have := hh.fam b2 _ true l2 e h2 rfl he
          exact ⟨this.1, fun j c _ hj hc => this.2 j c hj hc⟩
      have hs : ∀ i, (nthO hp i).isSome = true → (nthO (hp.set b1 (⟨.x (l1 ++ l2), true, [], 2⟩ : Blk)) i).isSome = true := fun i hi => by
        rw [hsn]; unfold upF; split
        · rfl
        · exact hi
      refine ((hH f args _ K h).2 N w0 ρ0 w hg fun ρ hρ => hargs ρ fun i hi => hρ i (hs i hi)).mono ?_
      rintro e w' ⟨v, hp2, ρ1, k1, k2, k3, k4⟩
      exact ⟨v, hp2, ρ1, k1, k2, fun i hi => k3 i (hs i hi), k4⟩
    · exact h.elim
end Go.Proofs.YtdjpbccaglkafaaDoor
