/- Functions of values alone, however they are walked. -/
import Derived.Test.YthmdmbpecgakkaaDoorVgb
namespace Go.Proofs.YthmdmbpecgakkaaDoor
open Go.RowKit

theorem pureH_ok {P : Program} {E : Env} (hE : EOk P E) (hm : P.follows .mixedOrders = true) {H : FuncId → List SV → List Blk → (SV → List Blk → Prop) → Prop} (hH : HOk P H) {f : FuncId} {fn : Func} (hf : FnOk P f fn) {args : List SV} {v : SV} (hpure : ∀ ρ ρ', v.den ρ = v.den ρ') (hap : ∀ ρ ρ', args.map (SV.den ρ) = args.map (SV.den ρ'))
    (h : vcF E H fn args [] fun u _ => ∀ ρ, u.den ρ = v.den ρ) (ρ : Rho) (w : World) :
    Calls P f (args.map (SV.den ρ)).toArray w fun e w' => e = .returned (v.den ρ) ∧ Below w.heap.size w w' := by
  have hh : HRel w.heap.size ⟨w, fun _ => False, ρ, 0⟩ (nthO []) ρ w := ⟨fun i b h => by simp [nthO] at h, fun i b h => by simp [nthO] at h, fun i j b c h => by simp [nthO] at h, fun ρ _ i b h => by simp [nthO] at h, BelO.refl _ _, Nat.le_refl _, fun i h => h.elim, fun i b e h => by simp [nthO] at h, fun i j b c h => by simp [nthO] at h, fun i b o l e h => by simp [nthO] at h⟩
  refine (fn_ok hE hm hH hf h w.heap.size _ ρ w hh (fun ρ' _ => hap ρ' ρ)).mono ?_
  rintro e w' ⟨u, hp', ρ1, hu, hh', -, he⟩
  have := he ρ1 (Agr.refl _ _)
  exact ⟨by rw [this, hu ρ1, hpure ρ1 ρ], hh'.bel.below⟩
/-- a contract of a function of values, by a walk with whatever is known of calls -/
theorem sp_ofH {E : Env} (hE : EOk Tryd.prog E) {H : FuncId → List SV → List Blk → (SV → List Blk → Prop) → Prop} (hH : HOk Tryd.prog H) {f : FuncId} {fn : Func} (hf : FnOk Tryd.prog f fn) {d : Dn}
    (h : ∀ args p v, d args = some (p, v) → (∀ ρ ρ', v.den ρ = v.den ρ') ∧ (∀ ρ ρ', args.map (SV.den ρ) = args.map (SV.den ρ')) ∧ ((∀ q, p = some q → q) → vcF E H fn args [] fun u _ => ∀ ρ, u.den ρ = v.den ρ)) : SpOk Tryd.prog f d :=
  ⟨hf.callable, fun args p v hd => by
    obtain ⟨h1, h2, h3⟩ := h args p v hd
    exact ⟨h1, fun hp ρ w => pureH_ok hE mixed hH hf h1 h2 (h3 hp) ρ w⟩⟩
end Go.Proofs.YthmdmbpecgakkaaDoor
