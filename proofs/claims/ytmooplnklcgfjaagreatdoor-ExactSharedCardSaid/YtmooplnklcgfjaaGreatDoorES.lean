/- What a function hands back, for whatever is known of others. -/
import Derived.Test.YtmooplnklcgfjaaGreatDoorEQ
import Derived.Test.YtmooplnklcgfjaaGreatDoorEno
namespace Go.Proofs.YtmooplnklcgfjaaGreatDoor
open Go.RowKit

abbrev Rn := FuncId → List (Nat × Nat) → (Nat → Option Blk) → Option (List (List SV))
def noR : Rn := fun _ _ _ => none
def ROk (R : Rn) : Prop := ∀ f caps hf xs, R f caps hf = some xs → Callable Tryz.prog f ∧ (∀ x ∈ xs, ∀ y ∈ x, ∀ ρ ρ', y.den ρ = y.den ρ') ∧ ∀ ρ : Rho,
  IterOk Tryz.prog f (caps.map fun p => adr ρ p.1 p.2).toArray (fun k => ((nth [] xs k).map (SV.den ρ)).toArray) xs.length (fun w => ∀ p ∈ caps, ∀ blk, hf p.1 = some blk → Holds ρ blk p.1 w)
theorem noR_ok : ROk noR := fun _ _ _ _ h => by cases h
def envE (un : Nat) (l : List (FuncId × Dn)) (r : List (FuncId × Dr)) (ord : Nat → Bool) (R : Rn) : Env where
  T := tyT
  un := un
  D := fun f args hf => match lkD l f args with | some x => some x | none => lkR r f args hf
  O := oAll tyT
  ord := ord
  R := R
theorem envE_ok {l : List (FuncId × Dn)} (hl : AllOk l) {r : List (FuncId × Dr)} (hr : AllR r) (un : Nat) (ord : Nat → Bool) {R : Rn} (hR : ROk R) : EOk Tryz.prog (envE un l r ord R) := ⟨tyT_ok, (envR_ok hl hr un).D, oAll_ok tyT_ok, hR⟩
theorem sp_ofE {f : FuncId} {fn : Func} (hf : FnOk Tryz.prog f fn) {E : Env} (hE : EOk Tryz.prog E) {F : FuncId → Option Func} (hF : ∀ f fn, F f = some fn → FnOk Tryz.prog f fn) {n : Nat} {d : Dn}
    (h : ∀ args p v, d args = some (p, v) → ∃ args', (∀ ρ, args.map (SV.den ρ) = args'.map (SV.den ρ)) ∧ (∀ ρ ρ', v.den ρ = v.den ρ') ∧ (∀ ρ ρ', args'.map (SV.den ρ) = args'.map (SV.den ρ')) ∧
      ((∀ q, p = some q → q) → vcF E (inl E F n) fn args' [] fun u _ => ∀ ρ, u.den ρ = v.den ρ)) : SpOk Tryz.prog f d :=
  ⟨hf.callable, fun args p v hd => by
    obtain ⟨args', h0, h1, h2, h3⟩ := h args p v hd
    exact ⟨h1, fun hp ρ w => by rw [h0]; exact pure_ok hE mixed hF hf h1 h2 (h3 hp) ρ w⟩⟩
end Go.Proofs.YtmooplnklcgfjaaGreatDoor
