/- law 05: the frame of a law. -/
import Derived.Test.YtdjpbccaglkafaaDoorH5
namespace Go.Proofs.YtdjpbccaglkafaaDoor
open Go.RowKit
set_option maxRecDepth 100000

def lawC : List (FuncId × NewC) := (11, cSan) :: sfC
theorem lawC_ok : AllC Tryd.prog lawC := .cons csSan sfC_ok
theorem pure_okL {un : Nat} {f : FuncId} {fn : Func} (hf : FnOk Tryd.prog f fn) {args : List SV} {v : SV} (hpure : ∀ ρ ρ', v.den ρ = v.den ρ') (hap : ∀ ρ ρ', args.map (SV.den ρ) = args.map (SV.den ρ'))
    (h : vcF (envL un) (hL lawC (envL un)) fn args [] fun u _ => ∀ ρ, u.den ρ = v.den ρ) (ρ : Rho) (w : World) :
    Calls Tryd.prog f (args.map (SV.den ρ)).toArray w fun e w' => e = .returned (v.den ρ) ∧ Below w.heap.size w w' := by
  have hh : HRel w.heap.size ⟨w, fun _ => False, ρ, 0⟩ (nthO []) ρ w := ⟨fun i b h => by simp [nthO] at h, fun i b h => by simp [nthO] at h, fun i j b c h => by simp [nthO] at h, fun ρ _ i b h => by simp [nthO] at h, BelO.refl _ _, Nat.le_refl _, fun i h => h.elim, fun i b e h => by simp [nthO] at h, fun i j b c h => by simp [nthO] at h, fun i b o l e h => by simp [nthO] at h⟩
  refine (fn_ok (envL_ok un) mixed (hL_ok lawC_ok (envL_ok un)) hf h w.heap.size _ ρ w hh (fun ρ' _ => hap ρ' ρ)).mono ?_
  rintro e w' ⟨u, hp', ρ1, hu, hh', -, he⟩
  have := he ρ1 (Agr.refl _ _)
  exact ⟨by rw [this, hu ρ1, hpure ρ1 ρ], hh'.bel.below⟩
theorem true_ok {b : Bool} (h : b = true) (ρ : Rho) : (SV.c (.val (.bool b))).den ρ = (SV.c (.val (.bool true))).den ρ := by rw [h]
theorem eqP_comm (a b : PT) : eqP a b = eqP b a := by
  cases h : eqP b a with
  | true => rw [eqP_iff.1 h]; exact eqP_iff.2 rfl
  | false => cases h2 : eqP a b with
    | true => rw [eqP_iff.1 h2, eqP_iff.2 rfl] at h; cases h
    | false => rfl
/-- a polygon of three corners -/
theorem clean3 {a b c : PT} : (cleanP [a, b, c] = [a, b, c] ∧ flatT ⟨a, b, c⟩ = flatT ⟨a, b, c⟩) ∨ ((cleanP [a, b, c]).length < 3 ∧ flatT ⟨a, b, c⟩ = true) := by
  have key : eqP b a = true ∨ eqP c b = true ∨ eqP a c = true → flatT ⟨a, b, c⟩ = true := fun h => by
    cases hf : flatT ⟨a, b, c⟩ with
    | true => rfl
    | false =>
      obtain ⟨d1, d2, d3⟩ := flat_dst hf
      exfalso
      rcases h with h | h | h
      · exact d1 (by rw [eqP_iff.1 h])
      · exact d2 (by rw [eqP_iff.1 h])
      · exact d3 (by rw [eqP_iff.1 h])
  have e1 := eqP_comm a b
  cases h1 : eqP b a <;> cases h2 : eqP c b <;> cases h3 : eqP a c <;> rw [h1] at e1
  all_goals first
    | (left; refine ⟨?_, rfl⟩; simp [cleanP, cmpT, trimN, h1, h2, h3, e1]; done)
    | (right; refine ⟨?_, key (by simp [h1, h2, h3])⟩; simp [cleanP, cmpT, trimN, h1, h2, h3, e1]; done)
theorem poly3 {st : SH} {p : PY} {a b c : PT} (h : p.cor = [a, b, c]) : polyT st p = stepT p.pl p.hp st ⟨a, b, c⟩ := by
  unfold polyT
  rw [h]
  rcases @clean3 a b c with ⟨h1, -⟩ | ⟨h1, h2⟩
  · rw [h1]; rfl
  · rw [if_pos h1]
    unfold stepT
    rw [if_pos h2]
theorem heal1 {p : PY} {a b c : PT} (h : p.cor = [a, b, c]) : healT [p] = stepT p.pl p.hp ⟨[], []⟩ ⟨a, b, c⟩ := poly3 h
theorem heal1_flat {p : PY} {a b c : PT} (h : p.cor = [a, b, c]) (hf : flatT ⟨a, b, c⟩ = true) : healT [p] = ⟨[], [⟨p.pl, 25, p.hp, ir25⟩]⟩ := by rw [heal1 h]; unfold stepT; rw [if_pos hf]; rfl
theorem heal1_tri {p : PY} {a b c : PT} (h : p.cor = [a, b, c]) (hf : flatT ⟨a, b, c⟩ = false) : healT [p] = ⟨[⟨a, b, c⟩], []⟩ := by rw [heal1 h]; unfold stepT; rw [hf, if_neg (by decide)]; rfl
end Go.Proofs.YtdjpbccaglkafaaDoor
