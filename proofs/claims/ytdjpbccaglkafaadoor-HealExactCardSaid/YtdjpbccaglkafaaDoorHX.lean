/- law 05: HealExact. -/
import Derived.Test.YtdjpbccaglkafaaDoorHR4
import Derived.Test.YtdjpbccaglkafaaDoorH5R
namespace Go.Proofs.YtdjpbccaglkafaaDoor
open Go.RowKit
set_option maxRecDepth 100000

def exX : List (FuncId × NewC) := [(13, cPolys), (12, cAgree)]
theorem exX_ok : AllX Tryd.prog exX := .cons csPolys <| .cons csAgree .nil
set_option maxHeartbeats 16000000 in
theorem csEx : CSpX Tryd.prog 3 cLawR := csp_ofX (envL_ok 0) mixed (hnewX_ok exX_ok (mix_ok lawC_ok (envL_ok 0) mixed noF_ok 0)) ⟨Tryd.func3, by kernel_rfl, by kernel_rfl⟩ fun args ros K hc => by
  obtain ⟨⟨v, ty, fam, L, rfl, rfl, ⟨nl, cap, hl, rfl⟩ | ⟨a, c, rfl, rfl⟩, hin⟩, hc⟩ := hc
  · refine ⟨fun ρ ρ' e => ?_, ?_⟩
    · have := e 0 (Nat.zero_lt_succ _)
      simp only [List.map, SV.den, C.den, C.cells, this]
    conv => whnf
    refine ⟨trivial, ⟨rfl, rfl, ?_⟩⟩
    conv => whnf
    refine ⟨1, ?_⟩
    conv => whnf
    refine ⟨.inr rfl, ⟨lnsC_pure L, trivial⟩, .inl ⟨_, _, _, _, _, L, _, rfl, rfl, Nat.le_refl _, hin, fun o fam2 hI => ?_⟩⟩
    conv => whnf
    refine ⟨3, ?_⟩
    conv => whnf
    refine ⟨.inl rfl, ⟨pysC_pure o.l, trivial⟩, ⟨_, _, _, _, o.l, _, rfl, rfl, ⟨by rw [hI.len]; have := Nat.min_le_right L.length 30; omega, fun p hp => ⟨Nat.le_trans (hI.ps p hp).1 (by decide), (hI.ps p hp).2⟩⟩, ?_⟩⟩
    conv => whnf
    refine ⟨[0, 1], [0], fun _ => ?_⟩
    conv => whnf
    refine ⟨lnsC_pure _, ?_⟩
    conv => whnf
    exact ⟨_, [], rfl, ⟨⟨rfl, rfl, rfl, fun _ => rfl⟩, ⟨rfl, rfl, rfl, fun _ => rfl⟩, trivial⟩, trivial, _, fun _ => rfl, hc⟩
  · refine ⟨fun ρ ρ' e => rfl, ?_⟩
    conv => whnf
    refine ⟨trivial, ⟨rfl, rfl, ?_⟩⟩
    conv => whnf
    refine ⟨1, ?_⟩
    conv => whnf
    refine ⟨.inr rfl, trivial, .inr ⟨_, _, _, rfl, rfl, fun o fam2 hI => ?_⟩⟩
    conv => whnf
    refine ⟨3, ?_⟩
    conv => whnf
    refine ⟨.inl rfl, ⟨pysC_pure o.l, trivial⟩, ⟨_, _, _, _, o.l, _, rfl, rfl, ⟨by rw [hI.len]; decide, fun p hp => ⟨Nat.le_trans (hI.ps p hp).1 (by decide), (hI.ps p hp).2⟩⟩, ?_⟩⟩
    conv => whnf
    refine ⟨[0, 1], [0], fun _ => ?_⟩
    conv => whnf
    refine ⟨lnsC_pure _, ?_⟩
    conv => whnf
    exact ⟨_, [], rfl, ⟨⟨rfl, rfl, rfl, fun _ => rfl⟩, ⟨rfl, rfl, rfl, fun _ => rfl⟩, trivial⟩, trivial, _, fun _ => rfl, hc⟩
end Go.Proofs.YtdjpbccaglkafaaDoor
