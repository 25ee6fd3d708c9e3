/- law 05: agrees. -/
import Derived.Test.YtdjpbccaglkafaaDoorHR3
namespace Go.Proofs.YtdjpbccaglkafaaDoor
open Go.RowKit
set_option maxRecDepth 100000

def sfC0 : List (FuncId × NewC) := [(21, cSame), (17, cFaults)]
theorem sfC0_ok : AllC Tryd.prog sfC0 := .cons csSame <| .cons csFaults .nil
def healRX : List (FuncId × NewC) := [(16, cHeal), (26, cHeal)]
theorem healRX_ok : AllX Tryd.prog healRX := .cons csHeal <| .cons csHealR .nil
def cAgree : NewC := fun args ros K => ∃ (nl : Bool) (cap : Nat) (ty : TypeId) (fam : List Ent) (l : List PY) (hl : SliOk nl l.length cap), args = [.c (.sli nl 0 0 l.length cap hl)] ∧ ros = [⟨.t ty, true, pysC l, 0⟩, ⟨.x fam, true, [], 3⟩] ∧ PysOk fam l ∧ K (.c (.val (.bool true))) []
set_option maxHeartbeats 16000000 in
theorem csAgree : CSpX Tryd.prog 12 cAgree := csp_ofX (envH_ok baseH_ok .nil 0) mixed (hnewX_ok healRX_ok (mix_ok sfC0_ok (envH_ok baseH_ok .nil 0) mixed noF_ok 0)) ⟨Tryd.func12, by kernel_rfl, by kernel_rfl⟩ fun args ros K hc => by
  obtain ⟨nl, cap, ty, fam, l, hl, rfl, rfl, hpy, hc⟩ := hc
  refine ⟨fun ρ ρ' e => ?_, ?_⟩
  · have := e 0 (Nat.zero_lt_succ _)
    simp only [List.map, SV.den, C.den, C.cells, this]
  conv => whnf
  refine ⟨1, ?_⟩
  conv => whnf
  refine ⟨.inr rfl, ⟨pysC_pure l, trivial⟩, ⟨_, _, _, _, l, _, rfl, rfl, hpy, fun o f ho hf => ?_⟩⟩
  conv => whnf
  refine ⟨1, ?_⟩
  conv => whnf
  refine ⟨.inr rfl, ⟨pysC_pure l, trivial⟩, ⟨_, _, _, _, l, _, rfl, rfl, hpy, fun o2 f2 ho2 hf2 => ?_⟩⟩
  conv => whnf
  refine ⟨⟨trsC_pure _, trsC_pure _, trivial⟩, ⟨_, _, _, _, _, _, _, _, _, _, o.l, o2.l, true, rfl, rfl, Nat.le_refl _, Nat.le_refl _, (by rw [List.take_length, List.take_length]; exact eqTs_iff.2 (ho.trans ho2.symm)), ?_⟩⟩
  conv => whnf
  refine ⟨⟨ftsC_pure _, ftsC_pure _, trivial⟩, ⟨_, _, _, _, _, _, _, _, _, _, f.l, f2.l, true, rfl, rfl, Nat.le_refl _, Nat.le_refl _, (by rw [List.take_length, List.take_length]; exact eqFs_iff.2 (hf.trans hf2.symm)), ?_⟩⟩
  conv => whnf
  refine ⟨[0, 1], [0], fun _ => ?_⟩
  conv => whnf
  refine ⟨pysC_pure l, ?_⟩
  conv => whnf
  exact ⟨_, [], rfl, ⟨⟨rfl, rfl, rfl, fun _ => rfl⟩, ⟨rfl, rfl, rfl, fun _ => rfl⟩, trivial⟩, trivial, _, fun _ => rfl, hc⟩
end Go.Proofs.YtdjpbccaglkafaaDoor
