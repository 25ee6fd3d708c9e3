/- shape: cubes or hills, by the reckoner. -/
import Derived.Test.YtapppahniablmaaDoorVox
import Derived.Test.YtapppahniablmaaDoorHills
namespace Go.Proofs.YtapppahniablmaaDoor
open Go.RowKit
set_option maxRecDepth 100000

/-- a list of numbers of the caller's, or an empty one -/
def okHs (v : SV) (ty : TypeId) (L : List ZI) : Prop := (∃ nl len cap h, v = .c (.sli nl 0 0 len cap h) ∧ len ≤ L.length) ∨ (∃ a cap, v = .c (.val (.slice a 0 cap)) ∧ L = [] ∧ ty = 0)
def okShape (args : List SV) (ros : List Blk) : Prop := ∃ b nl len cap h ty L, args = [.c (.val (.int .u32 b)), .c (.sli nl 0 0 len cap h)] ∧ ros = [⟨ty, true, intsC L, 0⟩] ∧ len ≤ L.length
/-- an empty list of heights -/
def okShape0 (args : List SV) (ros : List Blk) : Prop := ∃ b a cap, args = [.c (.val (.int .u32 b)), .c (.val (.slice a 0 cap))] ∧ ros = []
def cShape : NewC := fun args ros K => (okShape args ros ∧ ∀ o : OT, o.l.length ≤ 324 → K (o.sl 1) [o.blk]) ∨ (okShape0 args ros ∧ ∀ o : OT, o.l.length ≤ 324 → K (o.sl 0) [o.blk])
def makeC : List (FuncId × NewC) := [(46, cHills), (47, cSome 324 okVox)]
theorem makeC_ok : AllC Tryd.prog makeC := .cons csHills (.cons csVox .nil)
theorem min30 (n : Nat) : minI (n : Int) 30 = ((min n 30 : Nat) : Int) := by unfold minI; split <;> omega
theorem sliOk_le {nl : Bool} {len cap k : Nat} (h : SliOk nl len cap) (hk : k ≤ len) : SliOk nl k cap := ⟨Nat.le_trans hk h.1, h.2.1, h.2.2⟩
set_option maxHeartbeats 4000000 in
theorem csShape : CSp Tryd.prog 22 cShape := csp_of (env_ok base_ok 0) mixed (hnew_ok makeC_ok (inl_ok (env_ok base_ok 20) mixed modF_ok 1)) ⟨Tryd.func22, by kernel_rfl, by kernel_rfl⟩ fun args ros K hc => by
  rcases hc with ⟨⟨b, nl, len, cap, hl, ty, L, rfl, rfl, hL⟩, hc⟩ | ⟨⟨b, a, cap, rfl, rfl⟩, hc⟩
  · refine ⟨fun ρ ρ' e => ?_, ?_⟩
    · have := e 0 (Nat.zero_lt_one)
      simp only [List.map, SV.den, C.den, C.cells, this]
    conv => whnf
    refine bcase_intro (fun _ => ?_) (fun _ => ?_)
    · conv => whnf
      rw [eff_slice_hi (h2 := sliOk_le hl (Nat.min_le_left len 30)) (ho := ?hos) (hT := ?hTs) (hx := ?hxs) (hk := ?hks) (hlt := ?hlts)]
      case hos => rfl
      case hTs => rfl
      case hxs => rfl
      case hks => exact cint (min30 len) (sliOk_le hl (Nat.min_le_left len 30)).ir
      case hlts => exact Nat.le_trans (Nat.min_le_left len 30) hl.1
      conv => whnf
      refine ⟨⟨intsC_pure L, trivial⟩, ⟨_, _, _, _, _, _, _, L, rfl, isInt_mk, isInt_mk, rfl, Nat.le_trans (Nat.min_le_left len 30) hL⟩, fun o ho => ?_⟩
      conv => whnf
      refine ⟨[0, 1], [0, 1], fun vs => ?_⟩
      conv => whnf
      refine ⟨intsC_pure L, o.new.1, ?_⟩
      conv => whnf
      exact ⟨_, [o.blk], rfl, ⟨⟨rfl, rfl, rfl, fun _ => rfl⟩, ⟨rfl, rfl, rfl, fun _ => rfl⟩, trivial⟩, ⟨o.new, trivial⟩, o.sl 1, fun _ => rfl, hc o (by omega)⟩
    · conv => whnf
      refine ⟨fun _ _ => rfl, ?_⟩
      conv => whnf
      refine ⟨trivial, ⟨_, _, _, rfl, isInt_mk, isInt_mk, isPt_mk⟩, rfl, fun o ho => ?_⟩
      conv => whnf
      refine ⟨[0, 1], [0, 1], fun vs => ?_⟩
      conv => whnf
      refine ⟨intsC_pure L, o.new.1, ?_⟩
      conv => whnf
      exact ⟨_, [o.blk], rfl, ⟨⟨rfl, rfl, rfl, fun _ => rfl⟩, ⟨rfl, rfl, rfl, fun _ => rfl⟩, trivial⟩, ⟨o.new, trivial⟩, o.sl 1, fun _ => rfl, hc o (by omega)⟩
  · refine ⟨fun ρ ρ' _ => rfl, ?_⟩
    conv => whnf
    refine ⟨fun _ _ => rfl, ?_⟩
    conv => whnf
    refine ⟨trivial, ⟨_, _, _, rfl, isInt_mk, isInt_mk, isPt_mk⟩, rfl, fun o ho => ?_⟩
    conv => whnf
    refine ⟨[0], [0], fun vs => ?_⟩
    conv => whnf
    refine ⟨o.new.1, ?_⟩
    conv => whnf
    exact ⟨_, [o.blk], rfl, ⟨⟨rfl, rfl, rfl, fun _ => rfl⟩, trivial⟩, ⟨o.new, trivial⟩, o.sl 0, fun _ => rfl, hc o (by omega)⟩
end Go.Proofs.YtapppahniablmaaDoor
