/- law 05: the reference's kind. -/
import Derived.Test.YtdjpbccaglkafaaDoorHR1
namespace Go.Proofs.YtdjpbccaglkafaaDoor
open Go.RowKit
set_option maxRecDepth 100000

def kindZ (t : TR) (l : List TR) : Int := if flatT t = true then 25 else if firstAl t l = 1 then 24 else if firstAl t l = 2 then 26 else 0
theorem ir_kind (t : TR) (l : List TR) : IR (kindZ t l) := by unfold kindZ; (repeat' split) <;> decide
theorem first_one {t : TR} {l : List TR} {k : Nat} (hk : k < l.length) {v : Int} (h : alT t l[k] = v) (hv : v ≠ 0) : firstAl t (l.drop k) = v := by
  rw [List.drop_eq_getElem_cons hk]
  unfold firstAl
  rw [if_neg (by rw [h]; exact hv)]; exact h
theorem first_skip {t : TR} {l : List TR} {k : Nat} (hk : k < l.length) (h : alT t l[k] = 0) : firstAl t (l.drop k) = firstAl t (l.drop (k + 1)) := by
  conv => lhs; rw [List.drop_eq_getElem_cons hk]
  conv => lhs; unfold firstAl
  rw [if_pos h]
def baseK : List (FuncId × Dn) := (19, dAl) :: baseH
theorem baseK_ok : AllOk baseK := .cons spAl baseH_ok
def cKind : NewC := fun args ros K => ∃ (na : Bool) (ca : Nat) (la : List TR) (ha : SliOk na la.length ca) (ta : TypeId) (t : TR), args = [.c (.sli na 0 0 la.length ca ha), .agg (trC t)] ∧ ros = [⟨.t ta, true, trsC la, 0⟩] ∧ K (.c (.int (kindZ t la) (ir_kind t la))) []
set_option maxHeartbeats 16000000 in
theorem csKind : CSp Tryd.prog 36 cKind := csp_of (envH_ok baseK_ok .nil 0) mixed (inl_ok (envH_ok baseK_ok .nil 0) mixed noF_ok 0) ⟨Tryd.func36, by kernel_rfl, by kernel_rfl⟩ fun args ros K hc => by
  obtain ⟨na, ca, la, ha, ta, t, rfl, rfl, hc⟩ := hc
  refine ⟨fun ρ ρ' e => ?_, ?_⟩
  · have e0 := e 0 (Nat.zero_lt_succ _)
    simp only [List.map, SV.den, C.den, C.cells, trC, e0]
    rfl
  conv => whnf
  refine bcase_intro (fun hfl => ?_) (fun hfl => ?_)
  · have hfl : flatT t = true := hfl
    conv => whnf
    refine ⟨[0], [0], fun _ => ?_⟩
    conv => whnf
    refine ⟨trsC_pure _, ?_⟩
    conv => whnf
    exact ⟨_, [], rfl, ⟨⟨rfl, rfl, rfl, fun _ => rfl⟩, trivial⟩, trivial, _, fun ρ => sint_e (by unfold kindZ; rw [if_pos hfl]) ρ, hc⟩
  · have hfl : flatT t = false := hfl
    conv => whnf
    refine loop_st (G := {k : Nat // k ≤ la.length ∧ firstAl t la = firstAl t (la.drop k)} × (Nat → Value)) (fun g => (.c (.sli na 0 0 la.length ca ha) :: .c (.val (g.2 1)) :: .c (.val (g.2 2)) :: .c (.ptr 1 0) :: .c (.val (g.2 4)) :: .c (.val (g.2 5)) :: .c (.int (g.1.1 : Nat) (ir_le3 g.1.2.1 ha.ir)) :: .c (.val (g.2 7)) :: .c (.val (g.2 8)) :: .c (.val (g.2 9)) :: .c (.val (g.2 10)) :: .c (.val (g.2 11)) :: .c (.val (g.2 12)) :: .c (.val (g.2 13)) :: .c (.val (g.2 14)) :: .c (.val (g.2 15)) :: .c (.val (g.2 16)) :: .c (.val (g.2 17)) :: .c (.val (g.2 18)) :: .c (.val (g.2 19)) :: .c (.val (g.2 20)) :: .c (.val (g.2 21)) :: .c (.val (g.2 22)) :: .c (.val (g.2 23)) :: .c (.val (g.2 24)) :: .c (.val (g.2 25)) :: [])) (fun _ => [⟨.t ta, true, trsC la, 0⟩, ⟨45, false, trC t, 0⟩]) (fun g => la.length - g.1.1) ?_ ?_
    · refine ⟨[0, 1], [0, 3, 6], [0], fun vs => ?_⟩
      conv => whnf
      refine ⟨trsC_pure _, ?_⟩
      conv => whnf
      refine ⟨_, _, ?_, ?_, (⟨0, Nat.zero_le _, rfl⟩, vs), rfl, rfl⟩
      · exact ⟨fun _ => rfl, fun _ => rfl, fun _ => rfl, fun _ => rfl, fun _ => rfl, fun _ => rfl, fun _ => rfl, stm _⟩
      · exact ⟨⟨rfl, rfl, rfl, fun _ => rfl⟩, ⟨rfl, rfl, rfl, fun _ => rfl⟩, trivial⟩
    · rintro ⟨⟨k, hk, he⟩, vs⟩
      have hk : k ≤ la.length := hk
      have he : firstAl t la = firstAl t (la.drop k) := he
      dsimp only
      conv => whnf
      refine bcase_intro (fun hlt => ?_) (fun hlt => ?_)
      · have hlt : k < la.length := n_lt hlt
        conv => whnf
        conv =>
          arg 2
          tactic' =>
            apply eff_index_sli (k := k) (hi := ir_le3 hk ha.ir) (ho := ?how14) (hT := ?hTw14) (hx := ?hxw14) (hk := ?hkw14) (hlt := ?hltw14)
            case how14 => rfl
            case hTw14 => rfl
            case hxw14 => rfl
            case hkw14 => rfl
            case hltw14 => exact hlt
        conv => whnf
        conv =>
          arg 2
          tactic' =>
            apply eff_load_sub (ho := ?how15) (hT := ?hTw15) (hx := ?hxw15) (hb := ?hbw15) (hm := ?hmw15) (hv := ?hvw15)
            case how15 => rfl
            case hTw15 => rfl
            case hxw15 => rfl
            case hbw15 => rfl
            case hmw15 => exact (by rw [Nat.zero_add]; exact subC_trs la hlt : subC (trsC la) (0 + k * 9) 9 = some (trC la[k]))
            case hvw15 => rfl
        conv => whnf
        refine bcase_intro (fun h1 => ?_) (fun h1 => ?_)
        · have h1 : alT t la[k] = 1 := of_decide_eq_true h1
          conv => whnf
          refine ⟨[0], [0], fun _ => ?_⟩
          conv => whnf
          refine ⟨trsC_pure _, ?_⟩
          conv => whnf
          exact ⟨_, [], rfl, ⟨⟨rfl, rfl, rfl, fun _ => rfl⟩, trivial⟩, trivial, _, fun ρ => sint_e (by unfold kindZ; rw [if_neg (by rw [hfl]; decide), he, first_one hlt h1 (by decide)]; rfl) ρ, hc⟩
        · have h1 : ¬ alT t la[k] = 1 := of_decide_eq_false h1
          conv => whnf
          refine bcase_intro (fun h2 => ?_) (fun h2 => ?_)
          · have h2 : alT t la[k] = 2 := of_decide_eq_true h2
            conv => whnf
            refine ⟨[0], [0], fun _ => ?_⟩
            conv => whnf
            refine ⟨trsC_pure _, ?_⟩
            conv => whnf
            exact ⟨_, [], rfl, ⟨⟨rfl, rfl, rfl, fun _ => rfl⟩, trivial⟩, trivial, _, fun ρ => sint_e (by unfold kindZ; rw [if_neg (by rw [hfl]; decide), he, first_one hlt h2 (by decide)]; rfl) ρ, hc⟩
          · have h2 : ¬ alT t la[k] = 2 := of_decide_eq_false h2
            have h3 : alT t la[k] = 0 := (al_val t la[k]).resolve_right fun h => h.elim h1 h2
            conv => whnf
            refine ⟨[0, 1], [0, 3, 6], [0], fun vs2 => ?_⟩
            conv => whnf
            refine ⟨trsC_pure _, ?_⟩
            conv => whnf
            refine ⟨_, _, ?_, ?_, (⟨k + 1, hlt, he.trans (first_skip hlt h3)⟩, vs2), (by omega : la.length - (k + 1) < la.length - k), rfl, rfl⟩
            · exact ⟨fun _ => rfl, fun _ => rfl, fun _ => rfl, fun _ => rfl, fun _ => rfl, fun _ => rfl, fun ρ => sint_e (wrap_add1 hlt ha.ir) ρ, stm _⟩
            · exact ⟨⟨rfl, rfl, rfl, fun _ => rfl⟩, ⟨rfl, rfl, rfl, fun _ => rfl⟩, trivial⟩
      · have hlt : la.length ≤ k := n_ge hlt
        conv => whnf
        refine ⟨[0], [0], fun _ => ?_⟩
        conv => whnf
        refine ⟨trsC_pure _, ?_⟩
        conv => whnf
        exact ⟨_, [], rfl, ⟨⟨rfl, rfl, rfl, fun _ => rfl⟩, trivial⟩, trivial, _, fun ρ => sint_e (by unfold kindZ; rw [if_neg (by rw [hfl]; decide), he, List.drop_eq_nil_iff.2 hlt]; rfl) ρ, hc⟩
end Go.Proofs.YtdjpbccaglkafaaDoor
