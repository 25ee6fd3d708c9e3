/- view.Choose: the coarsest cut that fits. -/
import Derived.Test.YthmdmbpecgakkaaDoorVCp
namespace Go.Proofs.YthmdmbpecgakkaaDoor
open Go.RowKit
set_option maxRecDepth 100000

theorem repX_bl : ∀ n : Nat, List.replicate n (C.val (.bool false)) = blC (List.replicate n false)
 | 0 => rfl
 | n + 1 => by rw [List.replicate_succ, repX_bl n]; rfl
theorem spl_bl (l : List Bool) {k : Nat} (hk : k < l.length) (b : Bool) : spliceC (blC l) (0 + k * 1) [.val (.bool b)] = some (blC (l.set k b)) := by
 rw [blC_rw, blC_rw]
 exact spliceC_rw boolR l hk b
theorem trues_zero (n : Nat) : trues 0 n = List.replicate n false := rfl
def cChoose : NewC := fun args ros K => ∃ n1 CL c1 h1 n2 L c2 h2 fam tc td v, args = [.agg [.sli n1 0 0 CL.length c1 h1, .sli n2 1 0 (List.length L) c2 h2], .agg (vwC v)] ∧ ros = [⟨.t tc, true, cusC CL, 0⟩, ⟨.t td, true, gusC L, 0⟩, ⟨.x fam, true, [], 3⟩] ∧ ((∀ c ∈ CL, c.Ok fam) ∧ ∀ g ∈ L, g.Ok fam) ∧ CL.length ≤ 100000000000 ∧ L.length ≤ 1000000000 ∧
 ∀ o : OL Bool, (SndP CL L → ChS CL L v (List.replicate L.length true) o.l) → (¬ SndP CL L → o.l = []) → K (o.sl 3) [o.blk boolR 4]
theorem vld_false {CL : List CU} {L : List GU} : VldP CL L (List.replicate L.length false) ↔ SndP CL L := by
 constructor
 ·exact fun h => h.1
 ·refine fun h => ⟨h, List.length_replicate, fun k hk ht => ?_⟩
  rw [List.getElem?_replicate, if_pos hk] at ht
  cases ht
set_option maxHeartbeats 16000000 in
theorem csChoose : CSpX Tryd.prog 12 cChoose := csp_ofX (envW_ok 0) mixed (hnewG_ok (.cons csValid (.cons csNext (.cons csRefine .nil))) (inl_ok (envW_ok 0) mixed noF_ok 0)) ⟨Tryd.func12, by kernel_rfl, by kernel_rfl⟩ fun args ros K hc => by
 obtain ⟨n1, CL, c1, h1, n2, L, c2, h2, fam, tc, td, v, rfl,rfl,⟨hCL, hL⟩, hCLn, hLn, hc⟩ := hc
 refine ⟨fun ρ ρ' e => ?_, ?_⟩
 ·have e0 := e 0 (Nat.zero_lt_succ _)
  have e1 := e 1 (by decide : 1 < 3)
  simp only [List.map, SV.den, C.cells, e0, e1, List.flatMap_cons, List.flatMap_nil, cellsL]
  rfl
 conv => whnf
 refine .inl ?_
 conv => whnf
 refine ⟨rfl, L.length, L.length, rfl,rfl,Nat.le_refl _, hLn, fun hN => ?_⟩
 rw [show repX L.length zb = _ from repX_bl L.length]
 conv => whnf
 refine ⟨2, [0,1,5], [.agg [.sli n1 0 0 CL.length c1 h1, .sli n2 1 0 L.length c2 h2], .c (.sli false 2 0 (List.length (List.replicate L.length false)) L.length (by rw [List.length_replicate]; exact hN))], (fun ρ ρ' e => by
  show List.map (SV.den ρ) [.agg [.sli n1 0 0 CL.length c1 h1, .sli n2 1 0 L.length c2 h2], .c (.sli false 5 0 L.length L.length hN)] = _
  have e0 := e 0 _ rfl
  have e1 := e 1 _ rfl
  have e2 := e 2 _ rfl
  simp only [List.map, SV.den, C.den, C.cells, e0, e1, e2, List.flatMap_cons, List.flatMap_nil, cellsL, List.length_replicate]), .inr rfl, ⟨cusC_pure CL, gusC_pure L, blC_pure _, trivial⟩, n1, CL, c1, h1, n2, L, c2, h2, false, (List.replicate L.length false), L.length, (by rw [List.length_replicate]; exact hN), fam, _, _, _, rfl,rfl,hL, fun b hb => ?_⟩
 rw [vld_false] at hb
 conv => whnf
 refine bcase_intro (fun hz => ?_) (fun hz => ?_)
 ·have hv : ¬ SndP CL L := fun h => by rw [hb.2 h] at hz; cases hz
  conv => whnf
  refine ⟨[0, 1, 2, 1000 + 4], [0,1], fun vs9 => ?_⟩
  conv => whnf
  refine ⟨cusC_pure CL, gusC_pure L, ?_⟩
  conv => whnf
  exact ⟨_, [OL.none.blk boolR 4], rfl, ⟨⟨rfl,rfl,rfl, fun _=>rfl⟩, ⟨rfl,rfl,rfl, fun _=>rfl⟩, ⟨rfl,rfl,rfl, fun _=>rfl⟩, ⟨rfl,rfl,rfl, fun _=>rfl⟩, trivial⟩, ⟨OL.new OL.none boolR _, trivial⟩, OL.none.sl 3, fun _=>rfl,hc OL.none (fun h => absurd h hv) (fun _=>rfl)⟩
 ·have hv : SndP CL L := hb.1 (by cases b with | true => rfl | false => cases hz)
  conv => whnf
  refine loop_st (G := {k : Nat // k ≤ L.length} × (Nat → Value)) (fun g => (.c (.val (g.2 0)) :: .c (.val (g.2 1)) :: .c (.ptr 3 0) :: .c (.ptr 4 0) :: .c (.val (g.2 4)) :: .c (.sli false 5 0 L.length L.length hN) :: .c (.val (g.2 6)) :: .c (.val (g.2 7)) :: .c (.val (g.2 8)) :: .c (.val (g.2 9)) :: .c (.val (g.2 10)) :: .c (.val (g.2 11)) :: .c (.val (g.2 12)) :: .c (.val (g.2 13)) :: .c (.val (g.2 14)) :: .c (.val (g.2 15)) :: .c (.val (g.2 16)) :: .c (.sli false 5 0 L.length L.length hN) :: .c (.int (L.length : Nat) (lt_irV hN (Nat.le_refl _))) :: .c (.int (g.1.1 : Nat) (lt_irV hN g.1.2)) :: .c (.val (g.2 20)) :: .c (.val (g.2 21)) :: .c (.val (g.2 22)) :: .c (.val (g.2 23)) :: .c (.val (g.2 24)) :: .c (.val (g.2 25)) :: .c (.val (g.2 26)) :: .c (.val (g.2 27)) :: .c (.val (g.2 28)) :: .c (.val (g.2 29)) :: .c (.val (g.2 30)) :: .c (.val (g.2 31)) :: .c (.val (g.2 32)) :: .c (.val (g.2 33)) :: .c (.val (g.2 34)) :: .c (.val (g.2 35)) :: .c (.val (g.2 36)) :: .c (.val (g.2 37)) :: .c (.val (g.2 38)) :: .c (.val (g.2 39)) :: [])) (fun g => [⟨.t tc, true, cusC CL, 0⟩, ⟨.t td, true, gusC L, 0⟩, ⟨.x fam, true, [], 3⟩, ⟨53, false, [.sli n1 0 0 CL.length c1 h1, .sli n2 1 0 L.length c2 h2], 0⟩, ⟨25, false, vwC v, 0⟩, ⟨4, false, blC (trues g.1.1 L.length), L.length - L.length⟩]) (fun g => L.length - g.1.1) ?_ ?_
  ·refine ⟨[0,1,2,3,4,5], [2,3,5,17,18,19], [0,1,5], fun vs6 => ?_⟩
   conv => whnf
   refine ⟨cusC_pure CL, gusC_pure L, blC_pure _, ?_⟩
   conv => whnf
   refine ⟨_, _, ?_, ?_, (⟨0, Nat.zero_le _⟩, vs6), rfl, rfl⟩
   ·exact (by (iterate 20 refine ⟨fun _=>rfl,?_⟩); exact stm _)
   ·exact (by (iterate 6 refine ⟨⟨rfl,rfl,rfl, fun _=>rfl⟩, ?_⟩); exact trivial)
  ·rintro ⟨⟨k, hk⟩, vs6⟩
   have hk : k ≤ L.length := hk
   dsimp only
   conv => whnf
   refine bcase_intro (fun hlt => ?_) (fun hlt => ?_)
   ·have hlt : k < L.length := n_lt hlt
    have hki : IR (k : Int) := lt_irV hN hk
    conv => whnf
    conv =>
     arg 2
     tactic' =>
      apply eff_index_sli (k := k) (hi := hki) (ho := ?how47) (hT := ?hTw47) (hx := ?hxw47) (hk := ?hkw47) (hlt := ?hltw47)
      case how47 => rfl
      case hTw47 => rfl
      case hxw47 => rfl
      case hkw47 => rfl
      case hltw47 => exact hlt
    conv => whnf
    conv =>
     arg 2
     tactic' =>
      apply eff_store_at (l := [.val (.bool true)]) (cs := blC ((trues k L.length).set k true)) (ho := ?how48) (hT := ?hTw48) (hx := ?hxw48) (hy := ?hyw48) (hl := ?hlw48) (hb := ?hbw48) (hro := ?hrow48) (hs := ?hsw48)
      case how48 => rfl
      case hTw48 => rfl
      case hxw48 => rfl
      case hyw48 => rfl
      case hlw48 => exact ⟨rfl, rfl⟩
      case hbw48 => rfl
      case hrow48 => rfl
      case hsw48 => exact spl_bl _ (by rw [trues_len hk]; exact hlt) true
    conv => whnf
    rw [forceL_eq, trues_set hlt]
    conv => whnf
    refine ⟨[0,1,2,3,4,5], [2,3,5,17,18,19], [0,1,5], fun vs7 => ?_⟩
    conv => whnf
    refine ⟨cusC_pure CL, gusC_pure L, blC_pure _, ?_⟩
    conv => whnf
    refine ⟨_, _, ?_, ?_, (⟨k + 1, hlt⟩, vs7), (by omega : L.length - (k + 1) < L.length - k), rfl, rfl⟩
    ·exact (by (iterate 19 refine ⟨fun _=>rfl,?_⟩); refine ⟨fun ρ => sint_kV (wrap_add1 (n := L.length) hlt hN.ir) ρ, ?_⟩; exact stm _)
    ·exact (by (iterate 6 refine ⟨⟨rfl,rfl,rfl, fun _=>rfl⟩, ?_⟩); exact trivial)
   ·have hge : L.length ≤ k := n_ge hlt
    obtain rfl : k = L.length := Nat.le_antisymm hk hge
    rw [trues_all]
    conv => whnf
    refine loop_st (G := {o : OL Bool // o.l.length = L.length ∧ ∀ R, ChS CL L v o.l R → ChS CL L v (List.replicate L.length true) R} × (Nat → Value)) (fun g => (.c (.val (g.2 0)) :: .c (.val (g.2 1)) :: .c (.ptr 3 0) :: .c (.ptr 4 0) :: .c (.val (g.2 4)) :: g.1.1.sl 5 :: .c (.val (g.2 6)) :: .c (.val (g.2 7)) :: .c (.val (g.2 8)) :: .c (.val (g.2 9)) :: .c (.val (g.2 10)) :: .c (.val (g.2 11)) :: .c (.val (g.2 12)) :: .c (.val (g.2 13)) :: .c (.val (g.2 14)) :: .c (.val (g.2 15)) :: .c (.val (g.2 16)) :: .c (.val (g.2 17)) :: .c (.val (g.2 18)) :: .c (.val (g.2 19)) :: .c (.val (g.2 20)) :: .c (.val (g.2 21)) :: .c (.val (g.2 22)) :: .c (.val (g.2 23)) :: .c (.val (g.2 24)) :: .c (.val (g.2 25)) :: .c (.val (g.2 26)) :: .c (.val (g.2 27)) :: .c (.val (g.2 28)) :: .c (.val (g.2 29)) :: .c (.val (g.2 30)) :: .c (.val (g.2 31)) :: .c (.val (g.2 32)) :: .c (.val (g.2 33)) :: .c (.val (g.2 34)) :: .c (.val (g.2 35)) :: .c (.val (g.2 36)) :: .c (.val (g.2 37)) :: .c (.val (g.2 38)) :: .c (.val (g.2 39)) :: [])) (fun g => [⟨.t tc, true, cusC CL, 0⟩, ⟨.t td, true, gusC L, 0⟩, ⟨.x fam, true, [], 3⟩, ⟨53, false, [.sli n1 0 0 CL.length c1 h1, .sli n2 1 0 L.length c2 h2], 0⟩, ⟨25, false, vwC v, 0⟩, ⟨4, g.1.1.nl, blC g.1.1.l, (g.1.1.cap - g.1.1.l.length) * 1⟩]) (fun g => g.1.1.l.count true) ?_ ?_
    ·refine ⟨[0,1,2,3,4,5], [2,3,5], [0,1,5], fun vs8 => ?_⟩
     conv => whnf
     refine ⟨cusC_pure CL, gusC_pure L, blC_pure _, ?_⟩
     conv => whnf
     refine ⟨_, _, ?_, ?_, (⟨(OL.mk (List.replicate L.length true) false L.length (by rw [List.length_replicate]; exact hN)), List.length_replicate, fun R h => h⟩, vs8), rfl, rfl⟩
     ·exact ⟨fun _=>rfl,fun _=>rfl,fun _=>rfl,fun _=>rfl,fun _=>rfl,fun ρ => (by simp only [OL.sl, SV.den, C.den, C.cells, List.length_replicate]), stm _⟩
     ·exact (by (iterate 5 refine ⟨⟨rfl,rfl,rfl, fun _=>rfl⟩, ?_⟩); refine ⟨⟨rfl,rfl,(show L.length - L.length = (L.length - (List.replicate L.length true).length) * 1 by rw [List.length_replicate, Nat.mul_one]), fun _=>rfl⟩, ?_⟩; exact trivial)
    ·rintro ⟨⟨o, hol, hoc⟩, vs8⟩
     have hol : o.l.length = L.length := hol
     have hoc : ∀ R, ChS CL L v o.l R → ChS CL L v (List.replicate L.length true) R := hoc
     dsimp only
     conv => whnf
     refine ⟨2, [0,1,5], [.agg [.sli n1 0 0 CL.length c1 h1, .sli n2 1 0 L.length c2 h2], .c (.sli o.nl 2 0 o.l.length o.cap o.ok), .agg (vwC v)], (fun ρ ρ' e => by
      show List.map (SV.den ρ) [.agg [.sli n1 0 0 CL.length c1 h1, .sli n2 1 0 L.length c2 h2], o.sl 5, .agg (vwC v)] = _
      have e0 := e 0 _ rfl
      have e1 := e 1 _ rfl
      have e2 := e 2 _ rfl
      simp only [OL.sl, List.map, SV.den, C.den, C.cells, e0, e1, e2, List.flatMap_cons, List.flatMap_nil, cellsL]
      rfl), .inr rfl, ⟨cusC_pure CL, gusC_pure L, blC_pure _, trivial⟩, n1, CL, c1, h1, n2, L, c2, h2, o.nl, o.l, o.cap, o.ok, fam, _, _, _, v, rfl,rfl,⟨hCL, hL⟩, hCLn, fun is bd hi1 hi0 hbd => ?_⟩
     obtain rfl := shn_eq hi1 hi0
     have hbd : bd = bdL CL L v o.l := hbd
     conv => whnf
     refine bcase_intro (fun hm => ?_) (fun hm => ?_)
     ·have hm : (!decide ((0 : Int) < (bd.length : Nat))) = true := hm
      have hm : ¬ (0 : Int) < (bd.length : Nat) := bo5 (p := (0 : Int) < (bd.length : Nat)) hm
      have hbn : bd = [] := List.eq_nil_of_length_eq_zero (by omega)
      conv => whnf
      refine ⟨[0,1,2,5], [0,1,3], fun vs9 => ?_⟩
      conv => whnf
      refine ⟨cusC_pure CL, gusC_pure L, blC_pure _, ?_⟩
      conv => whnf
      refine ⟨_, [o.blk boolR 4], rfl, ⟨⟨rfl,rfl,rfl, fun _=>rfl⟩, ⟨rfl,rfl,rfl, fun _=>rfl⟩, ⟨rfl,rfl,rfl, fun _=>rfl⟩, ⟨rfl,rfl,rfl, fun ρ => (show cellsL ρ (blC o.l) = cellsL ρ (rwC boolR o.l) by rw [blC_rw])⟩, trivial⟩, ⟨OL.new o boolR _, trivial⟩, o.sl 3, fun _=>rfl,hc o (fun _ => hoc _ (.stop (by rw [← hbd]; exact hbn))) (fun h => absurd hv h)⟩
     ·have hm : (!decide ((0 : Int) < (bd.length : Nat))) = false := hm
      have hm : (0 : Int) < (bd.length : Nat) := bo6 (p := (0 : Int) < (bd.length : Nat)) hm
      have hbn : bdL CL L v o.l ≠ [] := fun e => by rw [hbd, e] at hm; cases hm
      obtain ⟨hvo, hs0, hsl, hst⟩ := bd_made hbn
      rw [← hbd] at hs0 hsl hst
      conv => whnf
      refine ⟨2, [0,1,5], [.agg [.sli n1 0 0 CL.length c1 h1, .sli n2 1 0 L.length c2 h2], .c (.sli o.nl 2 0 o.l.length o.cap o.ok), .c (.int (fstL bd).made (fstL bd).hm)], (fun ρ ρ' e => by
       show List.map (SV.den ρ) [.agg [.sli n1 0 0 CL.length c1 h1, .sli n2 1 0 L.length c2 h2], o.sl 5, .c (.int (fstL bd).made (fstL bd).hm)] = _
       have e0 := e 0 _ rfl
       have e1 := e 1 _ rfl
       have e2 := e 2 _ rfl
       simp only [OL.sl, List.map, SV.den, C.den, C.cells, e0, e1, e2, List.flatMap_cons, List.flatMap_nil, cellsL]), .inr rfl, ⟨cusC_pure CL, gusC_pure L, blC_pure _, trivial⟩, n1, CL, c1, h1, n2, L, c2, h2, o.nl, o.l, o.cap, o.ok, fam, _, _, _, (fstL bd).made, (fstL bd).hm, rfl,rfl,hL, (by omega), fun o2 ho2 _ => ?_⟩
      have ho2 := ho2 ⟨hs0, hsl, hvo⟩
      conv => whnf
      refine ⟨[0,1,2,3,4,6], [2,3,5], [0,1,5], fun vsa => ?_⟩
      conv => whnf
      refine ⟨cusC_pure CL, gusC_pure L, rwC_pure boolR _, ?_⟩
      conv => whnf
      refine ⟨_, _, ?_, ?_, (⟨o2, by rw [ho2, refV_len, hol], fun R h => hoc R (.step hbn (by rw [← hbd, ← ho2]; exact h))⟩, vsa), (by rw [ho2]; exact cnt_refV hst), rfl, rfl⟩
      ·exact stm _
      ·exact (by (iterate 5 refine ⟨⟨rfl,rfl,rfl, fun _=>rfl⟩, ?_⟩); refine ⟨⟨rfl,rfl,rfl, fun ρ => (show cellsL ρ (rwC boolR o2.l) = cellsL ρ (blC o2.l) by rw [blC_rw])⟩, ?_⟩; exact trivial)
end Go.Proofs.YthmdmbpecgakkaaDoor
