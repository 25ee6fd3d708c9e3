/- view.Next: the group that is refined next. -/
import Derived.Test.YthmdmbpecgakkaaDoorVW3
namespace Go.Proofs.YthmdmbpecgakkaaDoor
open Go.RowKit
set_option maxRecDepth 100000

theorem badL_append (CL : List CU) (L : List GU) (v : VW) : ∀ a b : List Nat, badL CL L v (a ++ b) = badL CL L v a ++ badL CL L v b
 | [], _ => rfl
 | i :: a, b => by rw [List.cons_append, badL, badL_append CL L v a b, badL, List.append_assoc]
theorem badL_take {CL : List CU} {L : List GU} {v : VW} {l : List Nat} {k : Nat} (hk : k < l.length) (hl : l[k] < CL.length) : badL CL L v (l.take (k + 1)) = badL CL L v (l.take k) ++ (if badS (seen L v CL[l[k]]) = true then [seen L v CL[l[k]]] else []) := by
 rw [List.take_add_one, List.getElem?_eq_getElem hk, Option.toList_some, badL_append]
 congr 1
 rw [badL, List.getElem?_eq_getElem hl, badL, List.append_nil]
theorem badL_len (CL : List CU) (L : List GU) (v : VW) : ∀ l : List Nat, (badL CL L v l).length ≤ l.length
 | [] => Nat.le_refl _
 | i :: l => by
  have := badL_len CL L v l
  rw [badL, List.length_append, List.length_cons]
  split
  ·split <;> simp <;> omega
  ·simp; omega
theorem shwL_lt (CL : List CU) (CT : List Bool) : ∀ n, ∀ i ∈ shwL CL CT n, i < CL.length
 | 0, i, h => by cases h
 | n + 1, i, h => by
  rw [shwL] at h
  rcases List.mem_append.1 h with h | h
  ·exact shwL_lt CL CT n i h
  ·split at h
   ·rename_i c hc
    split at h
    ·rw [List.mem_singleton] at h
     subst h
     exact (List.getElem?_eq_some_iff.1 hc).1
    ·cases h
   ·cases h
def cNext : NewC := fun args ros K => ∃ n1 CL c1 h1 n2 L c2 h2 n3 CT c3 h3 fam tc td tt v, args = [.agg [.sli n1 0 0 CL.length c1 h1, .sli n2 1 0 L.length c2 h2], .c (.sli n3 2 0 (List.length CT) c3 h3), .agg (vwC v)] ∧ ros = [⟨.t tc, true, cusC CL, 0⟩, ⟨.t td, true, gusC L, 0⟩, ⟨.t tt, true, blC CT, 0⟩, ⟨.x fam, true, [], 3⟩] ∧ ((∀ c ∈ CL, c.Ok fam) ∧ ∀ g ∈ L, g.Ok fam) ∧ CL.length ≤ 100000000000 ∧
 ∀ (is : List Nat) (bd : List SN), (VldP CL L CT → is = shwL CL CT CL.length) → (¬ VldP CL L CT → is = []) → bd = badL CL L v is → K (.tup [.c (.int (fstL bd).made (fstL bd).hm), .c (.val (.bool (decide ((0 : Int) < (bd.length : Nat)))))]) []
set_option maxHeartbeats 16000000 in
theorem csNext : CSpX Tryd.prog 11 cNext := csp_ofX (envW_ok 0) mixed (hnewG_ok (.cons csShown (.cons csFirst .nil)) (hat_ok (l := [18]) (inl_ok (envW_ok 0) mixed fxLk_ok 1))) ⟨Tryd.func11, by kernel_rfl, by kernel_rfl⟩ fun args ros K hc => by
 obtain ⟨n1, CL, c1, h1, n2, L, c2, h2, n3, CT, c3, h3, fam, tc, td, tt, v, rfl,rfl,⟨hCL, hL⟩, hCLn, hc⟩ := hc
 refine ⟨fun ρ ρ' e => ?_, ?_⟩
 ·have e0 := e 0 (Nat.zero_lt_succ _)
  have e1 := e 1 (by decide : 1 < 4)
  have e2 := e 2 (by decide : 2 < 4)
  simp only [List.map, SV.den, C.den, C.cells, e0, e1, e2, List.flatMap_cons, List.flatMap_nil, cellsL]
  rfl
 conv => whnf
 refine ⟨3, [0,1,2], [.agg [.sli n1 0 0 CL.length c1 h1, .sli n2 1 0 L.length c2 h2], .c (.sli n3 2 0 CT.length c3 h3)], (fun ρ ρ' e => by
  show List.map (SV.den ρ) [.agg [.sli n1 0 0 CL.length c1 h1, .sli n2 1 0 L.length c2 h2], .c (.sli n3 2 0 CT.length c3 h3)] = _
  have e0 := e 0 _ rfl
  have e1 := e 1 _ rfl
  have e2 := e 2 _ rfl
  simp only [List.map, SV.den, C.den, C.cells, e0, e1, e2, List.flatMap_cons, List.flatMap_nil, cellsL]), .inr rfl, ⟨cusC_pure CL, gusC_pure L, blC_pure CT, trivial⟩, n1, CL, c1, h1, n2, L, c2, h2, n3, CT, c3, h3, fam, _, _, _, rfl,rfl,hL, (by omega), fun o ho1 ho0 => ?_⟩
 conv => whnf
 obtain ⟨is, his, hi1, hi0, hilt, hiv⟩ : ∃ is : List Nat, o.l = is.map zN ∧ (VldP CL L CT → is = shwL CL CT CL.length) ∧ (¬ VldP CL L CT → is = []) ∧ (∀ i ∈ is, i < CL.length) ∧ (is ≠ [] → VldP CL L CT) := by
  by_cases hv : VldP CL L CT
  ·exact ⟨_, ho1 hv, fun _=>rfl,fun h => absurd hv h, shwL_lt CL CT _, fun _ => hv⟩
  ·exact ⟨[], ho0 hv, fun h => absurd h hv, fun _=>rfl,(fun i h => by cases h), fun h => absurd rfl h⟩
 obtain ⟨ol, onl, oc, ook⟩ := o
 dsimp only at his
 subst his
 have hisl : is.length ≤ 100000000000 := by
  by_cases hv : VldP CL L CT
  ·rw [hi1 hv]; have := shwL_len CL CT CL.length; omega
  ·rw [hi0 hv]; exact Nat.zero_le _
 conv => whnf
 refine loop_st (G := {p : {k : Nat // k ≤ (is.map zN).length} × OL SN // p.2.l = badL CL L v (is.take p.1.1)} × (Nat → Value)) (fun g => (.c (.val (g.2 0)) :: .c (.sli n3 2 0 CT.length c3 h3) :: .c (.val (g.2 2)) :: .c (.ptr 4 0) :: .c (.val (g.2 4)) :: .c (.ptr 5 0) :: .c (.val (g.2 6)) :: .c (.val (g.2 7)) :: g.1.1.2.sl 7 :: .c (.val (g.2 9)) :: .c (.val (g.2 10)) :: .c (.val (g.2 11)) :: .c (.val (g.2 12)) :: .c (.val (g.2 13)) :: .c (.val (g.2 14)) :: .c (.val (g.2 15)) :: .c (.sli onl 6 0 (is.map zN).length oc ook) :: .c (.int ((is.map zN).length : Nat) (lt_irV ook (Nat.le_refl _))) :: .c (.int (g.1.1.1.1 : Nat) (lt_irV ook g.1.1.1.2)) :: .c (.val (g.2 19)) :: .c (.val (g.2 20)) :: .c (.val (g.2 21)) :: .c (.val (g.2 22)) :: .c (.val (g.2 23)) :: .c (.val (g.2 24)) :: .c (.val (g.2 25)) :: .c (.val (g.2 26)) :: .c (.val (g.2 27)) :: .c (.val (g.2 28)) :: .c (.val (g.2 29)) :: .c (.val (g.2 30)) :: .c (.val (g.2 31)) :: .c (.val (g.2 32)) :: .c (.val (g.2 33)) :: .c (.val (g.2 34)) :: .c (.val (g.2 35)) :: .c (.val (g.2 36)) :: .c (.val (g.2 37)) :: .c (.val (g.2 38)) :: .c (.val (g.2 39)) :: .c (.val (g.2 40)) :: .c (.val (g.2 41)) :: .c (.val (g.2 42)) :: .c (.val (g.2 43)) :: .c (.val (g.2 44)) :: .c (.val (g.2 45)) :: [])) (fun g => [⟨.t tc, true, cusC CL, 0⟩, ⟨.t td, true, gusC L, 0⟩, ⟨.t tt, true, blC CT, 0⟩, ⟨.x fam, true, [], 3⟩, ⟨53, false, [.sli n1 0 0 CL.length c1 h1, .sli n2 1 0 L.length c2 h2], 0⟩, ⟨25, false, vwC v, 0⟩, ⟨3, onl, rwC intR (is.map zN), (oc - (is.map zN).length) * 1⟩, g.1.1.2.blk snR 67]) (fun g => (is.map zN).length - g.1.1.1.1) ?_ ?_
 ·refine ⟨[0, 1, 2, 3, 4, 5, 6, 1000 + 67], [1,3,5,8,16,17,18], [0,1,2,6], fun vs6 => ?_⟩
  conv => whnf
  refine ⟨cusC_pure CL, gusC_pure L, blC_pure CT, rwC_pure intR _, ?_⟩
  conv => whnf
  refine ⟨_, _, ?_, ?_, (⟨(⟨0, Nat.zero_le _⟩, OL.none), rfl⟩, vs6), rfl, rfl⟩
  ·exact (by (iterate 19 refine ⟨fun _=>rfl,?_⟩); exact stm _)
  ·exact (by (iterate 8 refine ⟨⟨rfl,rfl,rfl, fun _=>rfl⟩, ?_⟩); exact trivial)
 ·rintro ⟨⟨⟨⟨k, hk⟩, o⟩, ho⟩, vs6⟩
  have ho : o.l = badL CL L v (is.take k) := ho
  have hk : k ≤ (is.map zN).length := hk
  have hol : o.l.length ≤ is.length := by rw [ho]; have := badL_len CL L v (is.take k); rw [List.length_take] at this; omega
  dsimp only
  conv => whnf
  refine bcase_intro (fun hlt => ?_) (fun hlt => ?_)
  ·have hlt : k < (is.map zN).length := n_lt hlt
   have hki : IR (k : Int) := lt_irV ook hk
   have hkl : k < is.length := by rw [List.length_map] at hlt; exact hlt
   obtain ⟨i, hie⟩ : ∃ i, i = is[k] := ⟨_, rfl⟩
   have hil : i < CL.length := by rw [hie]; exact hilt _ (List.getElem_mem hkl)
   have hv : VldP CL L CT := hiv (fun e => by rw [e] at hkl; cases hkl)
   obtain ⟨⟨hidx, -⟩, -, -⟩ := id hv
   have hii : IR (i : Int) := lt_irV h1 (Nat.le_of_lt hil)
   have hik : (is.map zN)[k] = ⟨i, hii⟩ := by rw [List.getElem_map, ← hie, zN_eq hii]
   conv => whnf
   conv =>
    arg 2
    tactic' =>
     apply eff_index_sli (k := k) (hi := hki) (ho := ?how45) (hT := ?hTw45) (hx := ?hxw45) (hk := ?hkw45) (hlt := ?hltw45)
     case how45 => rfl
     case hTw45 => rfl
     case hxw45 => rfl
     case hkw45 => rfl
     case hltw45 => exact hlt
   conv => whnf
   conv =>
    arg 2
    tactic' =>
     apply eff_load_sub (m := [.int (i : Nat) hii]) (ho := ?how46) (hT := ?hTw46) (hx := ?hxw46) (hb := ?hbw46) (hm := ?hmw46) (hv := ?hvw46)
     case how46 => rfl
     case hTw46 => rfl
     case hxw46 => rfl
     case hbw46 => rfl
     case hmw46 => exact (subC_rw intR (is.map zN) hlt).trans (by rw [hik]; rfl)
     case hvw46 => rfl
   conv => whnf
   refine .mk (look_vc hCL hidx hil fun kk hkk ex => ?_)
   obtain ⟨s, hs⟩ : ∃ s, s = seen L v CL[i] := ⟨_, rfl⟩
   have hbt : badL CL L v (is.take (k + 1)) = badL CL L v (is.take k) ++ (if badS s = true then [s] else []) := by
    have h := badL_take (CL := CL) (L := L) (v := v) hkl (by rw [← hie]; exact hil)
    rw [h]
    congr 1
    have e : seen L v (CL[is[k]]'(by rw [← hie]; exact hil)) = s := by rw [hs]; congr 1; simp only [hie]
    rw [e]
   revert hkk
   rw [← hs]
   intro hkk
   refine .inr ⟨[0,1,2,3,4,5,6,7], [0], [0,1,2,6,7], fun vs => ?_⟩
   conv => whnf
   refine ⟨cusC_pure CL, gusC_pure L, blC_pure CT, rwC_pure intR _, rwC_pure snR _, ?_⟩
   conv => whnf
   refine ⟨[.agg (snK s kk hkk)], [⟨.t tc, true, cusC CL, 0⟩, ⟨.t td, true, gusC L, 0⟩, ⟨.t tt, true, blC CT, 0⟩, ⟨.x fam, true, [], 3⟩, ⟨53, false, [.sli n1 0 0 CL.length c1 h1, .sli n2 1 0 L.length c2 h2], 0⟩, ⟨25, false, vwC v, 0⟩, ⟨3, onl, rwC intR (is.map zN), (oc - (is.map zN).length) * 1⟩, o.blk snR 67], ⟨fun _=>rfl,trivial⟩, (by (iterate 8 refine ⟨⟨rfl,rfl,rfl, fun _=>rfl⟩, ?_⟩); exact trivial), ?_⟩
   conv => whnf
   refine bcase_intro (fun hf => ?_) (fun hf => ?_)
   ·have hf : (!s.fits) = true := hf
    have hf : s.fits = false := by cases hx : s.fits <;> simp_all
    conv => whnf
    refine bcase_intro (fun hm => ?_) (fun hm => ?_)
    ·have hm : decide (0 ≤ s.made) = true := hm
     conv => whnf
     refine .inl ?_
     conv => whnf
     refine .inl ?_
     conv => whnf
     refine ⟨rfl, o.app snR 67 (m := 1) (by show (o.l.length + 1) * 5 ≤ 5000000000000; omega), fun c9 k9 => ?_⟩
     conv => whnf
     refine ⟨[0,1,2,3,4,5,6,10], [1,3,5,8,16,17,18], [0,1,2,6,7], fun vs7 => ?_⟩
     conv => whnf
     refine ⟨cusC_pure CL, gusC_pure L, blC_pure CT, rwC_pure intR _, pureL_apx (rwC_pure snR _) (fun _ _=>rfl), ?_⟩
     conv => whnf
     refine ⟨_, _, ?_, ?_, (⟨(⟨k + 1, hlt⟩, o.push [s] rfl c9 k9), by rw [hbt, if_pos (show badS s = true by unfold badS; rw [hf, hm]; rfl), ← ho]; rfl⟩, vs7), (by omega : (is.map zN).length - (k + 1) < (is.map zN).length - k), rfl, rfl⟩
     ·exact (by (iterate 8 refine ⟨fun _=>rfl,?_⟩); refine ⟨fun ρ => o.push_sl (n := 1) [s] rfl c9 k9 7 ρ, ?_⟩; (iterate 9 refine ⟨fun _=>rfl,?_⟩); refine ⟨fun ρ => sint_kV (wrap_add1 (n := (is.map zN).length) hlt ook.ir) ρ, ?_⟩; exact stm _)
     ·exact (by (iterate 7 refine ⟨⟨rfl,rfl,rfl, fun _=>rfl⟩, ?_⟩); refine ⟨o.push_blk snR 67 (n := 1) [s] rfl c9 k9 (fun _=>rfl), ?_⟩; exact trivial)
    ·have hm : decide (0 ≤ s.made) = false := hm
     conv => whnf
     refine ⟨[0,1,2,3,4,5,6,7], [1,3,5,8,16,17,18], [0,1,2,6,7], fun vs7 => ?_⟩
     conv => whnf
     refine ⟨cusC_pure CL, gusC_pure L, blC_pure CT, rwC_pure intR _, rwC_pure snR _, ?_⟩
     conv => whnf
     refine ⟨_, _, ?_, ?_, (⟨(⟨k + 1, hlt⟩, o), by rw [hbt, if_neg (by unfold badS; rw [hm, Bool.and_false]; decide), List.append_nil]; exact ho⟩, vs7), (by omega : (is.map zN).length - (k + 1) < (is.map zN).length - k), rfl, rfl⟩
     ·exact (by (iterate 18 refine ⟨fun _=>rfl,?_⟩); refine ⟨fun ρ => sint_kV (wrap_add1 (n := (is.map zN).length) hlt ook.ir) ρ, ?_⟩; exact stm _)
     ·exact (by (iterate 8 refine ⟨⟨rfl,rfl,rfl, fun _=>rfl⟩, ?_⟩); exact trivial)
   ·have hf : (!s.fits) = false := hf
    have hf : s.fits = true := by cases hx : s.fits <;> simp_all
    conv => whnf
    refine ⟨[0,1,2,3,4,5,6,7], [1,3,5,8,16,17,18], [0,1,2,6,7], fun vs7 => ?_⟩
    conv => whnf
    refine ⟨cusC_pure CL, gusC_pure L, blC_pure CT, rwC_pure intR _, rwC_pure snR _, ?_⟩
    conv => whnf
    refine ⟨_, _, ?_, ?_, (⟨(⟨k + 1, hlt⟩, o), by rw [hbt, if_neg (by unfold badS; rw [hf, Bool.not_true, Bool.false_and]; decide), List.append_nil]; exact ho⟩, vs7), (by omega : (is.map zN).length - (k + 1) < (is.map zN).length - k), rfl, rfl⟩
    ·exact (by (iterate 18 refine ⟨fun _=>rfl,?_⟩); refine ⟨fun ρ => sint_kV (wrap_add1 (n := (is.map zN).length) hlt ook.ir) ρ, ?_⟩; exact stm _)
    ·exact (by (iterate 8 refine ⟨⟨rfl,rfl,rfl, fun _=>rfl⟩, ?_⟩); exact trivial)
  ·have hge : is.length ≤ k := by have := n_ge hlt; rw [List.length_map] at this; exact this
   rw [List.take_of_length_le hge] at ho
   conv => whnf
   refine ⟨3, [7], [.c (.sli o.nl 0 0 o.l.length o.cap o.ok), .c (.fn 20 [] [])], (fun ρ ρ' e => by
    show List.map (SV.den ρ) [o.sl 7, .c (.fn 20 [] [])] = _
    have e0 := e 0 _ rfl
    simp only [OL.sl, List.map, SV.den, C.den, C.cells, e0]), .inr rfl, ⟨rwC_pure snR _, trivial⟩, o.nl, o.l, o.cap, o.ok, _, fam, rfl,rfl,?_⟩
   conv => whnf
   have hc : K (.tup [.c (.int (fstL o.l).made (fstL o.l).hm), .c (.val (.bool (decide ((0 : Int) < (o.l.length : Nat)))))]) [] := hc is o.l hi1 hi0 ho
   refine ⟨[0,1,2,3], [0,1,2], fun vs9 => ?_⟩
   conv => whnf
   refine ⟨cusC_pure CL, gusC_pure L, blC_pure CT, ?_⟩
   conv => whnf
   exact ⟨_, [], rfl, ⟨⟨rfl,rfl,rfl, fun _=>rfl⟩, ⟨rfl,rfl,rfl, fun _=>rfl⟩, ⟨rfl,rfl,rfl, fun _=>rfl⟩, ⟨rfl,rfl,rfl, fun _=>rfl⟩, trivial⟩, trivial, .tup [.c (.int (fstL o.l).made (fstL o.l).hm), .c (.val (.bool (decide ((0 : Int) < (o.l.length : Nat)))))], fun _=>rfl,hc⟩
end Go.Proofs.YthmdmbpecgakkaaDoor
