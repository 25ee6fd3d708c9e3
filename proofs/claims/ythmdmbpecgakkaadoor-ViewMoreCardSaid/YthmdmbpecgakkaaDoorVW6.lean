/- law 24: sanity. -/
import Derived.Test.YthmdmbpecgakkaaDoorVSp
import Derived.Test.YthmdmbpecgakkaaDoorSpH
namespace Go.Proofs.YthmdmbpecgakkaaDoor
open Go.RowKit
set_option maxRecDepth 100000

def viewX : List (FuncId × NewC) := [(11, cNext), (12, cChoose)]
theorem viewX_ok : AllX Tryd.prog viewX := .cons csNext <| .cons csChoose .nil
def hS : FuncId → List SV → List Blk → (SV → List Blk → Prop) → Prop := hfam0 (hfz (hsm (hnewG viewX (inl (envW 0) noF 0))) 4)
theorem hS_ok : HOk Tryd.prog hS := hfam0_ok (hfz_ok (hsm_ok (hnewG_ok viewX_ok (inl_ok (envW_ok 0) mixed noF_ok 0))) 4)
theorem g_h1 (r s : Nat) : SliOk false (gCL r s).length 2 := (by decide : SliOk false 2 2)
theorem g_h2 (p q : Nat) : SliOk false (gGL p q).length 1 := (by decide : SliOk false 1 1)
theorem g_n1 (r s : Nat) : (gCL r s).length ≤ 100000000000 := (by decide : 2 ≤ 100000000000)
theorem g_n2 (p q : Nat) : (gGL p q).length ≤ 1000000000 := (by decide : 1 ≤ 1000000000)
def dSan24 : Dn
 | [] => some (none, .c (.val (.bool true)))
 | _ => none
set_option maxHeartbeats 16000000 in
theorem spSan24 : SpOk Tryd.prog 6 dSan24 := sp_ofH (envW_ok 0) hS_ok ⟨Tryd.func6, by kernel_rfl, by kernel_rfl⟩ fun args p v hd => by
 unfold dSan24 at hd
 split at hd
 ·cases hd
  refine ⟨fun _ _=>rfl,fun _ _=>rfl,fun _ => ?_⟩
  conv => whnf
  refine .inr ?_
  conv => whnf
  refine .inr ⟨12, 4, 6, ⟨fun _ _=>rfl,rfl, rfl⟩, fun r1 => ?_⟩
  conv => whnf
  refine .inr ⟨12, 5, 6, ⟨fun _ _=>rfl,rfl, rfl⟩, fun r2 => ?_⟩
  conv => whnf
  refine .inr ⟨12, 7, 9, ⟨fun _ _=>rfl,rfl, rfl⟩, fun r3 => ?_⟩
  conv => whnf
  refine .inr ⟨12, 8, 9, ⟨fun _ _=>rfl,rfl, rfl⟩, fun r4 => ?_⟩
  conv => whnf
  refine .inr ⟨[.agg [.sli false 6 0 2 2 (by decide), .sli false 9 0 1 1 (by decide)], .c (.sli false 11 0 1 1 (by decide)), .agg (vwC (vwE 0 0 0 1 1))], [⟨23, false, [.int 50 (by decide), .int 0 (by decide), .int 0 (by decide)], 0⟩, ⟨23, false, [.int 60 (by decide), .int 10 (by decide), .int 10 (by decide)], 0⟩, ⟨25, false, vwC (vwE 0 0 0 100 2), 0⟩, ⟨25, false, vwC (vwE 55 5 5 1 1), 0⟩, ⟨.t 0, true, [], 0⟩, ⟨.t 0, true, [], 0⟩, ⟨43, false, cusC (gCL r1 r2), 0⟩, ⟨.t 0, true, [], 0⟩, ⟨.t 0, true, [], 0⟩, ⟨50, false, gusC (gGL r3 r4), 0⟩, ⟨53, false, [.sli false 6 0 2 2 (by decide), .sli false 9 0 1 1 (by decide)], 0⟩, ⟨4, false, [.val (.bool true)], 0⟩, ⟨.x [⟨(r1, 0), trsC [trE], 40, 0⟩, ⟨(r2, 0), trsC [trE], 40, 0⟩, ⟨(r3, 0), zvC [zE 0], 3, 0⟩, ⟨(r4, 0), zvC [zE 1], 3, 0⟩], true, [], 2⟩], stm _, (by (iterate 9 refine ⟨⟨rfl,rfl,rfl, fun _=>rfl⟩, ?_⟩); refine ⟨⟨rfl,rfl,rfl, fun ρ => (by simp [cellsL, gusC, guC, gGL, SW.v, swE, C.cells, nlA, mag_zero])⟩, ?_⟩; (iterate 3 refine ⟨⟨rfl,rfl,rfl, fun _=>rfl⟩, ?_⟩); exact trivial), ?_⟩
  conv => whnf
  refine ⟨12, [6,9,11], [.agg [.sli false 0 0 2 2 (by decide), .sli false 1 0 1 1 (by decide)], .c (.sli false 2 0 1 1 (by decide)), .agg (vwC (vwE 0 0 0 1 1))], (fun ρ ρ' e => by
   show List.map (SV.den ρ) [.agg [.sli false 6 0 2 2 (by decide), .sli false 9 0 1 1 (by decide)], .c (.sli false 11 0 1 1 (by decide)), .agg (vwC (vwE 0 0 0 1 1))] = _
   have e0 := e 0 _ rfl
   have e1 := e 1 _ rfl
   have e2 := e 2 _ rfl
   simp only [List.map, SV.den, C.den, C.cells, e0, e1, e2, List.flatMap_cons, List.flatMap_nil, cellsL]
   rfl), .inl rfl, ⟨cusC_pure (gCL r1 r2), gusC_pure (gGL r3 r4), fun _ _=>rfl,trivial⟩, false, gCL r1 r2, 2, g_h1 _ _, false, gGL r3 r4, 1, g_h2 _ _, false, [true], 1, by decide, _, _, _, _, vwE 0 0 0 1 1, rfl,rfl,⟨g_okL (fam := _) ⟨_, List.mem_cons_self, rfl, rfl⟩ ⟨_, List.mem_cons_of_mem _ List.mem_cons_self, rfl, rfl⟩, g_okG (fam := _) ⟨_, List.mem_cons_of_mem _ (List.mem_cons_of_mem _ List.mem_cons_self), rfl, rfl⟩ ⟨_, List.mem_cons_of_mem _ (List.mem_cons_of_mem _ (List.mem_cons_of_mem _ List.mem_cons_self)), rfl, rfl⟩⟩, g_n1 _ _, fun is bd h1 h0 hbd => ?_⟩
  obtain rfl := shn_eq h1 h0
  obtain ⟨s, hs, hs0⟩ := g_near1 r1 r2 r3 r4
  obtain rfl : bd = [s] := hbd.trans hs
  conv => whnf
  refine .inl ?_
  conv => whnf
  refine .inl ?_
  conv => whnf
  refine .inl ?_
  conv => whnf
  refine ⟨12, [6,9], [.agg [.sli false 0 0 2 2 (by decide), .sli false 1 0 1 1 (by decide)], .agg (vwC (vwE 0 0 0 1 1))], (fun ρ ρ' e => by
   show List.map (SV.den ρ) [.agg [.sli false 6 0 2 2 (by decide), .sli false 9 0 1 1 (by decide)], .agg (vwC (vwE 0 0 0 1 1))] = _
   have e0 := e 0 _ rfl
   have e1 := e 1 _ rfl
   simp only [List.map, SV.den, C.cells, e0, e1, List.flatMap_cons, List.flatMap_nil, cellsL]
   rfl), .inl rfl, ⟨cusC_pure (gCL r1 r2), gusC_pure (gGL r3 r4), trivial⟩, false, gCL r1 r2, 2, g_h1 _ _, false, gGL r3 r4, 1, g_h2 _ _, _, _, _, vwE 0 0 0 1 1, rfl,rfl,⟨g_okL (fam := _) ⟨_, List.mem_cons_self, rfl, rfl⟩ ⟨_, List.mem_cons_of_mem _ List.mem_cons_self, rfl, rfl⟩, g_okG (fam := _) ⟨_, List.mem_cons_of_mem _ (List.mem_cons_of_mem _ List.mem_cons_self), rfl, rfl⟩ ⟨_, List.mem_cons_of_mem _ (List.mem_cons_of_mem _ (List.mem_cons_of_mem _ List.mem_cons_self)), rfl, rfl⟩⟩, g_n1 _ _, g_n2 _ _, fun o ho hn => ?_⟩
  have ho := g_chn (ho (g_snd r1 r2 r3 r4))
  obtain ⟨ol, onl, ocap, ook⟩ := o
  dsimp only at ho
  subst ho
  conv => whnf
  refine .inl ?_
  conv => whnf
  refine .inl ?_
  conv => whnf
  refine .inl ?_
  conv => whnf
  refine ⟨12, [6,9], [.agg [.sli false 0 0 2 2 (by decide), .sli false 1 0 1 1 (by decide)], .agg (vwC (vwE 1000 0 0 1 1))], (fun ρ ρ' e => by
   show List.map (SV.den ρ) [.agg [.sli false 6 0 2 2 (by decide), .sli false 9 0 1 1 (by decide)], .agg (vwC (vwE 1000 0 0 1 1))] = _
   have e0 := e 0 _ rfl
   have e1 := e 1 _ rfl
   simp only [List.map, SV.den, C.cells, e0, e1, List.flatMap_cons, List.flatMap_nil, cellsL]
   rfl), .inl rfl, ⟨cusC_pure (gCL r1 r2), gusC_pure (gGL r3 r4), trivial⟩, false, gCL r1 r2, 2, g_h1 _ _, false, gGL r3 r4, 1, g_h2 _ _, _, _, _, vwE 1000 0 0 1 1, rfl,rfl,⟨g_okL (fam := _) ⟨_, List.mem_cons_self, rfl, rfl⟩ ⟨_, List.mem_cons_of_mem _ List.mem_cons_self, rfl, rfl⟩, g_okG (fam := _) ⟨_, List.mem_cons_of_mem _ (List.mem_cons_of_mem _ List.mem_cons_self), rfl, rfl⟩ ⟨_, List.mem_cons_of_mem _ (List.mem_cons_of_mem _ (List.mem_cons_of_mem _ List.mem_cons_self)), rfl, rfl⟩⟩, g_n1 _ _, g_n2 _ _, fun u ho hn => ?_⟩
  have ho := g_chf (ho (g_snd r1 r2 r3 r4))
  obtain ⟨ul, unl, ucap, uok⟩ := u
  dsimp only at ho
  subst ho
  conv => whnf
  refine bcase_intro (fun hq => ?_) (fun hq => ?_)
  ·have hq : decide (s.made = 0) = true := hq
   conv => whnf
   exact fun ρ => sbool_e rfl ρ
  ·have hq : decide (s.made = 0) = false := hq
   exact absurd hs0 (of_decide_eq_false hq)
 ·cases hd
end Go.Proofs.YthmdmbpecgakkaaDoor
