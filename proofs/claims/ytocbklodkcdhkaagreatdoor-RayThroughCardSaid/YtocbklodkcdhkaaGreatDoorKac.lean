/- What lies behind an edge; pinched corners, by the reckoner. Pinched corners; the check of a list, by the reckoner. The check of a list, by the reckoner. -/
import Derived.Test.YtocbklodkcdhkaaGreatDoorKab
namespace Go.Proofs.YtocbklodkcdhkaaGreatDoor
open Go.RowKit
set_option maxRecDepth 100000

def cBehind : NewC := fun args ros K => ∃ nl len cap h ty l p q, args = [.c (.sli nl 0 0 len cap h), .agg (ptC p), .agg (ptC q)] ∧ ros = [⟨ty, true, trsC l, 0⟩] ∧ l.length = len ∧ ∀ (r : PT) (b : Bool), K (.tup [.agg (ptC r), .c (.val (.bool b))]) []
theorem irz : IR (0 : Int) := by decide
def zPT : PT := ⟨0, 0, 0, irz, irz, irz⟩
set_option maxHeartbeats 16000000 in
theorem csBehind : CSp Tryz.prog 61 cBehind := csp_of (env_ok baseWE_ok 0) mixed (inl_ok (env_ok baseWE_ok 0) mixed noF_ok 0) ⟨Tryz.func61, by kernel_rfl, by kernel_rfl⟩ fun args ros K hc => by
 obtain ⟨nl, _, cap, hl, ty, l, p, q, rfl,rfl,rfl, hc⟩ := hc
 refine ⟨fun ρ ρ' e => ?_, ?_⟩
 ·have e0 := e 0 (Nat.zero_lt_succ _)
  simp only [List.map, SV.den, C.den, C.cells, e0]
  rfl
 conv => whnf
 refine loop_st (G := {k : Nat // k ≤ l.length} × (Nat → Value)) (fun g => (.c (.sli nl 0 0 l.length cap hl) :: .c (.val (g.2 1)) :: .c (.val (g.2 2)) :: .c (.val (g.2 3)) :: .c (.ptr 1 0) :: .c (.ptr 2 0) :: .c (.ptr 3 0) :: .c (.val (g.2 7)) :: .c (.int (g.1.1 : Nat) (lt_ir hl g.1.2)) :: .c (.val (g.2 9)) :: .c (.val (g.2 10)) :: .c (.val (g.2 11)) :: .c (.val (g.2 12)) :: .c (.val (g.2 13)) :: .c (.val (g.2 14)) :: .c (.val (g.2 15)) :: .c (.val (g.2 16)) :: .c (.val (g.2 17)) :: .c (.val (g.2 18)) :: .c (.val (g.2 19)) :: .c (.val (g.2 20)) :: .c (.val (g.2 21)) :: .c (.val (g.2 22)) :: .c (.val (g.2 23)) :: .c (.val (g.2 24)) :: .c (.val (g.2 25)) :: .c (.val (g.2 26)) :: .c (.val (g.2 27)) :: .c (.val (g.2 28)) :: .c (.val (g.2 29)) :: .c (.val (g.2 30)) :: .c (.val (g.2 31)) :: .c (.val (g.2 32)) :: .c (.val (g.2 33)) :: .c (.val (g.2 34)) :: .c (.val (g.2 35)) :: .c (.val (g.2 36)) :: .c (.val (g.2 37)) :: .c (.val (g.2 38)) :: .c (.val (g.2 39)) :: .c (.val (g.2 40)) :: .c (.val (g.2 41)) :: .c (.val (g.2 42)) :: .c (.val (g.2 43)) :: .c (.val (g.2 44)) :: .c (.val (g.2 45)) :: .c (.val (g.2 46)) :: .c (.val (g.2 47)) :: .c (.val (g.2 48)) :: [])) (fun g => [⟨ty, true, trsC l, 0⟩, ⟨35, false, ptC p, 0⟩, ⟨35, false, ptC q, 0⟩, ⟨35, false, ptC zPT, 0⟩]) (fun g => l.length - g.1.1) ?_ ?_
 ·refine ⟨[0,1,2,3], [0,4,5,6,8], [0], fun vs => ?_⟩
  conv => whnf
  refine ⟨pureL_trs l, ?_⟩
  conv => whnf
  refine ⟨_, _, ?_, ?_, (⟨0, Nat.zero_le _⟩, vs), rfl, rfl⟩
  ·exact ⟨fun _=>rfl,fun _=>rfl,fun _=>rfl,fun _=>rfl,fun _=>rfl,fun _=>rfl,fun _=>rfl,fun _=>rfl,fun _=>rfl,stm _⟩
  ·exact ⟨⟨rfl,rfl,rfl, fun _=>rfl⟩, ⟨rfl,rfl,rfl, fun _=>rfl⟩, ⟨rfl,rfl,rfl, fun _=>rfl⟩, ⟨rfl,rfl,rfl, fun _=>rfl⟩, trivial⟩
 ·rintro ⟨⟨k, hk⟩, vs⟩
  have hk : k ≤ l.length := hk
  dsimp only
  conv => whnf
  refine bcase_intro (fun hlt => ?_) (fun hlt => ?_)
  ·have hlt : k < l.length := n_lt hlt
   conv => whnf
   refine .inl ⟨4, ?_⟩
   conv => whnf
   conv =>
    arg 2
    tactic' =>
     apply eff_index_sli (k := k) (hi := (lt_ir hl hk)) (ho := ?how5) (hT := ?hTw5) (hx := ?hxw5) (hk := ?hkw5) (hlt := ?hltw5)
     case how5 => rfl
     case hTw5 => rfl
     case hxw5 => rfl
     case hkw5 => rfl
     case hltw5 => exact hlt
   conv => whnf
   conv =>
    arg 2
    tactic' =>
     apply eff_load_sub (ho := ?how6) (hT := ?hTw6) (hx := ?hxw6) (hb := ?hbw6) (hm := ?hmw6) (hv := ?hvw6)
     case how6 => rfl
     case hTw6 => rfl
     case hxw6 => rfl
     case hbw6 => rfl
     case hmw6 => exact subC_pt l hlt 0 (r := ptC l[k].a) rfl
     case hvw6 => rfl
   conv => whnf
   refine bcase_intro (fun _ => ?_) (fun _ => ?_)
   ·conv => whnf
    conv =>
     arg 2
     tactic' =>
      apply eff_index_sli (k := k) (hi := (lt_ir hl hk)) (ho := ?how7) (hT := ?hTw7) (hx := ?hxw7) (hk := ?hkw7) (hlt := ?hltw7)
      case how7 => rfl
      case hTw7 => rfl
      case hxw7 => rfl
      case hkw7 => rfl
      case hltw7 => exact hlt
    conv => whnf
    conv =>
     arg 2
     tactic' =>
      apply eff_load_sub (ho := ?how8) (hT := ?hTw8) (hx := ?hxw8) (hb := ?hbw8) (hm := ?hmw8) (hv := ?hvw8)
      case how8 => rfl
      case hTw8 => rfl
      case hxw8 => rfl
      case hbw8 => rfl
      case hmw8 => exact subC_pt l hlt 3 (r := ptC l[k].b) rfl
      case hvw8 => rfl
    conv => whnf
    refine bcase_intro (fun _ => ?_) (fun _ => ?_)
    ·conv => whnf
     conv =>
      arg 2
      tactic' =>
       apply eff_index_sli (k := k) (hi := (lt_ir hl hk)) (ho := ?how9) (hT := ?hTw9) (hx := ?hxw9) (hk := ?hkw9) (hlt := ?hltw9)
       case how9 => rfl
       case hTw9 => rfl
       case hxw9 => rfl
       case hkw9 => rfl
       case hltw9 => exact hlt
     conv => whnf
     conv =>
      arg 2
      tactic' =>
       apply eff_load_sub (ho := ?how10) (hT := ?hTw10) (hx := ?hxw10) (hb := ?hbw10) (hm := ?hmw10) (hv := ?hvw10)
       case how10 => rfl
       case hTw10 => rfl
       case hxw10 => rfl
       case hbw10 => rfl
       case hmw10 => exact subC_pt l hlt 6 (r := ptC l[k].c) rfl
       case hvw10 => rfl
     conv => whnf
     refine ⟨[0], [0], fun vs9 => ?_⟩
     conv => whnf
     refine ⟨pureL_trs l, ?_⟩
     conv => whnf
     exact ⟨_, [], rfl, ⟨⟨rfl,rfl,rfl, fun _=>rfl⟩, trivial⟩, trivial, _, fun _=>rfl,hc l[k].c true⟩
    ·conv => whnf
     conv =>
      arg 2
      tactic' =>
       apply eff_index_sli (k := k) (hi := (lt_ir hl hk)) (ho := ?how11) (hT := ?hTw11) (hx := ?hxw11) (hk := ?hkw11) (hlt := ?hltw11)
       case how11 => rfl
       case hTw11 => rfl
       case hxw11 => rfl
       case hkw11 => rfl
       case hltw11 => exact hlt
     conv => whnf
     conv =>
      arg 2
      tactic' =>
       apply eff_load_sub (ho := ?how12) (hT := ?hTw12) (hx := ?hxw12) (hb := ?hbw12) (hm := ?hmw12) (hv := ?hvw12)
       case how12 => rfl
       case hTw12 => rfl
       case hxw12 => rfl
       case hbw12 => rfl
       case hmw12 => exact subC_pt l hlt 3 (r := ptC l[k].b) rfl
       case hvw12 => rfl
     conv => whnf
     refine bcase_intro (fun _ => ?_) (fun _ => ?_)
     ·conv => whnf
      conv =>
       arg 2
       tactic' =>
        apply eff_index_sli (k := k) (hi := (lt_ir hl hk)) (ho := ?how13) (hT := ?hTw13) (hx := ?hxw13) (hk := ?hkw13) (hlt := ?hltw13)
        case how13 => rfl
        case hTw13 => rfl
        case hxw13 => rfl
        case hkw13 => rfl
        case hltw13 => exact hlt
      conv => whnf
      conv =>
       arg 2
       tactic' =>
        apply eff_load_sub (ho := ?how14) (hT := ?hTw14) (hx := ?hxw14) (hb := ?hbw14) (hm := ?hmw14) (hv := ?hvw14)
        case how14 => rfl
        case hTw14 => rfl
        case hxw14 => rfl
        case hbw14 => rfl
        case hmw14 => exact subC_pt l hlt 6 (r := ptC l[k].c) rfl
        case hvw14 => rfl
      conv => whnf
      refine bcase_intro (fun _ => ?_) (fun _ => ?_)
      ·conv => whnf
       conv =>
        arg 2
        tactic' =>
         apply eff_index_sli (k := k) (hi := (lt_ir hl hk)) (ho := ?how15) (hT := ?hTw15) (hx := ?hxw15) (hk := ?hkw15) (hlt := ?hltw15)
         case how15 => rfl
         case hTw15 => rfl
         case hxw15 => rfl
         case hkw15 => rfl
         case hltw15 => exact hlt
       conv => whnf
       conv =>
        arg 2
        tactic' =>
         apply eff_load_sub (ho := ?how16) (hT := ?hTw16) (hx := ?hxw16) (hb := ?hbw16) (hm := ?hmw16) (hv := ?hvw16)
         case how16 => rfl
         case hTw16 => rfl
         case hxw16 => rfl
         case hbw16 => rfl
         case hmw16 => exact subC_pt l hlt 0 (r := ptC l[k].a) rfl
         case hvw16 => rfl
       conv => whnf
       refine ⟨[0], [0], fun vs9 => ?_⟩
       conv => whnf
       refine ⟨pureL_trs l, ?_⟩
       conv => whnf
       exact ⟨_, [], rfl, ⟨⟨rfl,rfl,rfl, fun _=>rfl⟩, trivial⟩, trivial, _, fun _=>rfl,hc l[k].a true⟩
      ·conv => whnf
       conv =>
        arg 2
        tactic' =>
         apply eff_index_sli (k := k) (hi := (lt_ir hl hk)) (ho := ?how17) (hT := ?hTw17) (hx := ?hxw17) (hk := ?hkw17) (hlt := ?hltw17)
         case how17 => rfl
         case hTw17 => rfl
         case hxw17 => rfl
         case hkw17 => rfl
         case hltw17 => exact hlt
       conv => whnf
       conv =>
        arg 2
        tactic' =>
         apply eff_load_sub (ho := ?how18) (hT := ?hTw18) (hx := ?hxw18) (hb := ?hbw18) (hm := ?hmw18) (hv := ?hvw18)
         case how18 => rfl
         case hTw18 => rfl
         case hxw18 => rfl
         case hbw18 => rfl
         case hmw18 => exact subC_pt l hlt 6 (r := ptC l[k].c) rfl
         case hvw18 => rfl
       conv => whnf
       refine bcase_intro (fun _ => ?_) (fun _ => ?_)
       ·conv => whnf
        conv =>
         arg 2
         tactic' =>
          apply eff_index_sli (k := k) (hi := (lt_ir hl hk)) (ho := ?how19) (hT := ?hTw19) (hx := ?hxw19) (hk := ?hkw19) (hlt := ?hltw19)
          case how19 => rfl
          case hTw19 => rfl
          case hxw19 => rfl
          case hkw19 => rfl
          case hltw19 => exact hlt
        conv => whnf
        conv =>
         arg 2
         tactic' =>
          apply eff_load_sub (ho := ?how20) (hT := ?hTw20) (hx := ?hxw20) (hb := ?hbw20) (hm := ?hmw20) (hv := ?hvw20)
          case how20 => rfl
          case hTw20 => rfl
          case hxw20 => rfl
          case hbw20 => rfl
          case hmw20 => exact subC_pt l hlt 0 (r := ptC l[k].a) rfl
          case hvw20 => rfl
        conv => whnf
        refine bcase_intro (fun _ => ?_) (fun _ => ?_)
        ·conv => whnf
         conv =>
          arg 2
          tactic' =>
           apply eff_index_sli (k := k) (hi := (lt_ir hl hk)) (ho := ?how21) (hT := ?hTw21) (hx := ?hxw21) (hk := ?hkw21) (hlt := ?hltw21)
           case how21 => rfl
           case hTw21 => rfl
           case hxw21 => rfl
           case hkw21 => rfl
           case hltw21 => exact hlt
         conv => whnf
         conv =>
          arg 2
          tactic' =>
           apply eff_load_sub (ho := ?how22) (hT := ?hTw22) (hx := ?hxw22) (hb := ?hbw22) (hm := ?hmw22) (hv := ?hvw22)
           case how22 => rfl
           case hTw22 => rfl
           case hxw22 => rfl
           case hbw22 => rfl
           case hmw22 => exact subC_pt l hlt 3 (r := ptC l[k].b) rfl
           case hvw22 => rfl
         conv => whnf
         refine ⟨[0], [0], fun vs9 => ?_⟩
         conv => whnf
         refine ⟨pureL_trs l, ?_⟩
         conv => whnf
         exact ⟨_, [], rfl, ⟨⟨rfl,rfl,rfl, fun _=>rfl⟩, trivial⟩, trivial, _, fun _=>rfl,hc l[k].b true⟩
        ·conv => whnf
         refine ⟨[0,1,2,3], [0,4,5,6,8], [0], fun vs2 => ?_⟩
         conv => whnf
         refine ⟨pureL_trs l, ?_⟩
         conv => whnf
         refine ⟨_, _, ?_, ?_, (⟨k + 1, hlt⟩, vs2), (by omega : l.length - (k + 1) < l.length - k), rfl, rfl⟩
         ·exact ⟨fun _=>rfl,fun _=>rfl,fun _=>rfl,fun _=>rfl,fun _=>rfl,fun _=>rfl,fun _=>rfl,fun _=>rfl,fun ρ => sint_k (wrap_add1 hlt hl.ir) ρ, stm _⟩
         ·exact ⟨⟨rfl,rfl,rfl, fun _=>rfl⟩, ⟨rfl,rfl,rfl, fun _=>rfl⟩, ⟨rfl,rfl,rfl, fun _=>rfl⟩, ⟨rfl,rfl,rfl, fun _=>rfl⟩, trivial⟩
       ·conv => whnf
        refine ⟨[0,1,2,3], [0,4,5,6,8], [0], fun vs2 => ?_⟩
        conv => whnf
        refine ⟨pureL_trs l, ?_⟩
        conv => whnf
        refine ⟨_, _, ?_, ?_, (⟨k + 1, hlt⟩, vs2), (by omega : l.length - (k + 1) < l.length - k), rfl, rfl⟩
        ·exact ⟨fun _=>rfl,fun _=>rfl,fun _=>rfl,fun _=>rfl,fun _=>rfl,fun _=>rfl,fun _=>rfl,fun _=>rfl,fun ρ => sint_k (wrap_add1 hlt hl.ir) ρ, stm _⟩
        ·exact ⟨⟨rfl,rfl,rfl, fun _=>rfl⟩, ⟨rfl,rfl,rfl, fun _=>rfl⟩, ⟨rfl,rfl,rfl, fun _=>rfl⟩, ⟨rfl,rfl,rfl, fun _=>rfl⟩, trivial⟩
     ·conv => whnf
      conv =>
       arg 2
       tactic' =>
        apply eff_index_sli (k := k) (hi := (lt_ir hl hk)) (ho := ?how23) (hT := ?hTw23) (hx := ?hxw23) (hk := ?hkw23) (hlt := ?hltw23)
        case how23 => rfl
        case hTw23 => rfl
        case hxw23 => rfl
        case hkw23 => rfl
        case hltw23 => exact hlt
      conv => whnf
      conv =>
       arg 2
       tactic' =>
        apply eff_load_sub (ho := ?how24) (hT := ?hTw24) (hx := ?hxw24) (hb := ?hbw24) (hm := ?hmw24) (hv := ?hvw24)
        case how24 => rfl
        case hTw24 => rfl
        case hxw24 => rfl
        case hbw24 => rfl
        case hmw24 => exact subC_pt l hlt 6 (r := ptC l[k].c) rfl
        case hvw24 => rfl
      conv => whnf
      refine bcase_intro (fun _ => ?_) (fun _ => ?_)
      ·conv => whnf
       conv =>
        arg 2
        tactic' =>
         apply eff_index_sli (k := k) (hi := (lt_ir hl hk)) (ho := ?how25) (hT := ?hTw25) (hx := ?hxw25) (hk := ?hkw25) (hlt := ?hltw25)
         case how25 => rfl
         case hTw25 => rfl
         case hxw25 => rfl
         case hkw25 => rfl
         case hltw25 => exact hlt
       conv => whnf
       conv =>
        arg 2
        tactic' =>
         apply eff_load_sub (ho := ?how26) (hT := ?hTw26) (hx := ?hxw26) (hb := ?hbw26) (hm := ?hmw26) (hv := ?hvw26)
         case how26 => rfl
         case hTw26 => rfl
         case hxw26 => rfl
         case hbw26 => rfl
         case hmw26 => exact subC_pt l hlt 0 (r := ptC l[k].a) rfl
         case hvw26 => rfl
       conv => whnf
       refine bcase_intro (fun _ => ?_) (fun _ => ?_)
       ·conv => whnf
        conv =>
         arg 2
         tactic' =>
          apply eff_index_sli (k := k) (hi := (lt_ir hl hk)) (ho := ?how27) (hT := ?hTw27) (hx := ?hxw27) (hk := ?hkw27) (hlt := ?hltw27)
          case how27 => rfl
          case hTw27 => rfl
          case hxw27 => rfl
          case hkw27 => rfl
          case hltw27 => exact hlt
        conv => whnf
        conv =>
         arg 2
         tactic' =>
          apply eff_load_sub (ho := ?how28) (hT := ?hTw28) (hx := ?hxw28) (hb := ?hbw28) (hm := ?hmw28) (hv := ?hvw28)
          case how28 => rfl
          case hTw28 => rfl
          case hxw28 => rfl
          case hbw28 => rfl
          case hmw28 => exact subC_pt l hlt 3 (r := ptC l[k].b) rfl
          case hvw28 => rfl
        conv => whnf
        refine ⟨[0], [0], fun vs9 => ?_⟩
        conv => whnf
        refine ⟨pureL_trs l, ?_⟩
        conv => whnf
        exact ⟨_, [], rfl, ⟨⟨rfl,rfl,rfl, fun _=>rfl⟩, trivial⟩, trivial, _, fun _=>rfl,hc l[k].b true⟩
       ·conv => whnf
        refine ⟨[0,1,2,3], [0,4,5,6,8], [0], fun vs2 => ?_⟩
        conv => whnf
        refine ⟨pureL_trs l, ?_⟩
        conv => whnf
        refine ⟨_, _, ?_, ?_, (⟨k + 1, hlt⟩, vs2), (by omega : l.length - (k + 1) < l.length - k), rfl, rfl⟩
        ·exact ⟨fun _=>rfl,fun _=>rfl,fun _=>rfl,fun _=>rfl,fun _=>rfl,fun _=>rfl,fun _=>rfl,fun _=>rfl,fun ρ => sint_k (wrap_add1 hlt hl.ir) ρ, stm _⟩
        ·exact ⟨⟨rfl,rfl,rfl, fun _=>rfl⟩, ⟨rfl,rfl,rfl, fun _=>rfl⟩, ⟨rfl,rfl,rfl, fun _=>rfl⟩, ⟨rfl,rfl,rfl, fun _=>rfl⟩, trivial⟩
      ·conv => whnf
       refine ⟨[0,1,2,3], [0,4,5,6,8], [0], fun vs2 => ?_⟩
       conv => whnf
       refine ⟨pureL_trs l, ?_⟩
       conv => whnf
       refine ⟨_, _, ?_, ?_, (⟨k + 1, hlt⟩, vs2), (by omega : l.length - (k + 1) < l.length - k), rfl, rfl⟩
       ·exact ⟨fun _=>rfl,fun _=>rfl,fun _=>rfl,fun _=>rfl,fun _=>rfl,fun _=>rfl,fun _=>rfl,fun _=>rfl,fun ρ => sint_k (wrap_add1 hlt hl.ir) ρ, stm _⟩
       ·exact ⟨⟨rfl,rfl,rfl, fun _=>rfl⟩, ⟨rfl,rfl,rfl, fun _=>rfl⟩, ⟨rfl,rfl,rfl, fun _=>rfl⟩, ⟨rfl,rfl,rfl, fun _=>rfl⟩, trivial⟩
   ·conv => whnf
    conv =>
     arg 2
     tactic' =>
      apply eff_index_sli (k := k) (hi := (lt_ir hl hk)) (ho := ?how29) (hT := ?hTw29) (hx := ?hxw29) (hk := ?hkw29) (hlt := ?hltw29)
      case how29 => rfl
      case hTw29 => rfl
      case hxw29 => rfl
      case hkw29 => rfl
      case hltw29 => exact hlt
    conv => whnf
    conv =>
     arg 2
     tactic' =>
      apply eff_load_sub (ho := ?how30) (hT := ?hTw30) (hx := ?hxw30) (hb := ?hbw30) (hm := ?hmw30) (hv := ?hvw30)
      case how30 => rfl
      case hTw30 => rfl
      case hxw30 => rfl
      case hbw30 => rfl
      case hmw30 => exact subC_pt l hlt 3 (r := ptC l[k].b) rfl
      case hvw30 => rfl
    conv => whnf
    refine bcase_intro (fun _ => ?_) (fun _ => ?_)
    ·conv => whnf
     conv =>
      arg 2
      tactic' =>
       apply eff_index_sli (k := k) (hi := (lt_ir hl hk)) (ho := ?how31) (hT := ?hTw31) (hx := ?hxw31) (hk := ?hkw31) (hlt := ?hltw31)
       case how31 => rfl
       case hTw31 => rfl
       case hxw31 => rfl
       case hkw31 => rfl
       case hltw31 => exact hlt
     conv => whnf
     conv =>
      arg 2
      tactic' =>
       apply eff_load_sub (ho := ?how32) (hT := ?hTw32) (hx := ?hxw32) (hb := ?hbw32) (hm := ?hmw32) (hv := ?hvw32)
       case how32 => rfl
       case hTw32 => rfl
       case hxw32 => rfl
       case hbw32 => rfl
       case hmw32 => exact subC_pt l hlt 6 (r := ptC l[k].c) rfl
       case hvw32 => rfl
     conv => whnf
     refine bcase_intro (fun _ => ?_) (fun _ => ?_)
     ·conv => whnf
      conv =>
       arg 2
       tactic' =>
        apply eff_index_sli (k := k) (hi := (lt_ir hl hk)) (ho := ?how33) (hT := ?hTw33) (hx := ?hxw33) (hk := ?hkw33) (hlt := ?hltw33)
        case how33 => rfl
        case hTw33 => rfl
        case hxw33 => rfl
        case hkw33 => rfl
        case hltw33 => exact hlt
      conv => whnf
      conv =>
       arg 2
       tactic' =>
        apply eff_load_sub (ho := ?how34) (hT := ?hTw34) (hx := ?hxw34) (hb := ?hbw34) (hm := ?hmw34) (hv := ?hvw34)
        case how34 => rfl
        case hTw34 => rfl
        case hxw34 => rfl
        case hbw34 => rfl
        case hmw34 => exact subC_pt l hlt 0 (r := ptC l[k].a) rfl
        case hvw34 => rfl
      conv => whnf
      refine ⟨[0], [0], fun vs9 => ?_⟩
      conv => whnf
      refine ⟨pureL_trs l, ?_⟩
      conv => whnf
      exact ⟨_, [], rfl, ⟨⟨rfl,rfl,rfl, fun _=>rfl⟩, trivial⟩, trivial, _, fun _=>rfl,hc l[k].a true⟩
     ·conv => whnf
      conv =>
       arg 2
       tactic' =>
        apply eff_index_sli (k := k) (hi := (lt_ir hl hk)) (ho := ?how35) (hT := ?hTw35) (hx := ?hxw35) (hk := ?hkw35) (hlt := ?hltw35)
        case how35 => rfl
        case hTw35 => rfl
        case hxw35 => rfl
        case hkw35 => rfl
        case hltw35 => exact hlt
      conv => whnf
      conv =>
       arg 2
       tactic' =>
        apply eff_load_sub (ho := ?how36) (hT := ?hTw36) (hx := ?hxw36) (hb := ?hbw36) (hm := ?hmw36) (hv := ?hvw36)
        case how36 => rfl
        case hTw36 => rfl
        case hxw36 => rfl
        case hbw36 => rfl
        case hmw36 => exact subC_pt l hlt 6 (r := ptC l[k].c) rfl
        case hvw36 => rfl
      conv => whnf
      refine bcase_intro (fun _ => ?_) (fun _ => ?_)
      ·conv => whnf
       conv =>
        arg 2
        tactic' =>
         apply eff_index_sli (k := k) (hi := (lt_ir hl hk)) (ho := ?how37) (hT := ?hTw37) (hx := ?hxw37) (hk := ?hkw37) (hlt := ?hltw37)
         case how37 => rfl
         case hTw37 => rfl
         case hxw37 => rfl
         case hkw37 => rfl
         case hltw37 => exact hlt
       conv => whnf
       conv =>
        arg 2
        tactic' =>
         apply eff_load_sub (ho := ?how38) (hT := ?hTw38) (hx := ?hxw38) (hb := ?hbw38) (hm := ?hmw38) (hv := ?hvw38)
         case how38 => rfl
         case hTw38 => rfl
         case hxw38 => rfl
         case hbw38 => rfl
         case hmw38 => exact subC_pt l hlt 0 (r := ptC l[k].a) rfl
         case hvw38 => rfl
       conv => whnf
       refine bcase_intro (fun _ => ?_) (fun _ => ?_)
       ·conv => whnf
        conv =>
         arg 2
         tactic' =>
          apply eff_index_sli (k := k) (hi := (lt_ir hl hk)) (ho := ?how39) (hT := ?hTw39) (hx := ?hxw39) (hk := ?hkw39) (hlt := ?hltw39)
          case how39 => rfl
          case hTw39 => rfl
          case hxw39 => rfl
          case hkw39 => rfl
          case hltw39 => exact hlt
        conv => whnf
        conv =>
         arg 2
         tactic' =>
          apply eff_load_sub (ho := ?how40) (hT := ?hTw40) (hx := ?hxw40) (hb := ?hbw40) (hm := ?hmw40) (hv := ?hvw40)
          case how40 => rfl
          case hTw40 => rfl
          case hxw40 => rfl
          case hbw40 => rfl
          case hmw40 => exact subC_pt l hlt 3 (r := ptC l[k].b) rfl
          case hvw40 => rfl
        conv => whnf
        refine ⟨[0], [0], fun vs9 => ?_⟩
        conv => whnf
        refine ⟨pureL_trs l, ?_⟩
        conv => whnf
        exact ⟨_, [], rfl, ⟨⟨rfl,rfl,rfl, fun _=>rfl⟩, trivial⟩, trivial, _, fun _=>rfl,hc l[k].b true⟩
       ·conv => whnf
        refine ⟨[0,1,2,3], [0,4,5,6,8], [0], fun vs2 => ?_⟩
        conv => whnf
        refine ⟨pureL_trs l, ?_⟩
        conv => whnf
        refine ⟨_, _, ?_, ?_, (⟨k + 1, hlt⟩, vs2), (by omega : l.length - (k + 1) < l.length - k), rfl, rfl⟩
        ·exact ⟨fun _=>rfl,fun _=>rfl,fun _=>rfl,fun _=>rfl,fun _=>rfl,fun _=>rfl,fun _=>rfl,fun _=>rfl,fun ρ => sint_k (wrap_add1 hlt hl.ir) ρ, stm _⟩
        ·exact ⟨⟨rfl,rfl,rfl, fun _=>rfl⟩, ⟨rfl,rfl,rfl, fun _=>rfl⟩, ⟨rfl,rfl,rfl, fun _=>rfl⟩, ⟨rfl,rfl,rfl, fun _=>rfl⟩, trivial⟩
      ·conv => whnf
       refine ⟨[0,1,2,3], [0,4,5,6,8], [0], fun vs2 => ?_⟩
       conv => whnf
       refine ⟨pureL_trs l, ?_⟩
       conv => whnf
       refine ⟨_, _, ?_, ?_, (⟨k + 1, hlt⟩, vs2), (by omega : l.length - (k + 1) < l.length - k), rfl, rfl⟩
       ·exact ⟨fun _=>rfl,fun _=>rfl,fun _=>rfl,fun _=>rfl,fun _=>rfl,fun _=>rfl,fun _=>rfl,fun _=>rfl,fun ρ => sint_k (wrap_add1 hlt hl.ir) ρ, stm _⟩
       ·exact ⟨⟨rfl,rfl,rfl, fun _=>rfl⟩, ⟨rfl,rfl,rfl, fun _=>rfl⟩, ⟨rfl,rfl,rfl, fun _=>rfl⟩, ⟨rfl,rfl,rfl, fun _=>rfl⟩, trivial⟩
    ·conv => whnf
     conv =>
      arg 2
      tactic' =>
       apply eff_index_sli (k := k) (hi := (lt_ir hl hk)) (ho := ?how41) (hT := ?hTw41) (hx := ?hxw41) (hk := ?hkw41) (hlt := ?hltw41)
       case how41 => rfl
       case hTw41 => rfl
       case hxw41 => rfl
       case hkw41 => rfl
       case hltw41 => exact hlt
     conv => whnf
     conv =>
      arg 2
      tactic' =>
       apply eff_load_sub (ho := ?how42) (hT := ?hTw42) (hx := ?hxw42) (hb := ?hbw42) (hm := ?hmw42) (hv := ?hvw42)
       case how42 => rfl
       case hTw42 => rfl
       case hxw42 => rfl
       case hbw42 => rfl
       case hmw42 => exact subC_pt l hlt 6 (r := ptC l[k].c) rfl
       case hvw42 => rfl
     conv => whnf
     refine bcase_intro (fun _ => ?_) (fun _ => ?_)
     ·conv => whnf
      conv =>
       arg 2
       tactic' =>
        apply eff_index_sli (k := k) (hi := (lt_ir hl hk)) (ho := ?how43) (hT := ?hTw43) (hx := ?hxw43) (hk := ?hkw43) (hlt := ?hltw43)
        case how43 => rfl
        case hTw43 => rfl
        case hxw43 => rfl
        case hkw43 => rfl
        case hltw43 => exact hlt
      conv => whnf
      conv =>
       arg 2
       tactic' =>
        apply eff_load_sub (ho := ?how44) (hT := ?hTw44) (hx := ?hxw44) (hb := ?hbw44) (hm := ?hmw44) (hv := ?hvw44)
        case how44 => rfl
        case hTw44 => rfl
        case hxw44 => rfl
        case hbw44 => rfl
        case hmw44 => exact subC_pt l hlt 0 (r := ptC l[k].a) rfl
        case hvw44 => rfl
      conv => whnf
      refine bcase_intro (fun _ => ?_) (fun _ => ?_)
      ·conv => whnf
       conv =>
        arg 2
        tactic' =>
         apply eff_index_sli (k := k) (hi := (lt_ir hl hk)) (ho := ?how45) (hT := ?hTw45) (hx := ?hxw45) (hk := ?hkw45) (hlt := ?hltw45)
         case how45 => rfl
         case hTw45 => rfl
         case hxw45 => rfl
         case hkw45 => rfl
         case hltw45 => exact hlt
       conv => whnf
       conv =>
        arg 2
        tactic' =>
         apply eff_load_sub (ho := ?how46) (hT := ?hTw46) (hx := ?hxw46) (hb := ?hbw46) (hm := ?hmw46) (hv := ?hvw46)
         case how46 => rfl
         case hTw46 => rfl
         case hxw46 => rfl
         case hbw46 => rfl
         case hmw46 => exact subC_pt l hlt 3 (r := ptC l[k].b) rfl
         case hvw46 => rfl
       conv => whnf
       refine ⟨[0], [0], fun vs9 => ?_⟩
       conv => whnf
       refine ⟨pureL_trs l, ?_⟩
       conv => whnf
       exact ⟨_, [], rfl, ⟨⟨rfl,rfl,rfl, fun _=>rfl⟩, trivial⟩, trivial, _, fun _=>rfl,hc l[k].b true⟩
      ·conv => whnf
       refine ⟨[0,1,2,3], [0,4,5,6,8], [0], fun vs2 => ?_⟩
       conv => whnf
       refine ⟨pureL_trs l, ?_⟩
       conv => whnf
       refine ⟨_, _, ?_, ?_, (⟨k + 1, hlt⟩, vs2), (by omega : l.length - (k + 1) < l.length - k), rfl, rfl⟩
       ·exact ⟨fun _=>rfl,fun _=>rfl,fun _=>rfl,fun _=>rfl,fun _=>rfl,fun _=>rfl,fun _=>rfl,fun _=>rfl,fun ρ => sint_k (wrap_add1 hlt hl.ir) ρ, stm _⟩
       ·exact ⟨⟨rfl,rfl,rfl, fun _=>rfl⟩, ⟨rfl,rfl,rfl, fun _=>rfl⟩, ⟨rfl,rfl,rfl, fun _=>rfl⟩, ⟨rfl,rfl,rfl, fun _=>rfl⟩, trivial⟩
     ·conv => whnf
      refine ⟨[0,1,2,3], [0,4,5,6,8], [0], fun vs2 => ?_⟩
      conv => whnf
      refine ⟨pureL_trs l, ?_⟩
      conv => whnf
      refine ⟨_, _, ?_, ?_, (⟨k + 1, hlt⟩, vs2), (by omega : l.length - (k + 1) < l.length - k), rfl, rfl⟩
      ·exact ⟨fun _=>rfl,fun _=>rfl,fun _=>rfl,fun _=>rfl,fun _=>rfl,fun _=>rfl,fun _=>rfl,fun _=>rfl,fun ρ => sint_k (wrap_add1 hlt hl.ir) ρ, stm _⟩
      ·exact ⟨⟨rfl,rfl,rfl, fun _=>rfl⟩, ⟨rfl,rfl,rfl, fun _=>rfl⟩, ⟨rfl,rfl,rfl, fun _=>rfl⟩, ⟨rfl,rfl,rfl, fun _=>rfl⟩, trivial⟩
  ·have hlt : l.length ≤ k := n_ge hlt
   conv => whnf
   refine ⟨[0], [0], fun vs9 => ?_⟩
   conv => whnf
   refine ⟨pureL_trs l, ?_⟩
   conv => whnf
   exact ⟨_, [], rfl, ⟨⟨rfl,rfl,rfl, fun _=>rfl⟩, trivial⟩, trivial, _, fun _=>rfl,hc p false⟩
end Go.Proofs.YtocbklodkcdhkaaGreatDoor

namespace Go.Proofs.YtocbklodkcdhkaaGreatDoor
open Go.RowKit
set_option maxRecDepth 100000

def cPinch : NewC := fun args ros K => ∃ nl len cap h ty l p, args = [.c (.sli nl 0 0 len cap h), .agg (ptC p)] ∧ ros = [⟨ty, true, trsC l, 0⟩] ∧ l.length = len ∧ len ≤ 300000 ∧ ∀ (b : Bool), K (.c (.val (.bool b))) []
def piC : List (FuncId × NewC) := [(61, cBehind)]
theorem piC_ok : AllC Tryz.prog piC := .cons csBehind .nil
theorem ir_mx {n k : Nat} (h : k ≤ max 1 n) (hn : n ≤ 900000) : IR (k : Nat) := by unfold IR; omega
theorem OT.push_len1 (o : OT) {t : TR} (c : Nat) (h : SliOk (o.nl && decide (1 = 0)) (o.l.length + 1) c) : (o.push [t] rfl c h).l.length = o.l.length + 1 := by show (o.l ++ [t]).length = _; simp
theorem OP.push_len1 (o : OP) {t : PT} (c : Nat) (h : SliOk (o.nl && decide (1 = 0)) (o.l.length + 1) c) : (o.push [t] rfl c h).l.length = o.l.length + 1 := by show (o.l ++ [t]).length = _; simp
theorem push1_le {a b c : Nat} (h : a = b + 1) (h2 : b ≤ c) : a ≤ c + 1 := by omega
set_option maxHeartbeats 16000000 in
theorem csPinch : CSp Tryz.prog 42 cPinch := csp_of (env_ok baseWE_ok 0) mixed (hnew_ok piC_ok (inl_ok (env_ok baseWE_ok 0) mixed noF_ok 0)) ⟨Tryz.func42, by kernel_rfl, by kernel_rfl⟩ fun args ros K hc => by
 obtain ⟨nl, _, cap, hl, ty, l, p, rfl,rfl,rfl, hlen, hc⟩ := hc
 refine ⟨fun ρ ρ' e => ?_, ?_⟩
 ·have e0 := e 0 (Nat.zero_lt_succ _)
  simp only [List.map, SV.den, C.den, C.cells, e0]
  rfl
 conv => whnf
 refine loop_st (G := {g : Nat × OT × OP // g.1 ≤ l.length ∧ g.2.1.l.length ≤ 3 * g.1 ∧ g.2.2.l.length ≤ 3 * g.1} × (Nat → Value)) (fun g => (.c (.sli nl 0 0 l.length cap hl) :: .c (.val (g.2 1)) :: .c (.val (g.2 2)) :: .c (.ptr 1 0) :: .c (.val (g.2 4)) :: g.1.1.2.1.sl 2 :: g.1.1.2.2.sl 3 :: .c (.int (g.1.1.1 : Nat) (lt_ir hl g.1.2.1)) :: .c (.val (g.2 8)) :: .c (.val (g.2 9)) :: .c (.val (g.2 10)) :: .c (.val (g.2 11)) :: .c (.val (g.2 12)) :: .c (.val (g.2 13)) :: .c (.val (g.2 14)) :: .c (.val (g.2 15)) :: .c (.val (g.2 16)) :: .c (.val (g.2 17)) :: .c (.val (g.2 18)) :: .c (.val (g.2 19)) :: .c (.val (g.2 20)) :: .c (.val (g.2 21)) :: .c (.val (g.2 22)) :: .c (.val (g.2 23)) :: .c (.val (g.2 24)) :: .c (.val (g.2 25)) :: .c (.val (g.2 26)) :: .c (.val (g.2 27)) :: .c (.val (g.2 28)) :: .c (.val (g.2 29)) :: .c (.val (g.2 30)) :: .c (.val (g.2 31)) :: .c (.val (g.2 32)) :: .c (.val (g.2 33)) :: .c (.val (g.2 34)) :: .c (.val (g.2 35)) :: .c (.val (g.2 36)) :: .c (.val (g.2 37)) :: .c (.val (g.2 38)) :: .c (.val (g.2 39)) :: .c (.val (g.2 40)) :: .c (.val (g.2 41)) :: .c (.val (g.2 42)) :: .c (.val (g.2 43)) :: .c (.val (g.2 44)) :: .c (.val (g.2 45)) :: .c (.val (g.2 46)) :: .c (.val (g.2 47)) :: .c (.val (g.2 48)) :: .c (.val (g.2 49)) :: .c (.val (g.2 50)) :: .c (.val (g.2 51)) :: .c (.val (g.2 52)) :: .c (.val (g.2 53)) :: .c (.val (g.2 54)) :: .c (.val (g.2 55)) :: .c (.val (g.2 56)) :: .c (.val (g.2 57)) :: .c (.val (g.2 58)) :: .c (.val (g.2 59)) :: .c (.val (g.2 60)) :: .c (.val (g.2 61)) :: .c (.val (g.2 62)) :: .c (.val (g.2 63)) :: .c (.val (g.2 64)) :: .c (.val (g.2 65)) :: .c (.val (g.2 66)) :: .c (.val (g.2 67)) :: .c (.val (g.2 68)) :: .c (.val (g.2 69)) :: .c (.val (g.2 70)) :: .c (.val (g.2 71)) :: .c (.val (g.2 72)) :: .c (.val (g.2 73)) :: .c (.val (g.2 74)) :: .c (.val (g.2 75)) :: .c (.val (g.2 76)) :: .c (.val (g.2 77)) :: .c (.val (g.2 78)) :: .c (.val (g.2 79)) :: .c (.val (g.2 80)) :: .c (.val (g.2 81)) :: [])) (fun g => [⟨ty, true, trsC l, 0⟩, ⟨35, false, ptC p, 0⟩, g.1.1.2.1.blk, g.1.1.2.2.blk]) (fun g => l.length - g.1.1.1) ?_ ?_
 ·refine ⟨[0, 1, 1000 + 38, 1000 + 35], [0,3,5,6,7], [0], fun vs => ?_⟩
  conv => whnf
  refine ⟨pureL_trs l, ?_⟩
  conv => whnf
  refine ⟨_, _, ?_, ?_, (⟨(0, OT.none, OP.none), Nat.zero_le _, Nat.zero_le _, Nat.zero_le _⟩, vs), rfl, rfl⟩
  ·exact ⟨fun _=>rfl,fun _=>rfl,fun _=>rfl,fun _=>rfl,fun _=>rfl,fun _=>rfl,fun _=>rfl,fun _=>rfl,stm _⟩
  ·exact ⟨⟨rfl,rfl,rfl, fun _=>rfl⟩, ⟨rfl,rfl,rfl, fun _=>rfl⟩, ⟨rfl,rfl,rfl, fun _=>rfl⟩, ⟨rfl,rfl,rfl, fun _=>rfl⟩, trivial⟩
 ·rintro ⟨⟨⟨k, m, s⟩, hk, hm, hs⟩, vs⟩
  have hk : k ≤ l.length := hk
  have hm : m.l.length ≤ 3 * k := hm
  have hs : s.l.length ≤ 3 * k := hs
  dsimp only
  conv => whnf
  refine bcase_intro (fun hlt => ?_) (fun hlt => ?_)
  ·have hlt : k < l.length := n_lt hlt
   conv => whnf
   refine loop_st (G := {g : Nat × OT × OP // g.1 ≤ 3 ∧ g.2.1.l.length ≤ 3 * k + g.1 ∧ g.2.2.l.length ≤ 3 * k + g.1} × (Nat → Value)) (fun g => (.c (.sli nl 0 0 l.length cap hl) :: .c (.val (g.2 1)) :: .c (.val (g.2 2)) :: .c (.ptr 1 0) :: .c (.val (g.2 4)) :: g.1.1.2.1.sl 2 :: g.1.1.2.2.sl 3 :: .c (.int (k : Nat) (lt_ir hl hk)) :: .c (.int (g.1.1.1 : Nat) (ir3 g.1.2.1)) :: .c (.val (g.2 9)) :: .c (.val (g.2 10)) :: .c (.val (g.2 11)) :: .c (.val (g.2 12)) :: .c (.val (g.2 13)) :: .c (.val (g.2 14)) :: .c (.val (g.2 15)) :: .c (.val (g.2 16)) :: .c (.val (g.2 17)) :: .c (.val (g.2 18)) :: .c (.val (g.2 19)) :: .c (.val (g.2 20)) :: .c (.val (g.2 21)) :: .c (.val (g.2 22)) :: .c (.val (g.2 23)) :: .c (.val (g.2 24)) :: .c (.val (g.2 25)) :: .c (.val (g.2 26)) :: .c (.val (g.2 27)) :: .c (.val (g.2 28)) :: .c (.val (g.2 29)) :: .c (.val (g.2 30)) :: .c (.val (g.2 31)) :: .c (.val (g.2 32)) :: .c (.val (g.2 33)) :: .c (.val (g.2 34)) :: .c (.val (g.2 35)) :: .c (.val (g.2 36)) :: .c (.val (g.2 37)) :: .c (.val (g.2 38)) :: .c (.val (g.2 39)) :: .c (.val (g.2 40)) :: .c (.val (g.2 41)) :: .c (.val (g.2 42)) :: .c (.val (g.2 43)) :: .c (.val (g.2 44)) :: .c (.val (g.2 45)) :: .c (.val (g.2 46)) :: .c (.val (g.2 47)) :: .c (.val (g.2 48)) :: .c (.val (g.2 49)) :: .c (.val (g.2 50)) :: .c (.val (g.2 51)) :: .c (.val (g.2 52)) :: .c (.val (g.2 53)) :: .c (.val (g.2 54)) :: .c (.val (g.2 55)) :: .c (.val (g.2 56)) :: .c (.val (g.2 57)) :: .c (.val (g.2 58)) :: .c (.val (g.2 59)) :: .c (.val (g.2 60)) :: .c (.val (g.2 61)) :: .c (.val (g.2 62)) :: .c (.val (g.2 63)) :: .c (.val (g.2 64)) :: .c (.val (g.2 65)) :: .c (.val (g.2 66)) :: .c (.val (g.2 67)) :: .c (.val (g.2 68)) :: .c (.val (g.2 69)) :: .c (.val (g.2 70)) :: .c (.val (g.2 71)) :: .c (.val (g.2 72)) :: .c (.val (g.2 73)) :: .c (.val (g.2 74)) :: .c (.val (g.2 75)) :: .c (.val (g.2 76)) :: .c (.val (g.2 77)) :: .c (.val (g.2 78)) :: .c (.val (g.2 79)) :: .c (.val (g.2 80)) :: .c (.val (g.2 81)) :: [])) (fun g => [⟨ty, true, trsC l, 0⟩, ⟨35, false, ptC p, 0⟩, g.1.1.2.1.blk, g.1.1.2.2.blk]) (fun g => 3 - g.1.1.1) ?_ ?_
   ·refine ⟨[0,1,2,3], [0,3,5,6,7,8], [0,2,3], fun vs2 => ?_⟩
    conv => whnf
    refine ⟨pureL_trs l, m.new.1, s.new.1, ?_⟩
    conv => whnf
    refine ⟨_, _, ?_, ?_, (⟨(0, m, s), Nat.zero_le _, hm, hs⟩, vs2), rfl, rfl⟩
    ·exact ⟨fun _=>rfl,fun _=>rfl,fun _=>rfl,fun _=>rfl,fun _=>rfl,fun _=>rfl,fun _=>rfl,fun _=>rfl,fun _=>rfl,stm _⟩
    ·exact ⟨⟨rfl,rfl,rfl, fun _=>rfl⟩, ⟨rfl,rfl,rfl, fun _=>rfl⟩, ⟨rfl,rfl,rfl, fun _=>rfl⟩, ⟨rfl,rfl,rfl, fun _=>rfl⟩, trivial⟩
   ·rintro ⟨⟨⟨j, m2, s2⟩, hj, hm2, hs2⟩, vs2⟩
    have hj : j ≤ 3 := hj
    have hm2 : m2.l.length ≤ 3 * k + j := hm2
    have hs2 : s2.l.length ≤ 3 * k + j := hs2
    have hcase : j = 3 ∨ j = 0 ∨ j = 1 ∨ j = 2 := by omega
    rcases hcase with rfl | rfl | rfl | rfl
    ·conv => whnf
     refine ⟨[0,1,2,3], [0,3,5,6,7], [0,2,3], fun vs3 => ?_⟩
     conv => whnf
     refine ⟨pureL_trs l, m2.new.1, s2.new.1, ?_⟩
     conv => whnf
     refine ⟨_, _, ?_, ?_, (⟨(k + 1, m2, s2), hlt, by show m2.l.length ≤ 3 * (k + 1); omega, by show s2.l.length ≤ 3 * (k + 1); omega⟩, vs3), (by omega : l.length - (k + 1) < l.length - k), rfl, rfl⟩
     ·exact ⟨fun _=>rfl,fun _=>rfl,fun _=>rfl,fun _=>rfl,fun _=>rfl,fun _=>rfl,fun _=>rfl,fun ρ => sint_k (wrap_add1 hlt hl.ir) ρ, stm _⟩
     ·exact ⟨⟨rfl,rfl,rfl, fun _=>rfl⟩, ⟨rfl,rfl,rfl, fun _=>rfl⟩, ⟨rfl,rfl,rfl, fun _=>rfl⟩, ⟨rfl,rfl,rfl, fun _=>rfl⟩, trivial⟩
    ·dsimp only
     conv => whnf
     conv =>
      arg 2
      tactic' =>
       apply eff_index_sli (k := k) (hi := (lt_ir hl hk)) (ho := ?how5) (hT := ?hTw5) (hx := ?hxw5) (hk := ?hkw5) (hlt := ?hltw5)
       case how5 => rfl
       case hTw5 => rfl
       case hxw5 => rfl
       case hkw5 => rfl
       case hltw5 => exact hlt
     conv => whnf
     conv =>
      arg 2
      tactic' =>
       apply eff_load_sub (ho := ?how6) (hT := ?hTw6) (hx := ?hxw6) (hb := ?hbw6) (hm := ?hmw6) (hv := ?hvw6)
       case how6 => rfl
       case hTw6 => rfl
       case hxw6 => rfl
       case hbw6 => rfl
       case hmw6 => exact subC_pt l hlt 0 (r := ptC l[k].a) rfl
       case hvw6 => rfl
     conv => whnf
     refine bcase_intro (fun _ => ?_) (fun _ => ?_)
     ·conv => whnf
      conv =>
       arg 2
       tactic' =>
        apply eff_index_sli (k := k) (hi := (lt_ir hl hk)) (ho := ?how7) (hT := ?hTw7) (hx := ?hxw7) (hk := ?hkw7) (hlt := ?hltw7)
        case how7 => rfl
        case hTw7 => rfl
        case hxw7 => rfl
        case hkw7 => rfl
        case hltw7 => exact hlt
      conv => whnf
      conv =>
       arg 2
       tactic' =>
        apply eff_load_sub (ho := ?how8) (hT := ?hTw8) (hx := ?hxw8) (hb := ?hbw8) (hm := ?hmw8) (hv := ?hvw8)
        case how8 => rfl
        case hTw8 => rfl
        case hxw8 => rfl
        case hbw8 => rfl
        case hmw8 => exact subC_tr9 l hlt
        case hvw8 => rfl
      conv => whnf
      refine ⟨rfl, ?_⟩
      conv => whnf
      refine ⟨OT.app m2 (m := 1) (by omega), fun c2 k2 => ?_⟩
      conv => whnf
      conv =>
       arg 2
       tactic' =>
        apply eff_index_sli (k := k) (hi := (lt_ir hl hk)) (ho := ?how9) (hT := ?hTw9) (hx := ?hxw9) (hk := ?hkw9) (hlt := ?hltw9)
        case how9 => rfl
        case hTw9 => rfl
        case hxw9 => rfl
        case hkw9 => rfl
        case hltw9 => exact hlt
      conv => whnf
      conv =>
       arg 2
       tactic' =>
        apply eff_load_sub (ho := ?how10) (hT := ?hTw10) (hx := ?hxw10) (hb := ?hbw10) (hm := ?hmw10) (hv := ?hvw10)
        case how10 => rfl
        case hTw10 => rfl
        case hxw10 => rfl
        case hbw10 => rfl
        case hmw10 => exact subC_pt l hlt 3 (r := ptC l[k].b) rfl
        case hvw10 => rfl
      conv => whnf
      refine ⟨rfl, ?_⟩
      conv => whnf
      refine ⟨OP.app s2 (m := 1) (by omega), fun c3 k3 => ?_⟩
      conv => whnf
      refine ⟨[0,1,5,7], [0,3,5,6,7,8], [0,2,3], fun vs3 => ?_⟩
      conv => whnf
      refine ⟨pureL_trs l, pureL_append (trsC_pure _) (fun _ _=>rfl), pureL_append (ptsC_pure _) (fun _ _=>rfl), ?_⟩
      conv => whnf
      refine ⟨_, _, ?_, ?_, (⟨(1, m2.push [l[k]] rfl c2 k2, s2.push [l[k].b] rfl c3 k3), (by decide : 1 ≤ 3), push1_le (m2.push_len1 c2 k2) hm2, push1_le (s2.push_len1 c3 k3) hs2⟩, vs3), (by decide : 3 - 1 < 3 - 0), rfl, rfl⟩
      ·exact ⟨fun _=>rfl,fun _=>rfl,fun _=>rfl,fun _=>rfl,fun _=>rfl,fun ρ => m2.push_sl (n := 1) [l[k]] rfl c2 k2 2 ρ, fun ρ => s2.push_sl (n := 1) [l[k].b] rfl c3 k3 3 ρ, stm _⟩
      ·exact ⟨⟨rfl,rfl,rfl, fun _=>rfl⟩, ⟨rfl,rfl,rfl, fun _=>rfl⟩, m2.push_blk (n := 1) [l[k]] rfl c2 k2 (fun _=>rfl), s2.push_blk (n := 1) [l[k].b] rfl c3 k3 (fun _=>rfl), trivial⟩
     ·conv => whnf
      refine ⟨[0,1,2,3], [0,3,5,6,7,8], [0,2,3], fun vs3 => ?_⟩
      conv => whnf
      refine ⟨pureL_trs l, m2.new.1, s2.new.1, ?_⟩
      conv => whnf
      refine ⟨_, _, ?_, ?_, (⟨(1, m2, s2), (by decide : 1 ≤ 3), Nat.le_succ_of_le hm2, Nat.le_succ_of_le hs2⟩, vs3), (by decide : 3 - 1 < 3 - 0), rfl, rfl⟩
      ·exact stm _
      ·exact ⟨⟨rfl,rfl,rfl, fun _=>rfl⟩, ⟨rfl,rfl,rfl, fun _=>rfl⟩, ⟨rfl,rfl,rfl, fun _=>rfl⟩, ⟨rfl,rfl,rfl, fun _=>rfl⟩, trivial⟩
    ·dsimp only
     conv => whnf
     conv =>
      arg 2
      tactic' =>
       apply eff_index_sli (k := k) (hi := (lt_ir hl hk)) (ho := ?how11) (hT := ?hTw11) (hx := ?hxw11) (hk := ?hkw11) (hlt := ?hltw11)
       case how11 => rfl
       case hTw11 => rfl
       case hxw11 => rfl
       case hkw11 => rfl
       case hltw11 => exact hlt
     conv => whnf
     conv =>
      arg 2
      tactic' =>
       apply eff_load_sub (ho := ?how12) (hT := ?hTw12) (hx := ?hxw12) (hb := ?hbw12) (hm := ?hmw12) (hv := ?hvw12)
       case how12 => rfl
       case hTw12 => rfl
       case hxw12 => rfl
       case hbw12 => rfl
       case hmw12 => exact subC_pt l hlt 3 (r := ptC l[k].b) rfl
       case hvw12 => rfl
     conv => whnf
     refine bcase_intro (fun _ => ?_) (fun _ => ?_)
     ·conv => whnf
      conv =>
       arg 2
       tactic' =>
        apply eff_index_sli (k := k) (hi := (lt_ir hl hk)) (ho := ?how13) (hT := ?hTw13) (hx := ?hxw13) (hk := ?hkw13) (hlt := ?hltw13)
        case how13 => rfl
        case hTw13 => rfl
        case hxw13 => rfl
        case hkw13 => rfl
        case hltw13 => exact hlt
      conv => whnf
      conv =>
       arg 2
       tactic' =>
        apply eff_load_sub (ho := ?how14) (hT := ?hTw14) (hx := ?hxw14) (hb := ?hbw14) (hm := ?hmw14) (hv := ?hvw14)
        case how14 => rfl
        case hTw14 => rfl
        case hxw14 => rfl
        case hbw14 => rfl
        case hmw14 => exact subC_tr9 l hlt
        case hvw14 => rfl
      conv => whnf
      refine ⟨rfl, ?_⟩
      conv => whnf
      refine ⟨OT.app m2 (m := 1) (by omega), fun c2 k2 => ?_⟩
      conv => whnf
      conv =>
       arg 2
       tactic' =>
        apply eff_index_sli (k := k) (hi := (lt_ir hl hk)) (ho := ?how15) (hT := ?hTw15) (hx := ?hxw15) (hk := ?hkw15) (hlt := ?hltw15)
        case how15 => rfl
        case hTw15 => rfl
        case hxw15 => rfl
        case hkw15 => rfl
        case hltw15 => exact hlt
      conv => whnf
      conv =>
       arg 2
       tactic' =>
        apply eff_load_sub (ho := ?how16) (hT := ?hTw16) (hx := ?hxw16) (hb := ?hbw16) (hm := ?hmw16) (hv := ?hvw16)
        case how16 => rfl
        case hTw16 => rfl
        case hxw16 => rfl
        case hbw16 => rfl
        case hmw16 => exact subC_pt l hlt 6 (r := ptC l[k].c) rfl
        case hvw16 => rfl
      conv => whnf
      refine ⟨rfl, ?_⟩
      conv => whnf
      refine ⟨OP.app s2 (m := 1) (by omega), fun c3 k3 => ?_⟩
      conv => whnf
      refine ⟨[0,1,5,7], [0,3,5,6,7,8], [0,2,3], fun vs3 => ?_⟩
      conv => whnf
      refine ⟨pureL_trs l, pureL_append (trsC_pure _) (fun _ _=>rfl), pureL_append (ptsC_pure _) (fun _ _=>rfl), ?_⟩
      conv => whnf
      refine ⟨_, _, ?_, ?_, (⟨(2, m2.push [l[k]] rfl c2 k2, s2.push [l[k].c] rfl c3 k3), (by decide : 2 ≤ 3), push1_le (m2.push_len1 c2 k2) hm2, push1_le (s2.push_len1 c3 k3) hs2⟩, vs3), (by decide : 3 - 2 < 3 - 1), rfl, rfl⟩
      ·exact ⟨fun _=>rfl,fun _=>rfl,fun _=>rfl,fun _=>rfl,fun _=>rfl,fun ρ => m2.push_sl (n := 1) [l[k]] rfl c2 k2 2 ρ, fun ρ => s2.push_sl (n := 1) [l[k].c] rfl c3 k3 3 ρ, stm _⟩
      ·exact ⟨⟨rfl,rfl,rfl, fun _=>rfl⟩, ⟨rfl,rfl,rfl, fun _=>rfl⟩, m2.push_blk (n := 1) [l[k]] rfl c2 k2 (fun _=>rfl), s2.push_blk (n := 1) [l[k].c] rfl c3 k3 (fun _=>rfl), trivial⟩
     ·conv => whnf
      refine ⟨[0,1,2,3], [0,3,5,6,7,8], [0,2,3], fun vs3 => ?_⟩
      conv => whnf
      refine ⟨pureL_trs l, m2.new.1, s2.new.1, ?_⟩
      conv => whnf
      refine ⟨_, _, ?_, ?_, (⟨(2, m2, s2), (by decide : 2 ≤ 3), Nat.le_succ_of_le hm2, Nat.le_succ_of_le hs2⟩, vs3), (by decide : 3 - 2 < 3 - 1), rfl, rfl⟩
      ·exact stm _
      ·exact ⟨⟨rfl,rfl,rfl, fun _=>rfl⟩, ⟨rfl,rfl,rfl, fun _=>rfl⟩, ⟨rfl,rfl,rfl, fun _=>rfl⟩, ⟨rfl,rfl,rfl, fun _=>rfl⟩, trivial⟩
    ·dsimp only
     conv => whnf
     conv =>
      arg 2
      tactic' =>
       apply eff_index_sli (k := k) (hi := (lt_ir hl hk)) (ho := ?how17) (hT := ?hTw17) (hx := ?hxw17) (hk := ?hkw17) (hlt := ?hltw17)
       case how17 => rfl
       case hTw17 => rfl
       case hxw17 => rfl
       case hkw17 => rfl
       case hltw17 => exact hlt
     conv => whnf
     conv =>
      arg 2
      tactic' =>
       apply eff_load_sub (ho := ?how18) (hT := ?hTw18) (hx := ?hxw18) (hb := ?hbw18) (hm := ?hmw18) (hv := ?hvw18)
       case how18 => rfl
       case hTw18 => rfl
       case hxw18 => rfl
       case hbw18 => rfl
       case hmw18 => exact subC_pt l hlt 6 (r := ptC l[k].c) rfl
       case hvw18 => rfl
     conv => whnf
     refine bcase_intro (fun _ => ?_) (fun _ => ?_)
     ·conv => whnf
      conv =>
       arg 2
       tactic' =>
        apply eff_index_sli (k := k) (hi := (lt_ir hl hk)) (ho := ?how19) (hT := ?hTw19) (hx := ?hxw19) (hk := ?hkw19) (hlt := ?hltw19)
        case how19 => rfl
        case hTw19 => rfl
        case hxw19 => rfl
        case hkw19 => rfl
        case hltw19 => exact hlt
      conv => whnf
      conv =>
       arg 2
       tactic' =>
        apply eff_load_sub (ho := ?how20) (hT := ?hTw20) (hx := ?hxw20) (hb := ?hbw20) (hm := ?hmw20) (hv := ?hvw20)
        case how20 => rfl
        case hTw20 => rfl
        case hxw20 => rfl
        case hbw20 => rfl
        case hmw20 => exact subC_tr9 l hlt
        case hvw20 => rfl
      conv => whnf
      refine ⟨rfl, ?_⟩
      conv => whnf
      refine ⟨OT.app m2 (m := 1) (by omega), fun c2 k2 => ?_⟩
      conv => whnf
      conv =>
       arg 2
       tactic' =>
        apply eff_index_sli (k := k) (hi := (lt_ir hl hk)) (ho := ?how21) (hT := ?hTw21) (hx := ?hxw21) (hk := ?hkw21) (hlt := ?hltw21)
        case how21 => rfl
        case hTw21 => rfl
        case hxw21 => rfl
        case hkw21 => rfl
        case hltw21 => exact hlt
      conv => whnf
      conv =>
       arg 2
       tactic' =>
        apply eff_load_sub (ho := ?how22) (hT := ?hTw22) (hx := ?hxw22) (hb := ?hbw22) (hm := ?hmw22) (hv := ?hvw22)
        case how22 => rfl
        case hTw22 => rfl
        case hxw22 => rfl
        case hbw22 => rfl
        case hmw22 => exact subC_pt l hlt 0 (r := ptC l[k].a) rfl
        case hvw22 => rfl
      conv => whnf
      refine ⟨rfl, ?_⟩
      conv => whnf
      refine ⟨OP.app s2 (m := 1) (by omega), fun c3 k3 => ?_⟩
      conv => whnf
      refine ⟨[0,1,5,7], [0,3,5,6,7,8], [0,2,3], fun vs3 => ?_⟩
      conv => whnf
      refine ⟨pureL_trs l, pureL_append (trsC_pure _) (fun _ _=>rfl), pureL_append (ptsC_pure _) (fun _ _=>rfl), ?_⟩
      conv => whnf
      refine ⟨_, _, ?_, ?_, (⟨(3, m2.push [l[k]] rfl c2 k2, s2.push [l[k].a] rfl c3 k3), (by decide : 3 ≤ 3), push1_le (m2.push_len1 c2 k2) hm2, push1_le (s2.push_len1 c3 k3) hs2⟩, vs3), (by decide : 3 - 3 < 3 - 2), rfl, rfl⟩
      ·exact ⟨fun _=>rfl,fun _=>rfl,fun _=>rfl,fun _=>rfl,fun _=>rfl,fun ρ => m2.push_sl (n := 1) [l[k]] rfl c2 k2 2 ρ, fun ρ => s2.push_sl (n := 1) [l[k].a] rfl c3 k3 3 ρ, stm _⟩
      ·exact ⟨⟨rfl,rfl,rfl, fun _=>rfl⟩, ⟨rfl,rfl,rfl, fun _=>rfl⟩, m2.push_blk (n := 1) [l[k]] rfl c2 k2 (fun _=>rfl), s2.push_blk (n := 1) [l[k].a] rfl c3 k3 (fun _=>rfl), trivial⟩
     ·conv => whnf
      refine ⟨[0,1,2,3], [0,3,5,6,7,8], [0,2,3], fun vs3 => ?_⟩
      conv => whnf
      refine ⟨pureL_trs l, m2.new.1, s2.new.1, ?_⟩
      conv => whnf
      refine ⟨_, _, ?_, ?_, (⟨(3, m2, s2), (by decide : 3 ≤ 3), Nat.le_succ_of_le hm2, Nat.le_succ_of_le hs2⟩, vs3), (by decide : 3 - 3 < 3 - 2), rfl, rfl⟩
      ·exact stm _
      ·exact ⟨⟨rfl,rfl,rfl, fun _=>rfl⟩, ⟨rfl,rfl,rfl, fun _=>rfl⟩, ⟨rfl,rfl,rfl, fun _=>rfl⟩, ⟨rfl,rfl,rfl, fun _=>rfl⟩, trivial⟩
  ·have hlt : l.length ≤ k := n_ge hlt
   obtain rfl : k = l.length := Nat.le_antisymm hk hlt
   conv => whnf
   refine loop_st (G := {q : Nat // q ≤ s.l.length} × (Nat → Value)) (fun g => (.c (.val (g.2 0)) :: .c (.val (g.2 1)) :: .c (.val (g.2 2)) :: .c (.ptr 1 0) :: .c (.val (g.2 4)) :: m.sl 2 :: s.sl 3 :: .c (.val (g.2 7)) :: .c (.val (g.2 8)) :: .c (.int (g.1.1 : Nat) (lt_ir s.ok g.1.2)) :: .c (.val (g.2 10)) :: .c (.val (g.2 11)) :: .c (.val (g.2 12)) :: .c (.val (g.2 13)) :: .c (.val (g.2 14)) :: .c (.val (g.2 15)) :: .c (.val (g.2 16)) :: .c (.val (g.2 17)) :: .c (.val (g.2 18)) :: .c (.val (g.2 19)) :: .c (.val (g.2 20)) :: .c (.val (g.2 21)) :: .c (.val (g.2 22)) :: .c (.val (g.2 23)) :: .c (.val (g.2 24)) :: .c (.val (g.2 25)) :: .c (.val (g.2 26)) :: .c (.val (g.2 27)) :: .c (.val (g.2 28)) :: .c (.val (g.2 29)) :: .c (.val (g.2 30)) :: .c (.val (g.2 31)) :: .c (.val (g.2 32)) :: .c (.val (g.2 33)) :: .c (.val (g.2 34)) :: .c (.val (g.2 35)) :: .c (.val (g.2 36)) :: .c (.val (g.2 37)) :: .c (.val (g.2 38)) :: .c (.val (g.2 39)) :: .c (.val (g.2 40)) :: .c (.val (g.2 41)) :: .c (.val (g.2 42)) :: .c (.val (g.2 43)) :: .c (.val (g.2 44)) :: .c (.val (g.2 45)) :: .c (.val (g.2 46)) :: .c (.val (g.2 47)) :: .c (.val (g.2 48)) :: .c (.val (g.2 49)) :: .c (.val (g.2 50)) :: .c (.val (g.2 51)) :: .c (.val (g.2 52)) :: .c (.val (g.2 53)) :: .c (.val (g.2 54)) :: .c (.val (g.2 55)) :: .c (.val (g.2 56)) :: .c (.val (g.2 57)) :: .c (.val (g.2 58)) :: .c (.val (g.2 59)) :: .c (.val (g.2 60)) :: .c (.val (g.2 61)) :: .c (.val (g.2 62)) :: .c (.val (g.2 63)) :: .c (.val (g.2 64)) :: .c (.val (g.2 65)) :: .c (.val (g.2 66)) :: .c (.val (g.2 67)) :: .c (.val (g.2 68)) :: .c (.val (g.2 69)) :: .c (.val (g.2 70)) :: .c (.val (g.2 71)) :: .c (.val (g.2 72)) :: .c (.val (g.2 73)) :: .c (.val (g.2 74)) :: .c (.val (g.2 75)) :: .c (.val (g.2 76)) :: .c (.val (g.2 77)) :: .c (.val (g.2 78)) :: .c (.val (g.2 79)) :: .c (.val (g.2 80)) :: .c (.val (g.2 81)) :: [])) (fun g => [⟨ty, true, trsC l, 0⟩, ⟨35, false, ptC p, 0⟩, m.blk, s.blk]) (fun g => s.l.length - g.1.1) ?_ ?_
   ·refine ⟨[0,1,2,3], [3,5,6,9], [0,2,3], fun vs3 => ?_⟩
    conv => whnf
    refine ⟨pureL_trs l, m.new.1, s.new.1, ?_⟩
    conv => whnf
    refine ⟨_, _, ?_, ?_, (⟨0, Nat.zero_le _⟩, vs3), rfl, rfl⟩
    ·exact ⟨fun _=>rfl,fun _=>rfl,fun _=>rfl,fun _=>rfl,fun _=>rfl,fun _=>rfl,fun _=>rfl,fun _=>rfl,fun _=>rfl,fun _=>rfl,stm _⟩
    ·exact ⟨⟨rfl,rfl,rfl, fun _=>rfl⟩, ⟨rfl,rfl,rfl, fun _=>rfl⟩, ⟨rfl,rfl,rfl, fun _=>rfl⟩, ⟨rfl,rfl,rfl, fun _=>rfl⟩, trivial⟩
   ·rintro ⟨⟨q, hq⟩, vs3⟩
    have hq : q ≤ s.l.length := hq
    dsimp only
    conv => whnf
    refine bcase_intro (fun hqs => ?_) (fun hqs => ?_)
    ·have hqs : q < s.l.length := n_lt hqs
     conv => whnf
     conv =>
      arg 2
      tactic' =>
       apply eff_index_sli (k := q) (hi := (lt_ir s.ok hq)) (ho := ?how23) (hT := ?hTw23) (hx := ?hxw23) (hk := ?hkw23) (hlt := ?hltw23)
       case how23 => rfl
       case hTw23 => rfl
       case hxw23 => rfl
       case hkw23 => rfl
       case hltw23 => exact hqs
     conv => whnf
     conv =>
      arg 2
      tactic' =>
       apply eff_load_sub (ho := ?how24) (hT := ?hTw24) (hx := ?hxw24) (hb := ?hbw24) (hm := ?hmw24) (hv := ?hvw24)
       case how24 => rfl
       case hTw24 => rfl
       case hxw24 => rfl
       case hbw24 => rfl
       case hmw24 => exact (by rw [Nat.zero_add]; exact subC_pts s.l hqs : subC (ptsC s.l) (0 + q * 3) 3 = some (ptC s.l[q]))
       case hvw24 => rfl
     conv => whnf
     have hml : m.l.length ≤ 900000 := by omega
     refine loop_st (G := {g : Nat × PT // 1 ≤ g.1 ∧ g.1 ≤ max 1 m.l.length} × (Nat → Value)) (fun g => (.c (.val (g.2 0)) :: .c (.val (g.2 1)) :: .c (.val (g.2 2)) :: .c (.ptr 1 0) :: .c (.val (g.2 4)) :: m.sl 2 :: s.sl 3 :: .c (.val (g.2 7)) :: .c (.val (g.2 8)) :: .c (.int (q : Nat) (lt_ir s.ok hq)) :: .c (.ptr 4 0) :: .c (.int (g.1.1.1 : Nat) (ir_mx g.1.2.2 hml)) :: .c (.val (g.2 12)) :: .c (.val (g.2 13)) :: .c (.val (g.2 14)) :: .c (.val (g.2 15)) :: .c (.val (g.2 16)) :: .c (.val (g.2 17)) :: .c (.val (g.2 18)) :: .c (.val (g.2 19)) :: .c (.val (g.2 20)) :: .c (.val (g.2 21)) :: .c (.val (g.2 22)) :: .c (.val (g.2 23)) :: .c (.val (g.2 24)) :: .c (.val (g.2 25)) :: .c (.val (g.2 26)) :: .c (.val (g.2 27)) :: .c (.val (g.2 28)) :: .c (.val (g.2 29)) :: .c (.val (g.2 30)) :: .c (.val (g.2 31)) :: .c (.val (g.2 32)) :: .c (.val (g.2 33)) :: .c (.val (g.2 34)) :: .c (.val (g.2 35)) :: .c (.val (g.2 36)) :: .c (.val (g.2 37)) :: .c (.val (g.2 38)) :: .c (.val (g.2 39)) :: .c (.val (g.2 40)) :: .c (.val (g.2 41)) :: .c (.val (g.2 42)) :: .c (.val (g.2 43)) :: .c (.val (g.2 44)) :: .c (.val (g.2 45)) :: .c (.val (g.2 46)) :: .c (.val (g.2 47)) :: .c (.val (g.2 48)) :: .c (.val (g.2 49)) :: .c (.val (g.2 50)) :: .c (.val (g.2 51)) :: .c (.val (g.2 52)) :: .c (.val (g.2 53)) :: .c (.val (g.2 54)) :: .c (.val (g.2 55)) :: .c (.val (g.2 56)) :: .c (.val (g.2 57)) :: .c (.val (g.2 58)) :: .c (.val (g.2 59)) :: .c (.val (g.2 60)) :: .c (.val (g.2 61)) :: .c (.val (g.2 62)) :: .c (.val (g.2 63)) :: .c (.val (g.2 64)) :: .c (.val (g.2 65)) :: .c (.val (g.2 66)) :: .c (.val (g.2 67)) :: .c (.val (g.2 68)) :: .c (.val (g.2 69)) :: .c (.val (g.2 70)) :: .c (.val (g.2 71)) :: .c (.val (g.2 72)) :: .c (.val (g.2 73)) :: .c (.val (g.2 74)) :: .c (.val (g.2 75)) :: .c (.val (g.2 76)) :: .c (.val (g.2 77)) :: .c (.val (g.2 78)) :: .c (.val (g.2 79)) :: .c (.val (g.2 80)) :: .c (.val (g.2 81)) :: [])) (fun g => [⟨ty, true, trsC l, 0⟩, ⟨35, false, ptC p, 0⟩, m.blk, s.blk, ⟨35, false, ptC g.1.1.2, 0⟩]) (fun g => m.l.length - g.1.1.1) ?_ ?_
     ·refine ⟨[0,1,2,3,4], [3,5,6,9,10,11], [0,2,3], fun vs4 => ?_⟩
      conv => whnf
      refine ⟨pureL_trs l, m.new.1, s.new.1, ?_⟩
      conv => whnf
      refine ⟨_, _, ?_, ?_, (⟨(1, s.l[q]), Nat.le_refl _, Nat.le_max_left _ _⟩, vs4), rfl, rfl⟩
      ·exact ⟨fun _=>rfl,fun _=>rfl,fun _=>rfl,fun _=>rfl,fun _=>rfl,fun _=>rfl,fun _=>rfl,fun _=>rfl,fun _=>rfl,fun _=>rfl,fun _=>rfl,fun _=>rfl,stm _⟩
      ·exact ⟨⟨rfl,rfl,rfl, fun _=>rfl⟩, ⟨rfl,rfl,rfl, fun _=>rfl⟩, ⟨rfl,rfl,rfl, fun _=>rfl⟩, ⟨rfl,rfl,rfl, fun _=>rfl⟩, ⟨rfl,rfl,rfl, fun _=>rfl⟩, trivial⟩
     ·rintro ⟨⟨⟨i, at_⟩, hi1, hi2⟩, vs4⟩
      have hi1 : 1 ≤ i := hi1
      have hi2 : i ≤ max 1 m.l.length := hi2
      dsimp only
      conv => whnf
      refine bcase_intro (fun him => ?_) (fun him => ?_)
      ·have him : i < m.l.length := n_lt him
       conv => whnf
       refine ⟨fun _ _=>rfl,?_⟩
       conv => whnf
       refine ⟨fun _ _=>rfl,?_⟩
       conv => whnf
       refine ⟨⟨trsC_pure m.l, trivial⟩, ⟨_, _, _, _, _, m.l, p, at_, rfl,rfl,rfl, fun r b => ?_⟩⟩
       conv => whnf
       refine bcase_intro (fun _ => ?_) (fun _ => ?_)
       ·conv => whnf
        refine ⟨[0,1,2,3], [3,5,6,9], [0,2,3], fun vs5 => ?_⟩
        conv => whnf
        refine ⟨pureL_trs l, m.new.1, s.new.1, ?_⟩
        conv => whnf
        refine ⟨_, _, ?_, ?_, (⟨q + 1, hqs⟩, vs5), (by omega : s.l.length - (q + 1) < s.l.length - q), rfl, rfl⟩
        ·exact ⟨fun _=>rfl,fun _=>rfl,fun _=>rfl,fun _=>rfl,fun _=>rfl,fun _=>rfl,fun _=>rfl,fun _=>rfl,fun _=>rfl,fun ρ => sint_k (wrap_add1 hqs s.ok.ir) ρ, stm _⟩
        ·exact ⟨⟨rfl,rfl,rfl, fun _=>rfl⟩, ⟨rfl,rfl,rfl, fun _=>rfl⟩, ⟨rfl,rfl,rfl, fun _=>rfl⟩, ⟨rfl,rfl,rfl, fun _=>rfl⟩, trivial⟩
       ·conv => whnf
        conv =>
         arg 2
         tactic' =>
          apply eff_index_sli (k := q) (hi := (lt_ir s.ok hq)) (ho := ?how23) (hT := ?hTw23) (hx := ?hxw23) (hk := ?hkw23) (hlt := ?hltw23)
          case how23 => rfl
          case hTw23 => rfl
          case hxw23 => rfl
          case hkw23 => rfl
          case hltw23 => exact hqs
        conv => whnf
        conv =>
         arg 2
         tactic' =>
          apply eff_load_sub (ho := ?how24) (hT := ?hTw24) (hx := ?hxw24) (hb := ?hbw24) (hm := ?hmw24) (hv := ?hvw24)
          case how24 => rfl
          case hTw24 => rfl
          case hxw24 => rfl
          case hbw24 => rfl
          case hmw24 => exact (by rw [Nat.zero_add]; exact subC_pts s.l hqs : subC (ptsC s.l) (0 + q * 3) 3 = some (ptC s.l[q]))
          case hvw24 => rfl
        conv => whnf
        refine bcase_intro (fun _ => ?_) (fun _ => ?_)
        ·conv => whnf
         refine ⟨[0], [0], fun vs9 => ?_⟩
         conv => whnf
         refine ⟨pureL_trs l, ?_⟩
         conv => whnf
         exact ⟨_, [], rfl, ⟨⟨rfl,rfl,rfl, fun _=>rfl⟩, trivial⟩, trivial, _, fun _=>rfl,hc true⟩
        ·conv => whnf
         refine ⟨[0,1,2,3,4], [3,5,6,9,10,11], [0,2,3], fun vs5 => ?_⟩
         conv => whnf
         refine ⟨pureL_trs l, m.new.1, s.new.1, ?_⟩
         conv => whnf
         refine ⟨_, _, ?_, ?_, (⟨(i + 1, r), by omega, by omega⟩, vs5), (by omega : m.l.length - (i + 1) < m.l.length - i), rfl, rfl⟩
         ·exact ⟨fun _=>rfl,fun _=>rfl,fun _=>rfl,fun _=>rfl,fun _=>rfl,fun _=>rfl,fun _=>rfl,fun _=>rfl,fun _=>rfl,fun _=>rfl,fun _=>rfl,fun ρ => sint_k (wrap_add1 him m.ok.ir) ρ, stm _⟩
         ·exact ⟨⟨rfl,rfl,rfl, fun _=>rfl⟩, ⟨rfl,rfl,rfl, fun _=>rfl⟩, ⟨rfl,rfl,rfl, fun _=>rfl⟩, ⟨rfl,rfl,rfl, fun _=>rfl⟩, ⟨rfl,rfl,rfl, fun _=>rfl⟩, trivial⟩
      ·conv => whnf
       refine ⟨[0,1,2,3], [3,5,6,9], [0,2,3], fun vs5 => ?_⟩
       conv => whnf
       refine ⟨pureL_trs l, m.new.1, s.new.1, ?_⟩
       conv => whnf
       refine ⟨_, _, ?_, ?_, (⟨q + 1, hqs⟩, vs5), (by omega : s.l.length - (q + 1) < s.l.length - q), rfl, rfl⟩
       ·exact ⟨fun _=>rfl,fun _=>rfl,fun _=>rfl,fun _=>rfl,fun _=>rfl,fun _=>rfl,fun _=>rfl,fun _=>rfl,fun _=>rfl,fun ρ => sint_k (wrap_add1 hqs s.ok.ir) ρ, stm _⟩
       ·exact ⟨⟨rfl,rfl,rfl, fun _=>rfl⟩, ⟨rfl,rfl,rfl, fun _=>rfl⟩, ⟨rfl,rfl,rfl, fun _=>rfl⟩, ⟨rfl,rfl,rfl, fun _=>rfl⟩, trivial⟩
    ·conv => whnf
     refine ⟨[0], [0], fun vs9 => ?_⟩
     conv => whnf
     refine ⟨pureL_trs l, ?_⟩
     conv => whnf
     exact ⟨_, [], rfl, ⟨⟨rfl,rfl,rfl, fun _=>rfl⟩, trivial⟩, trivial, _, fun _=>rfl,hc false⟩
end Go.Proofs.YtocbklodkcdhkaaGreatDoor

namespace Go.Proofs.YtocbklodkcdhkaaGreatDoor
open Go.RowKit
set_option maxRecDepth 100000

def cCheck : NewC := fun args ros K => ∃ nl len cap h ty l b, args = [.c (.sli nl 0 0 len cap h), .c (.val (.bool b))] ∧ ros = [⟨ty, true, trsC l, 0⟩] ∧ l.length = len ∧ len ≤ 300000 ∧ ∀ (e : Int) (he : IR e), K (.c (.int e he)) []
def cChk : NewC := fun args ros K => ∃ nl len cap h ty l, args = [.c (.sli nl 0 0 len cap h)] ∧ ros = [⟨ty, true, trsC l, 0⟩] ∧ l.length = len ∧ len ≤ 300000 ∧ ∀ (e : Int) (he : IR e), K (.c (.int e he)) []
def ckC : List (FuncId × NewC) := [(39, cEdges), (40, cCount), (41, cBorder), (6, cCorners), (42, cPinch)]
theorem ckC_ok : AllC Tryz.prog ckC := .cons csEdges <| .cons csCount <| .cons csBorder <| .cons csCorners <| .cons csPinch .nil
set_option maxHeartbeats 16000000 in
theorem csCheck : CSp Tryz.prog 17 cCheck := csp_of (env_ok baseWE_ok 0) mixed (hnew_ok ckC_ok (inl_ok (env_ok baseWE_ok 0) mixed noF_ok 0)) ⟨Tryz.func17, by kernel_rfl, by kernel_rfl⟩ fun args ros K hc => by
 obtain ⟨nl, _, cap, hl, ty, l, b, rfl,rfl,rfl, hlen, hc⟩ := hc
 refine ⟨fun ρ ρ' e => ?_, ?_⟩
 ·have e0 := e 0 (Nat.zero_lt_succ _)
  simp only [List.map, SV.den, C.den, C.cells, e0]
 conv => whnf
 refine loop_st (G := {k : Nat // k ≤ l.length} × (Nat → Value)) (fun g => (.c (.sli nl 0 0 l.length cap hl) :: .c (.val (.bool b)) :: .c (.val (g.2 2)) :: .c (.val (g.2 3)) :: .c (.val (g.2 4)) :: .c (.int (g.1.1 : Nat) (lt_ir hl g.1.2)) :: .c (.val (g.2 6)) :: .c (.val (g.2 7)) :: .c (.val (g.2 8)) :: .c (.val (g.2 9)) :: .c (.val (g.2 10)) :: .c (.val (g.2 11)) :: .c (.val (g.2 12)) :: .c (.val (g.2 13)) :: .c (.val (g.2 14)) :: .c (.val (g.2 15)) :: .c (.val (g.2 16)) :: .c (.val (g.2 17)) :: .c (.val (g.2 18)) :: .c (.val (g.2 19)) :: .c (.val (g.2 20)) :: .c (.val (g.2 21)) :: .c (.val (g.2 22)) :: .c (.val (g.2 23)) :: .c (.val (g.2 24)) :: .c (.val (g.2 25)) :: .c (.val (g.2 26)) :: .c (.val (g.2 27)) :: .c (.val (g.2 28)) :: .c (.val (g.2 29)) :: .c (.val (g.2 30)) :: .c (.val (g.2 31)) :: .c (.val (g.2 32)) :: .c (.val (g.2 33)) :: .c (.val (g.2 34)) :: .c (.val (g.2 35)) :: .c (.val (g.2 36)) :: .c (.val (g.2 37)) :: .c (.val (g.2 38)) :: .c (.val (g.2 39)) :: .c (.val (g.2 40)) :: .c (.val (g.2 41)) :: .c (.val (g.2 42)) :: .c (.val (g.2 43)) :: .c (.val (g.2 44)) :: .c (.val (g.2 45)) :: .c (.val (g.2 46)) :: .c (.val (g.2 47)) :: .c (.val (g.2 48)) :: .c (.val (g.2 49)) :: .c (.val (g.2 50)) :: .c (.val (g.2 51)) :: .c (.val (g.2 52)) :: .c (.val (g.2 53)) :: .c (.val (g.2 54)) :: .c (.val (g.2 55)) :: .c (.val (g.2 56)) :: .c (.val (g.2 57)) :: .c (.val (g.2 58)) :: .c (.val (g.2 59)) :: .c (.val (g.2 60)) :: .c (.val (g.2 61)) :: .c (.val (g.2 62)) :: .c (.val (g.2 63)) :: .c (.val (g.2 64)) :: .c (.val (g.2 65)) :: .c (.val (g.2 66)) :: .c (.val (g.2 67)) :: .c (.val (g.2 68)) :: .c (.val (g.2 69)) :: .c (.val (g.2 70)) :: .c (.val (g.2 71)) :: .c (.val (g.2 72)) :: .c (.val (g.2 73)) :: .c (.val (g.2 74)) :: .c (.val (g.2 75)) :: .c (.val (g.2 76)) :: .c (.val (g.2 77)) :: .c (.val (g.2 78)) :: .c (.val (g.2 79)) :: .c (.val (g.2 80)) :: .c (.val (g.2 81)) :: .c (.val (g.2 82)) :: .c (.val (g.2 83)) :: .c (.val (g.2 84)) :: .c (.val (g.2 85)) :: .c (.val (g.2 86)) :: .c (.val (g.2 87)) :: .c (.val (g.2 88)) :: .c (.val (g.2 89)) :: .c (.val (g.2 90)) :: .c (.val (g.2 91)) :: [])) (fun g => [⟨ty, true, trsC l, 0⟩]) (fun g => l.length - g.1.1) ?_ ?_
 ·refine ⟨[0], [0,1,5], [0], fun vs => ?_⟩
  conv => whnf
  refine ⟨pureL_trs l, ?_⟩
  conv => whnf
  refine ⟨_, _, ?_, ?_, (⟨0, Nat.zero_le _⟩, vs), rfl, rfl⟩
  ·exact ⟨fun _=>rfl,fun _=>rfl,fun _=>rfl,fun _=>rfl,fun _=>rfl,fun _=>rfl,stm _⟩
  ·exact ⟨⟨rfl,rfl,rfl, fun _=>rfl⟩, trivial⟩
 ·rintro ⟨⟨k, hk⟩, vs⟩
  have hk : k ≤ l.length := hk
  dsimp only
  conv => whnf
  refine bcase_intro (fun hlt => ?_) (fun hlt => ?_)
  ·have hlt : k < l.length := n_lt hlt
   conv => whnf
   conv =>
    arg 2
    tactic' =>
     apply eff_index_sli (k := k) (hi := (lt_ir hl hk)) (ho := ?how5) (hT := ?hTw5) (hx := ?hxw5) (hk := ?hkw5) (hlt := ?hltw5)
     case how5 => rfl
     case hTw5 => rfl
     case hxw5 => rfl
     case hkw5 => rfl
     case hltw5 => exact hlt
   conv => whnf
   conv =>
    arg 2
    tactic' =>
     apply eff_load_sub (ho := ?how6) (hT := ?hTw6) (hx := ?hxw6) (hb := ?hbw6) (hm := ?hmw6) (hv := ?hvw6)
     case how6 => rfl
     case hTw6 => rfl
     case hxw6 => rfl
     case hbw6 => rfl
     case hmw6 => exact subC_pt l hlt 0 (r := ptC l[k].a) rfl
     case hvw6 => rfl
   conv => whnf
   conv =>
    arg 2
    tactic' =>
     apply eff_index_sli (k := k) (hi := (lt_ir hl hk)) (ho := ?how7) (hT := ?hTw7) (hx := ?hxw7) (hk := ?hkw7) (hlt := ?hltw7)
     case how7 => rfl
     case hTw7 => rfl
     case hxw7 => rfl
     case hkw7 => rfl
     case hltw7 => exact hlt
   conv => whnf
   conv =>
    arg 2
    tactic' =>
     apply eff_load_sub (ho := ?how8) (hT := ?hTw8) (hx := ?hxw8) (hb := ?hbw8) (hm := ?hmw8) (hv := ?hvw8)
     case how8 => rfl
     case hTw8 => rfl
     case hxw8 => rfl
     case hbw8 => rfl
     case hmw8 => exact subC_pt l hlt 3 (r := ptC l[k].b) rfl
     case hvw8 => rfl
   conv => whnf
   refine bcase_intro (fun _ => ?_) (fun _ => ?_)
   ·conv => whnf
    refine ⟨[0], [0], fun vs9 => ?_⟩
    conv => whnf
    refine ⟨pureL_trs l, ?_⟩
    conv => whnf
    exact ⟨_, [], rfl, ⟨⟨rfl,rfl,rfl, fun _=>rfl⟩, trivial⟩, trivial, _, fun _=>rfl,hc _ _⟩
   ·conv => whnf
    conv =>
     arg 2
     tactic' =>
      apply eff_index_sli (k := k) (hi := (lt_ir hl hk)) (ho := ?how9) (hT := ?hTw9) (hx := ?hxw9) (hk := ?hkw9) (hlt := ?hltw9)
      case how9 => rfl
      case hTw9 => rfl
      case hxw9 => rfl
      case hkw9 => rfl
      case hltw9 => exact hlt
    conv => whnf
    conv =>
     arg 2
     tactic' =>
      apply eff_load_sub (ho := ?how10) (hT := ?hTw10) (hx := ?hxw10) (hb := ?hbw10) (hm := ?hmw10) (hv := ?hvw10)
      case how10 => rfl
      case hTw10 => rfl
      case hxw10 => rfl
      case hbw10 => rfl
      case hmw10 => exact subC_pt l hlt 3 (r := ptC l[k].b) rfl
      case hvw10 => rfl
    conv => whnf
    conv =>
     arg 2
     tactic' =>
      apply eff_index_sli (k := k) (hi := (lt_ir hl hk)) (ho := ?how11) (hT := ?hTw11) (hx := ?hxw11) (hk := ?hkw11) (hlt := ?hltw11)
      case how11 => rfl
      case hTw11 => rfl
      case hxw11 => rfl
      case hkw11 => rfl
      case hltw11 => exact hlt
    conv => whnf
    conv =>
     arg 2
     tactic' =>
      apply eff_load_sub (ho := ?how12) (hT := ?hTw12) (hx := ?hxw12) (hb := ?hbw12) (hm := ?hmw12) (hv := ?hvw12)
      case how12 => rfl
      case hTw12 => rfl
      case hxw12 => rfl
      case hbw12 => rfl
      case hmw12 => exact subC_pt l hlt 6 (r := ptC l[k].c) rfl
      case hvw12 => rfl
    conv => whnf
    refine bcase_intro (fun _ => ?_) (fun _ => ?_)
    ·conv => whnf
     refine ⟨[0], [0], fun vs9 => ?_⟩
     conv => whnf
     refine ⟨pureL_trs l, ?_⟩
     conv => whnf
     exact ⟨_, [], rfl, ⟨⟨rfl,rfl,rfl, fun _=>rfl⟩, trivial⟩, trivial, _, fun _=>rfl,hc _ _⟩
    ·conv => whnf
     conv =>
      arg 2
      tactic' =>
       apply eff_index_sli (k := k) (hi := (lt_ir hl hk)) (ho := ?how13) (hT := ?hTw13) (hx := ?hxw13) (hk := ?hkw13) (hlt := ?hltw13)
       case how13 => rfl
       case hTw13 => rfl
       case hxw13 => rfl
       case hkw13 => rfl
       case hltw13 => exact hlt
     conv => whnf
     conv =>
      arg 2
      tactic' =>
       apply eff_load_sub (ho := ?how14) (hT := ?hTw14) (hx := ?hxw14) (hb := ?hbw14) (hm := ?hmw14) (hv := ?hvw14)
       case how14 => rfl
       case hTw14 => rfl
       case hxw14 => rfl
       case hbw14 => rfl
       case hmw14 => exact subC_pt l hlt 6 (r := ptC l[k].c) rfl
       case hvw14 => rfl
     conv => whnf
     conv =>
      arg 2
      tactic' =>
       apply eff_index_sli (k := k) (hi := (lt_ir hl hk)) (ho := ?how15) (hT := ?hTw15) (hx := ?hxw15) (hk := ?hkw15) (hlt := ?hltw15)
       case how15 => rfl
       case hTw15 => rfl
       case hxw15 => rfl
       case hkw15 => rfl
       case hltw15 => exact hlt
     conv => whnf
     conv =>
      arg 2
      tactic' =>
       apply eff_load_sub (ho := ?how16) (hT := ?hTw16) (hx := ?hxw16) (hb := ?hbw16) (hm := ?hmw16) (hv := ?hvw16)
       case how16 => rfl
       case hTw16 => rfl
       case hxw16 => rfl
       case hbw16 => rfl
       case hmw16 => exact subC_pt l hlt 0 (r := ptC l[k].a) rfl
       case hvw16 => rfl
     conv => whnf
     refine bcase_intro (fun _ => ?_) (fun _ => ?_)
     ·conv => whnf
      refine ⟨[0], [0], fun vs9 => ?_⟩
      conv => whnf
      refine ⟨pureL_trs l, ?_⟩
      conv => whnf
      exact ⟨_, [], rfl, ⟨⟨rfl,rfl,rfl, fun _=>rfl⟩, trivial⟩, trivial, _, fun _=>rfl,hc _ _⟩
     ·conv => whnf
      refine ⟨[0], [0,1,5], [0], fun vs2 => ?_⟩
      conv => whnf
      refine ⟨pureL_trs l, ?_⟩
      conv => whnf
      refine ⟨_, _, ?_, ?_, (⟨k + 1, hlt⟩, vs2), (by omega : l.length - (k + 1) < l.length - k), rfl, rfl⟩
      ·exact ⟨fun _=>rfl,fun _=>rfl,fun _=>rfl,fun _=>rfl,fun _=>rfl,fun ρ => sint_k (wrap_add1 hlt hl.ir) ρ, stm _⟩
      ·exact ⟨⟨rfl,rfl,rfl, fun _=>rfl⟩, trivial⟩
  ·conv => whnf
   refine ⟨⟨pureL_trs l, trivial⟩, ⟨_, _, _, _, _, l, rfl,rfl,rfl, hlen, fun eo he => ?_⟩⟩
   conv => whnf
   refine loop_st (G := {q : Nat // q ≤ eo.l.length} × (Nat → Value)) (fun g => (.c (.sli nl 0 0 l.length cap hl) :: .c (.val (.bool b)) :: .c (.val (g.2 2)) :: .c (.val (g.2 3)) :: .c (.val (g.2 4)) :: .c (.val (g.2 5)) :: eo.sl 1 :: .c (.int (g.1.1 : Nat) (lt_ir eo.ok g.1.2)) :: .c (.val (g.2 8)) :: .c (.val (g.2 9)) :: .c (.val (g.2 10)) :: .c (.val (g.2 11)) :: .c (.val (g.2 12)) :: .c (.val (g.2 13)) :: .c (.val (g.2 14)) :: .c (.val (g.2 15)) :: .c (.val (g.2 16)) :: .c (.val (g.2 17)) :: .c (.val (g.2 18)) :: .c (.val (g.2 19)) :: .c (.val (g.2 20)) :: .c (.val (g.2 21)) :: .c (.val (g.2 22)) :: .c (.val (g.2 23)) :: .c (.val (g.2 24)) :: .c (.val (g.2 25)) :: .c (.val (g.2 26)) :: .c (.val (g.2 27)) :: .c (.val (g.2 28)) :: .c (.val (g.2 29)) :: .c (.val (g.2 30)) :: .c (.val (g.2 31)) :: .c (.val (g.2 32)) :: .c (.val (g.2 33)) :: .c (.val (g.2 34)) :: .c (.val (g.2 35)) :: .c (.val (g.2 36)) :: .c (.val (g.2 37)) :: .c (.val (g.2 38)) :: .c (.val (g.2 39)) :: .c (.val (g.2 40)) :: .c (.val (g.2 41)) :: .c (.val (g.2 42)) :: .c (.val (g.2 43)) :: .c (.val (g.2 44)) :: .c (.val (g.2 45)) :: .c (.val (g.2 46)) :: .c (.val (g.2 47)) :: .c (.val (g.2 48)) :: .c (.val (g.2 49)) :: .c (.val (g.2 50)) :: .c (.val (g.2 51)) :: .c (.val (g.2 52)) :: .c (.val (g.2 53)) :: .c (.val (g.2 54)) :: .c (.val (g.2 55)) :: .c (.val (g.2 56)) :: .c (.val (g.2 57)) :: .c (.val (g.2 58)) :: .c (.val (g.2 59)) :: .c (.val (g.2 60)) :: .c (.val (g.2 61)) :: .c (.val (g.2 62)) :: .c (.val (g.2 63)) :: .c (.val (g.2 64)) :: .c (.val (g.2 65)) :: .c (.val (g.2 66)) :: .c (.val (g.2 67)) :: .c (.val (g.2 68)) :: .c (.val (g.2 69)) :: .c (.val (g.2 70)) :: .c (.val (g.2 71)) :: .c (.val (g.2 72)) :: .c (.val (g.2 73)) :: .c (.val (g.2 74)) :: .c (.val (g.2 75)) :: .c (.val (g.2 76)) :: .c (.val (g.2 77)) :: .c (.val (g.2 78)) :: .c (.val (g.2 79)) :: .c (.val (g.2 80)) :: .c (.val (g.2 81)) :: .c (.val (g.2 82)) :: .c (.val (g.2 83)) :: .c (.val (g.2 84)) :: .c (.val (g.2 85)) :: .c (.val (g.2 86)) :: .c (.val (g.2 87)) :: .c (.val (g.2 88)) :: .c (.val (g.2 89)) :: .c (.val (g.2 90)) :: .c (.val (g.2 91)) :: [])) (fun g => [⟨ty, true, trsC l, 0⟩, eo.blk]) (fun g => eo.l.length - g.1.1) ?_ ?_
   ·refine ⟨[0,1], [0,1,6,7], [0,1], fun vs3 => ?_⟩
    conv => whnf
    refine ⟨pureL_trs l, eo.new.1, ?_⟩
    conv => whnf
    refine ⟨_, _, ?_, ?_, (⟨0, Nat.zero_le _⟩, vs3), rfl, rfl⟩
    ·exact ⟨fun _=>rfl,fun _=>rfl,fun _=>rfl,fun _=>rfl,fun _=>rfl,fun _=>rfl,fun _=>rfl,fun _=>rfl,stm _⟩
    ·exact ⟨⟨rfl,rfl,rfl, fun _=>rfl⟩, ⟨rfl,rfl,rfl, fun _=>rfl⟩, trivial⟩
   ·rintro ⟨⟨q, hq⟩, vs3⟩
    have hq : q ≤ eo.l.length := hq
    dsimp only
    conv => whnf
    refine bcase_intro (fun hqe => ?_) (fun hqe => ?_)
    ·have hqe : q < eo.l.length := n_lt hqe
     conv => whnf
     conv =>
      arg 2
      tactic' =>
       apply eff_index_sli (k := q) (hi := (lt_ir eo.ok hq)) (ho := ?how17) (hT := ?hTw17) (hx := ?hxw17) (hk := ?hkw17) (hlt := ?hltw17)
       case how17 => rfl
       case hTw17 => rfl
       case hxw17 => rfl
       case hkw17 => rfl
       case hltw17 => exact hqe
     conv => whnf
     conv =>
      arg 2
      tactic' =>
       apply eff_load_sub (ho := ?how18) (hT := ?hTw18) (hx := ?hxw18) (hb := ?hbw18) (hm := ?hmw18) (hv := ?hvw18)
       case how18 => rfl
       case hTw18 => rfl
       case hxw18 => rfl
       case hbw18 => rfl
       case hmw18 => exact subC_ed6 eo.l hqe
       case hvw18 => rfl
     conv => whnf
     refine ⟨fun _ _=>rfl,?_⟩
     conv => whnf
     refine ⟨⟨edsC_pure eo.l, trivial⟩, ⟨_, _, _, _, _, eo.l, eo.l[q], rfl,rfl,rfl, fun c1 hc1 => ?_⟩⟩
     conv => whnf
     refine bcase_intro (fun _ => ?_) (fun _ => ?_)
     ·conv => whnf
      refine ⟨[0], [0], fun vs9 => ?_⟩
      conv => whnf
      refine ⟨pureL_trs l, ?_⟩
      conv => whnf
      exact ⟨_, [], rfl, ⟨⟨rfl,rfl,rfl, fun _=>rfl⟩, trivial⟩, trivial, _, fun _=>rfl,hc _ _⟩
     ·conv => whnf
      refine ⟨[0,1], [0,1,6,7], [0,1], fun vs4 => ?_⟩
      conv => whnf
      refine ⟨pureL_trs l, eo.new.1, ?_⟩
      conv => whnf
      refine ⟨_, _, ?_, ?_, (⟨q + 1, hqe⟩, vs4), (by omega : eo.l.length - (q + 1) < eo.l.length - q), rfl, rfl⟩
      ·exact ⟨fun _=>rfl,fun _=>rfl,fun _=>rfl,fun _=>rfl,fun _=>rfl,fun _=>rfl,fun _=>rfl,fun ρ => sint_k (wrap_add1 hqe eo.ok.ir) ρ, stm _⟩
      ·exact ⟨⟨rfl,rfl,rfl, fun _=>rfl⟩, ⟨rfl,rfl,rfl, fun _=>rfl⟩, trivial⟩
    ·conv => whnf
     refine bcase_intro (fun _ => ?_) (fun _ => ?_)
     ·conv => whnf
      refine ⟨⟨pureL_trs l, trivial⟩, ⟨_, _, _, _, _, l, rfl,rfl,rfl, hlen, fun bo hbo => ?_⟩⟩
      conv => whnf
      refine bcase_intro (fun _ => ?_) (fun _ => ?_)
      ·conv => whnf
       refine ⟨[0], [0], fun vs9 => ?_⟩
       conv => whnf
       refine ⟨pureL_trs l, ?_⟩
       conv => whnf
       exact ⟨_, [], rfl, ⟨⟨rfl,rfl,rfl, fun _=>rfl⟩, trivial⟩, trivial, _, fun _=>rfl,hc _ _⟩
      ·conv => whnf
       refine ⟨⟨pureL_trs l, trivial⟩, ⟨_, _, _, _, _, l, rfl,rfl,rfl, hlen, fun co hs hm hco => ?_⟩⟩
       conv => whnf
       refine loop_st (G := {q : Nat // q ≤ co.l.length} × (Nat → Value)) (fun g => (.c (.sli nl 0 0 l.length cap hl) :: .c (.val (g.2 1)) :: .c (.val (g.2 2)) :: .c (.val (g.2 3)) :: .c (.val (g.2 4)) :: .c (.val (g.2 5)) :: .c (.val (g.2 6)) :: .c (.val (g.2 7)) :: co.sl 1 :: .c (.int (g.1.1 : Nat) (lt_ir co.ok g.1.2)) :: .c (.val (g.2 10)) :: .c (.val (g.2 11)) :: .c (.val (g.2 12)) :: .c (.val (g.2 13)) :: .c (.val (g.2 14)) :: .c (.val (g.2 15)) :: .c (.val (g.2 16)) :: .c (.val (g.2 17)) :: .c (.val (g.2 18)) :: .c (.val (g.2 19)) :: .c (.val (g.2 20)) :: .c (.val (g.2 21)) :: .c (.val (g.2 22)) :: .c (.val (g.2 23)) :: .c (.val (g.2 24)) :: .c (.val (g.2 25)) :: .c (.val (g.2 26)) :: .c (.val (g.2 27)) :: .c (.val (g.2 28)) :: .c (.val (g.2 29)) :: .c (.val (g.2 30)) :: .c (.val (g.2 31)) :: .c (.val (g.2 32)) :: .c (.val (g.2 33)) :: .c (.val (g.2 34)) :: .c (.val (g.2 35)) :: .c (.val (g.2 36)) :: .c (.val (g.2 37)) :: .c (.val (g.2 38)) :: .c (.val (g.2 39)) :: .c (.val (g.2 40)) :: .c (.val (g.2 41)) :: .c (.val (g.2 42)) :: .c (.val (g.2 43)) :: .c (.val (g.2 44)) :: .c (.val (g.2 45)) :: .c (.val (g.2 46)) :: .c (.val (g.2 47)) :: .c (.val (g.2 48)) :: .c (.val (g.2 49)) :: .c (.val (g.2 50)) :: .c (.val (g.2 51)) :: .c (.val (g.2 52)) :: .c (.val (g.2 53)) :: .c (.val (g.2 54)) :: .c (.val (g.2 55)) :: .c (.val (g.2 56)) :: .c (.val (g.2 57)) :: .c (.val (g.2 58)) :: .c (.val (g.2 59)) :: .c (.val (g.2 60)) :: .c (.val (g.2 61)) :: .c (.val (g.2 62)) :: .c (.val (g.2 63)) :: .c (.val (g.2 64)) :: .c (.val (g.2 65)) :: .c (.val (g.2 66)) :: .c (.val (g.2 67)) :: .c (.val (g.2 68)) :: .c (.val (g.2 69)) :: .c (.val (g.2 70)) :: .c (.val (g.2 71)) :: .c (.val (g.2 72)) :: .c (.val (g.2 73)) :: .c (.val (g.2 74)) :: .c (.val (g.2 75)) :: .c (.val (g.2 76)) :: .c (.val (g.2 77)) :: .c (.val (g.2 78)) :: .c (.val (g.2 79)) :: .c (.val (g.2 80)) :: .c (.val (g.2 81)) :: .c (.val (g.2 82)) :: .c (.val (g.2 83)) :: .c (.val (g.2 84)) :: .c (.val (g.2 85)) :: .c (.val (g.2 86)) :: .c (.val (g.2 87)) :: .c (.val (g.2 88)) :: .c (.val (g.2 89)) :: .c (.val (g.2 90)) :: .c (.val (g.2 91)) :: [])) (fun g => [⟨ty, true, trsC l, 0⟩, co.blk]) (fun g => co.l.length - g.1.1) ?_ ?_
       ·refine ⟨[0,3], [0,8,9], [0,1], fun vs5 => ?_⟩
        conv => whnf
        refine ⟨pureL_trs l, co.new.1, ?_⟩
        conv => whnf
        refine ⟨_, _, ?_, ?_, (⟨0, Nat.zero_le _⟩, vs5), rfl, rfl⟩
        ·exact ⟨fun _=>rfl,fun _=>rfl,fun _=>rfl,fun _=>rfl,fun _=>rfl,fun _=>rfl,fun _=>rfl,fun _=>rfl,fun _=>rfl,fun _=>rfl,stm _⟩
        ·exact ⟨⟨rfl,rfl,rfl, fun _=>rfl⟩, ⟨rfl,rfl,rfl, fun _=>rfl⟩, trivial⟩
       ·rintro ⟨⟨q, hq⟩, vs5⟩
        have hq : q ≤ co.l.length := hq
        dsimp only
        conv => whnf
        refine bcase_intro (fun hqe => ?_) (fun hqe => ?_)
        ·have hqe : q < co.l.length := n_lt hqe
         conv => whnf
         conv =>
          arg 2
          tactic' =>
           apply eff_index_sli (k := q) (hi := (lt_ir co.ok hq)) (ho := ?how19) (hT := ?hTw19) (hx := ?hxw19) (hk := ?hkw19) (hlt := ?hltw19)
           case how19 => rfl
           case hTw19 => rfl
           case hxw19 => rfl
           case hkw19 => rfl
           case hltw19 => exact hqe
         conv => whnf
         conv =>
          arg 2
          tactic' =>
           apply eff_load_sub (ho := ?how20) (hT := ?hTw20) (hx := ?hxw20) (hb := ?hbw20) (hm := ?hmw20) (hv := ?hvw20)
           case how20 => rfl
           case hTw20 => rfl
           case hxw20 => rfl
           case hbw20 => rfl
           case hmw20 => exact (by rw [Nat.zero_add]; exact subC_pts co.l hqe : subC (ptsC co.l) (0 + q * 3) 3 = some (ptC co.l[q]))
           case hvw20 => rfl
         conv => whnf
         refine ⟨fun _ _=>rfl,?_⟩
         conv => whnf
         refine ⟨⟨pureL_trs l, trivial⟩, ⟨_, _, _, _, _, l, co.l[q], rfl,rfl,rfl, hlen, fun b2 => ?_⟩⟩
         conv => whnf
         refine bcase_intro (fun _ => ?_) (fun _ => ?_)
         ·conv => whnf
          refine ⟨[0], [0], fun vs9 => ?_⟩
          conv => whnf
          refine ⟨pureL_trs l, ?_⟩
          conv => whnf
          exact ⟨_, [], rfl, ⟨⟨rfl,rfl,rfl, fun _=>rfl⟩, trivial⟩, trivial, _, fun _=>rfl,hc _ _⟩
         ·conv => whnf
          refine ⟨[0,1], [0,8,9], [0,1], fun vs6 => ?_⟩
          conv => whnf
          refine ⟨pureL_trs l, co.new.1, ?_⟩
          conv => whnf
          refine ⟨_, _, ?_, ?_, (⟨q + 1, hqe⟩, vs6), (by omega : co.l.length - (q + 1) < co.l.length - q), rfl, rfl⟩
          ·exact ⟨fun _=>rfl,fun _=>rfl,fun _=>rfl,fun _=>rfl,fun _=>rfl,fun _=>rfl,fun _=>rfl,fun _=>rfl,fun _=>rfl,fun ρ => sint_k (wrap_add1 hqe co.ok.ir) ρ, stm _⟩
          ·exact ⟨⟨rfl,rfl,rfl, fun _=>rfl⟩, ⟨rfl,rfl,rfl, fun _=>rfl⟩, trivial⟩
        ·conv => whnf
         refine ⟨[0], [0], fun vs9 => ?_⟩
         conv => whnf
         refine ⟨pureL_trs l, ?_⟩
         conv => whnf
         exact ⟨_, [], rfl, ⟨⟨rfl,rfl,rfl, fun _=>rfl⟩, trivial⟩, trivial, _, fun _=>rfl,hc _ _⟩
     ·conv => whnf
      refine ⟨⟨pureL_trs l, trivial⟩, ⟨_, _, _, _, _, l, rfl,rfl,rfl, hlen, fun co hs hm hco => ?_⟩⟩
      conv => whnf
      refine loop_st (G := {q : Nat // q ≤ co.l.length} × (Nat → Value)) (fun g => (.c (.sli nl 0 0 l.length cap hl) :: .c (.val (g.2 1)) :: .c (.val (g.2 2)) :: .c (.val (g.2 3)) :: .c (.val (g.2 4)) :: .c (.val (g.2 5)) :: .c (.val (g.2 6)) :: .c (.val (g.2 7)) :: co.sl 1 :: .c (.int (g.1.1 : Nat) (lt_ir co.ok g.1.2)) :: .c (.val (g.2 10)) :: .c (.val (g.2 11)) :: .c (.val (g.2 12)) :: .c (.val (g.2 13)) :: .c (.val (g.2 14)) :: .c (.val (g.2 15)) :: .c (.val (g.2 16)) :: .c (.val (g.2 17)) :: .c (.val (g.2 18)) :: .c (.val (g.2 19)) :: .c (.val (g.2 20)) :: .c (.val (g.2 21)) :: .c (.val (g.2 22)) :: .c (.val (g.2 23)) :: .c (.val (g.2 24)) :: .c (.val (g.2 25)) :: .c (.val (g.2 26)) :: .c (.val (g.2 27)) :: .c (.val (g.2 28)) :: .c (.val (g.2 29)) :: .c (.val (g.2 30)) :: .c (.val (g.2 31)) :: .c (.val (g.2 32)) :: .c (.val (g.2 33)) :: .c (.val (g.2 34)) :: .c (.val (g.2 35)) :: .c (.val (g.2 36)) :: .c (.val (g.2 37)) :: .c (.val (g.2 38)) :: .c (.val (g.2 39)) :: .c (.val (g.2 40)) :: .c (.val (g.2 41)) :: .c (.val (g.2 42)) :: .c (.val (g.2 43)) :: .c (.val (g.2 44)) :: .c (.val (g.2 45)) :: .c (.val (g.2 46)) :: .c (.val (g.2 47)) :: .c (.val (g.2 48)) :: .c (.val (g.2 49)) :: .c (.val (g.2 50)) :: .c (.val (g.2 51)) :: .c (.val (g.2 52)) :: .c (.val (g.2 53)) :: .c (.val (g.2 54)) :: .c (.val (g.2 55)) :: .c (.val (g.2 56)) :: .c (.val (g.2 57)) :: .c (.val (g.2 58)) :: .c (.val (g.2 59)) :: .c (.val (g.2 60)) :: .c (.val (g.2 61)) :: .c (.val (g.2 62)) :: .c (.val (g.2 63)) :: .c (.val (g.2 64)) :: .c (.val (g.2 65)) :: .c (.val (g.2 66)) :: .c (.val (g.2 67)) :: .c (.val (g.2 68)) :: .c (.val (g.2 69)) :: .c (.val (g.2 70)) :: .c (.val (g.2 71)) :: .c (.val (g.2 72)) :: .c (.val (g.2 73)) :: .c (.val (g.2 74)) :: .c (.val (g.2 75)) :: .c (.val (g.2 76)) :: .c (.val (g.2 77)) :: .c (.val (g.2 78)) :: .c (.val (g.2 79)) :: .c (.val (g.2 80)) :: .c (.val (g.2 81)) :: .c (.val (g.2 82)) :: .c (.val (g.2 83)) :: .c (.val (g.2 84)) :: .c (.val (g.2 85)) :: .c (.val (g.2 86)) :: .c (.val (g.2 87)) :: .c (.val (g.2 88)) :: .c (.val (g.2 89)) :: .c (.val (g.2 90)) :: .c (.val (g.2 91)) :: [])) (fun g => [⟨ty, true, trsC l, 0⟩, co.blk]) (fun g => co.l.length - g.1.1) ?_ ?_
      ·refine ⟨[0,2], [0,8,9], [0,1], fun vs5 => ?_⟩
       conv => whnf
       refine ⟨pureL_trs l, co.new.1, ?_⟩
       conv => whnf
       refine ⟨_, _, ?_, ?_, (⟨0, Nat.zero_le _⟩, vs5), rfl, rfl⟩
       ·exact ⟨fun _=>rfl,fun _=>rfl,fun _=>rfl,fun _=>rfl,fun _=>rfl,fun _=>rfl,fun _=>rfl,fun _=>rfl,fun _=>rfl,fun _=>rfl,stm _⟩
       ·exact ⟨⟨rfl,rfl,rfl, fun _=>rfl⟩, ⟨rfl,rfl,rfl, fun _=>rfl⟩, trivial⟩
      ·rintro ⟨⟨q, hq⟩, vs5⟩
       have hq : q ≤ co.l.length := hq
       dsimp only
       conv => whnf
       refine bcase_intro (fun hqe => ?_) (fun hqe => ?_)
       ·have hqe : q < co.l.length := n_lt hqe
        conv => whnf
        conv =>
         arg 2
         tactic' =>
          apply eff_index_sli (k := q) (hi := (lt_ir co.ok hq)) (ho := ?how21) (hT := ?hTw21) (hx := ?hxw21) (hk := ?hkw21) (hlt := ?hltw21)
          case how21 => rfl
          case hTw21 => rfl
          case hxw21 => rfl
          case hkw21 => rfl
          case hltw21 => exact hqe
        conv => whnf
        conv =>
         arg 2
         tactic' =>
          apply eff_load_sub (ho := ?how22) (hT := ?hTw22) (hx := ?hxw22) (hb := ?hbw22) (hm := ?hmw22) (hv := ?hvw22)
          case how22 => rfl
          case hTw22 => rfl
          case hxw22 => rfl
          case hbw22 => rfl
          case hmw22 => exact (by rw [Nat.zero_add]; exact subC_pts co.l hqe : subC (ptsC co.l) (0 + q * 3) 3 = some (ptC co.l[q]))
          case hvw22 => rfl
        conv => whnf
        refine ⟨fun _ _=>rfl,?_⟩
        conv => whnf
        refine ⟨⟨pureL_trs l, trivial⟩, ⟨_, _, _, _, _, l, co.l[q], rfl,rfl,rfl, hlen, fun b2 => ?_⟩⟩
        conv => whnf
        refine bcase_intro (fun _ => ?_) (fun _ => ?_)
        ·conv => whnf
         refine ⟨[0], [0], fun vs9 => ?_⟩
         conv => whnf
         refine ⟨pureL_trs l, ?_⟩
         conv => whnf
         exact ⟨_, [], rfl, ⟨⟨rfl,rfl,rfl, fun _=>rfl⟩, trivial⟩, trivial, _, fun _=>rfl,hc _ _⟩
        ·conv => whnf
         refine ⟨[0,1], [0,8,9], [0,1], fun vs6 => ?_⟩
         conv => whnf
         refine ⟨pureL_trs l, co.new.1, ?_⟩
         conv => whnf
         refine ⟨_, _, ?_, ?_, (⟨q + 1, hqe⟩, vs6), (by omega : co.l.length - (q + 1) < co.l.length - q), rfl, rfl⟩
         ·exact ⟨fun _=>rfl,fun _=>rfl,fun _=>rfl,fun _=>rfl,fun _=>rfl,fun _=>rfl,fun _=>rfl,fun _=>rfl,fun _=>rfl,fun ρ => sint_k (wrap_add1 hqe co.ok.ir) ρ, stm _⟩
         ·exact ⟨⟨rfl,rfl,rfl, fun _=>rfl⟩, ⟨rfl,rfl,rfl, fun _=>rfl⟩, trivial⟩
       ·conv => whnf
        refine ⟨[0], [0], fun vs9 => ?_⟩
        conv => whnf
        refine ⟨pureL_trs l, ?_⟩
        conv => whnf
        exact ⟨_, [], rfl, ⟨⟨rfl,rfl,rfl, fun _=>rfl⟩, trivial⟩, trivial, _, fun _=>rfl,hc _ _⟩
def ck1C : List (FuncId × NewC) := [(17, cCheck)]
theorem ck1C_ok : AllC Tryz.prog ck1C := .cons csCheck .nil
theorem csChk : CSp Tryz.prog 7 cChk := csp_of (env_ok baseWE_ok 0) mixed (hnew_ok ck1C_ok (inl_ok (env_ok baseWE_ok 0) mixed noF_ok 0)) ⟨Tryz.func7, by kernel_rfl, by kernel_rfl⟩ fun args ros K hc => by
 obtain ⟨nl, _, cap, hl, ty, l, rfl,rfl,rfl, hlen, hc⟩ := hc
 refine ⟨fun ρ ρ' e => ?_, ?_⟩
 ·have e0 := e 0 (Nat.zero_lt_succ _)
  simp only [List.map, SV.den, C.den, C.cells, e0]
 conv => whnf
 refine ⟨⟨pureL_trs l, trivial⟩, ⟨_, _, _, _, _, l, false, rfl,rfl,rfl, hlen, fun e he => ?_⟩⟩
 conv => whnf
 refine ⟨[0], [0], fun vs9 => ?_⟩
 conv => whnf
 refine ⟨pureL_trs l, ?_⟩
 conv => whnf
 exact ⟨_, [], rfl, ⟨⟨rfl,rfl,rfl, fun _=>rfl⟩, trivial⟩, trivial, _, fun _=>rfl,hc e he⟩
end Go.Proofs.YtocbklodkcdhkaaGreatDoor
