/- view.look: how a cluster is seen. -/
import Derived.Test.YthmdmbpecgakkaaDoorVW2
namespace Go.Proofs.YthmdmbpecgakkaaDoor
open Go.RowKit
set_option maxRecDepth 100000

def bxC (b : BX) : List C := [.int b.lo.x b.lo.hx, .int b.lo.y b.lo.hy, .int b.lo.z b.lo.hz, .int b.hi.x b.hi.hx, .int b.hi.y b.hi.hy, .int b.hi.z b.hi.hz]
def eqQ (p q : PT) : Bool := decide (p.x = q.x) && (decide (p.y = q.y) && decide (p.z = q.z))
theorem eqQ_eq {p q : PT} (h : eqQ p q = true) : p = q := by
 unfold eqQ at h
 simp only [Bool.and_eq_true, decide_eq_true_eq] at h
 obtain ⟨x, y, z, hx, hy, hz⟩ := p
 obtain ⟨x', y', z', hx', hy', hz'⟩ := q
 obtain ⟨h1, h2, h3⟩ := h
 simp only at h1 h2 h3
 subst h1; subst h2; subst h3; rfl
theorem partC_tr (l : List TR) {k : Nat} (hk : k < l.length) : partC true (trsC l) (k * 9) 9 = some (.agg (trC l[k])) := by
 unfold partC
 rw [subC_trs l hk]; rfl
theorem imp_via {Z G : Prop} (h : Z → G) (z : Z) : G := h z
def snK (s : SN) (k : Nat) (h : Sm k s.d2) : List C := [.int s.made s.hm, .int s.total s.ht, .wid k s.d2 h, .val (.bool s.fits)]
theorem tot_yes {L : List GU} {c : CU} {j : Nat} (hj : j < L.length) (h : c.made = (j : Int)) : totV L c = ⟨L[j].total, L[j].ht⟩ := by
 unfold totV
 rw [if_pos (by omega), h, Int.toNat_natCast, List.getElem?_eq_getElem hj]
theorem tot_no {L : List GU} {c : CU} (h : ¬ 0 ≤ c.made) : totV L c = ⟨0, by decide⟩ := if_neg h
theorem seen_nil {L : List GU} {v : VW} {c : CU} {T : {z : Int // IR z}} (hT : totV L c = T) (h : c.tl = []) : seen L v c = ⟨c.made, T.1, 0, true, c.hm, T.2, sm_z0 _⟩ := by
 subst hT
 unfold seen
 rw [h]
theorem seen_cons {L : List GU} {v : VW} {c : CU} {T : {z : Int // IR z}} (hT : totV L c = T) {t : TR} {l : List TR} (h : c.tl = t :: l) : seen L v c = ⟨c.made, T.1, boxD v (boxL ⟨t.a, t.a⟩ (t :: l)) T.1, wthB v.f v.p (boxD v (boxL ⟨t.a, t.a⟩ (t :: l)) T.1) T.1, c.hm, T.2, sm_boxD v _ T.2⟩ := by
 subst hT
 unfold seen
 rw [h]
noncomputable def fxLk : FuncId → Option Func := lk [(18, Tryd.f18)]
theorem fxLk_ok : ∀ f fn, fxLk f = some fn → FnOk Tryd.prog f fn := lkF_ok fun x hx => by
 simp only [List.mem_cons, List.not_mem_nil, or_false] at hx
 subst hx
 ·exact ⟨Tryd.func18, by kernel_rfl, by kernel_rfl⟩
set_option maxHeartbeats 64000000 in
theorem look_vc {n1 : Bool} {CL : List CU} {c1 : Nat} {h1 : SliOk n1 CL.length c1} {n2 : Bool} {L : List GU} {c2 : Nat} {h2 : SliOk n2 L.length c2} {CT : List Bool} {fam : List Ent} {tc td tt : TypeId} {li : List ZV} {ln : Bool} {lt : Nat} {ls : List SN} {sn : Bool} {st : Nat} {v : VW} {i : Nat} {hi : IR (i : Int)} (hCL : ∀ c ∈ CL, c.Ok fam) (hidx : idxG CL L = true) (hil : i < CL.length) {K : SV → List Blk → Prop}
  (hK : ∀ (k : Nat) (h : Sm k (seen L v (CL[i]'hil)).d2) ex, K (.agg (snK (seen L v (CL[i]'hil)) k h)) (⟨.t tc, true, cusC CL, 0⟩ :: ⟨.t td, true, gusC L, 0⟩ :: ⟨.t tt, true, blC CT, 0⟩ :: ⟨.x fam, true, [], 3⟩ :: ⟨53, false, [.sli n1 0 0 CL.length c1 h1, .sli n2 1 0 L.length c2 h2], 0⟩ :: ⟨25, false, vwC v, 0⟩ :: ⟨3, ln, rwC intR li, lt⟩ :: ⟨67, sn, rwC snR ls, st⟩ :: ex)) :
  inl (envW 0) fxLk 1 18 [.c (.ptr 4 0), .c (.int (i : Nat) hi), .agg (vwC v)] [⟨.t tc, true, cusC CL, 0⟩, ⟨.t td, true, gusC L, 0⟩, ⟨.t tt, true, blC CT, 0⟩, ⟨.x fam, true, [], 3⟩, ⟨53, false, [.sli n1 0 0 CL.length c1 h1, .sli n2 1 0 L.length c2 h2], 0⟩, ⟨25, false, vwC v, 0⟩, ⟨3, ln, rwC intR li, lt⟩, ⟨67, sn, rwC snR ls, st⟩] K := by
 conv => whnf
 conv =>
  arg 2
  tactic' =>
   apply eff_index_sli (k := i) (hi := hi) (ho := ?how37) (hT := ?hTw37) (hx := ?hxw37) (hk := ?hkw37) (hlt := ?hltw37)
   case how37 => rfl
   case hTw37 => rfl
   case hxw37 => rfl
   case hkw37 => rfl
   case hltw37 => exact hil
 conv => whnf
 conv =>
  arg 2
  tactic' =>
   apply eff_load_sub (ho := ?how38) (hT := ?hTw38) (hx := ?hxw38) (hb := ?hbw38) (hm := ?hmw38) (hv := ?hvw38)
   case how38 => rfl
   case hTw38 => rfl
   case hxw38 => rfl
   case hbw38 => rfl
   case hmw38 => exact subC_cus CL hil
   case hvw38 => rfl
 conv => whnf
 obtain ⟨⟨htn, htf⟩, htr⟩ := hCL CL[i] (List.getElem_mem hil)
 refine bcase_intro (fun hm => ?_) (fun hm => ?_)
 ·have hm : 0 ≤ CL[i].made := of_decide_eq_true hm
  obtain ⟨j, hj⟩ : ∃ j : Nat, CL[i].made = j := ⟨CL[i].made.toNat, (Int.toNat_of_nonneg hm).symm⟩
  have hjl : j < L.length := by have := (made_lt hidx (List.getElem_mem hil)).1; omega
  have hji : IR (j : Int) := by rw [← hj]; exact CL[i].hm
  conv => whnf
  conv =>
   arg 2
   tactic' =>
    apply eff_index_sli (k := j) (hi := hji) (ho := ?how39) (hT := ?hTw39) (hx := ?hxw39) (hk := ?hkw39) (hlt := ?hltw39)
    case how39 => rfl
    case hTw39 => rfl
    case hxw39 => rfl
    case hkw39 => exact int_svV hj
    case hltw39 => exact hjl
  conv => whnf
  conv =>
   arg 2
   tactic' =>
    apply eff_load_sub (ho := ?how40) (hT := ?hTw40) (hx := ?hxw40) (hb := ?hbw40) (hm := ?hmw40) (hv := ?hvw40)
    case how40 => rfl
    case hTw40 => rfl
    case hxw40 => rfl
    case hbw40 => rfl
    case hmw40 => exact subC_gu L hjl 5 1 (r := [.int L[j].total L[j].ht]) rfl
    case hvw40 => rfl
  conv => whnf
  conv => whnf
  conv =>
   arg 2
   tactic' =>
    apply eff_len_val (hi := htr) (ho := ?how41) (hc := ?hcw41) (ha := ?haw41) (ht := ?htw41) (hT := ?hTw41) (hx := ?hxw41)
    case how41 => rfl
    case hcw41 => rfl
    case haw41 => rfl
    case htw41 => rfl
    case hTw41 => rfl
    case hxw41 => rfl
  conv => whnf
  refine bcase_intro (fun hz => ?_) (fun hz => ?_)
  ·have hz : CL[i].s.n = 0 := by have := of_decide_eq_true hz; omega
   have hnil : CL[i].tl = [] := List.eq_nil_of_length_eq_zero (by omega)
   rw [seen_nil (tot_yes hjl hj) hnil] at hK
   conv => whnf
   exact hK _ _ _
  ·have hz : ¬ CL[i].s.n = 0 := by intro h; have := of_decide_eq_false hz; rw [h] at this; exact this rfl
   obtain ⟨tl, htl⟩ : ∃ tl, CL[i].tl = tl := ⟨_, rfl⟩
   rw [htl] at htn htf
   cases tl with
   | nil => exact absurd htn hz
   | cons t0 tl =>
    obtain ⟨r, w, ha, hfm⟩ : ∃ r w, CL[i].s.a = some ⟨r, w, none⟩ ∧ InF fam (r, w) (trsC (t0 :: tl)) := htf.resolve_left fun e => by cases e
    rw [seen_cons (tot_yes hjl hj) htl] at hK
    have hS : SV.c CL[i].s.v = SV.c (.val (.slice (some ⟨r, w, none⟩) CL[i].s.n CL[i].s.c)) := by show SV.c (.val (.slice CL[i].s.a _ _)) = _; rw [ha]
    have hn0 : 0 < CL[i].s.n := by omega
    have h4 : partC true (trsC (t0 :: tl)) 0 3 = some (.agg [.int t0.a.x t0.a.hx, .int t0.a.y t0.a.hy, .int t0.a.z t0.a.hz]) ∧ ∀ ρ ρ' : Rho, SV.den ρ (.agg [.int t0.a.x t0.a.hx, .int t0.a.y t0.a.hy, .int t0.a.z t0.a.hz]) = SV.den ρ' (.agg [.int t0.a.x t0.a.hx, .int t0.a.y t0.a.hy, .int t0.a.z t0.a.hz]) := ⟨rfl, fun _ _=>rfl⟩
    conv => whnf
    refine imp_via (Z := ?Z1_0 ∧ ?Z1_1 ∧ ?Z1_2 ∧ ?Z1_3) (fun hmg => ?cur1) ?nxt1
    case cur1 =>
     refine ⟨?_, ?_, ?_, ?_, trivial⟩
     ·conv => whnf
      exact hmg.1
     ·conv => whnf
      exact hmg.2.1
     ·conv => whnf
      exact hmg.2.2.1
     ·conv => whnf
      exact hmg.2.2.2
    case nxt1 =>
     refine imp_via (Z := ?Z2_0 ∧ ?Z2_1 ∧ ?Z2_2 ∧ ?Z2_3 ∧ ?Z2_4 ∧ ?Z2_5 ∧ ?Z2_6 ∧ ?Z2_7) (fun hmg => ?cur2) ?nxt2
     case cur2 =>
      refine ⟨?_, ?_, ?_, ?_⟩
      ·refine ⟨?_, ?_, ?_, ?_, trivial⟩
       ·conv => whnf
        refine .inr ⟨r, w, _, _, 0, hS, rfl, hn0, ?_⟩
        conv => whnf
        exact hmg.1
       ·conv => whnf
        exact hmg.2.1
       ·conv => whnf
        exact hmg.2.2.1
       ·conv => whnf
        exact hmg.2.2.2.1
      ·refine ⟨?_, ?_, ?_, ?_, trivial⟩
       ·conv => whnf
        exact hmg.2.1
       ·conv => whnf
        refine .inr ⟨r, w, _, _, 0, hS, rfl, hn0, ?_⟩
        conv => whnf
        exact hmg.2.2.2.2.1
       ·conv => whnf
        exact hmg.2.2.2.2.2.1
       ·conv => whnf
        exact hmg.2.2.2.2.2.2.1
      ·refine ⟨?_, ?_, ?_, trivial⟩
       ·conv => whnf
        exact hmg.2.2.1
       ·conv => whnf
        exact hmg.2.2.2.2.2.1
       ·conv => whnf
        exact hmg.2.2.2.2.2.2.2
      ·refine ⟨?_, ?_, ?_, trivial⟩
       ·conv => whnf
        exact hmg.2.2.2.1
       ·conv => whnf
        exact hmg.2.2.2.2.2.2.1
       ·conv => whnf
        exact hmg.2.2.2.2.2.2.2
     case nxt2 =>
      refine imp_via (Z := ?Z3_0 ∧ ?Z3_1 ∧ ?Z3_2 ∧ ?Z3_3 ∧ ?Z3_4 ∧ ?Z3_5 ∧ ?Z3_6 ∧ ?Z3_7 ∧ ?Z3_8 ∧ ?Z3_9 ∧ ?Z3_10 ∧ ?Z3_11) (fun hmg => ?cur3) ?nxt3
      case cur3 =>
       refine ⟨?_, ?_, ?_, ?_, ?_, ?_, ?_, ?_⟩
       ·refine ⟨?_, ?_, ?_, ?_, trivial⟩
        ·conv => whnf
         refine .inr ⟨r, w, 0, rfl,rfl,by decide, ?_⟩
         conv => whnf
         exact hmg.1
        ·conv => whnf
         exact hmg.2.1
        ·conv => whnf
         exact hmg.2.2.1
        ·conv => whnf
         exact hmg.2.2.2.1
       ·refine ⟨?_, ?_, ?_, ?_, trivial⟩
        ·conv => whnf
         refine .inr ⟨r, w, _, _, 0, hS, rfl, hn0, ?_⟩
         conv => whnf
         exact hmg.2.1
        ·conv => whnf
         refine .inr ⟨r, w, _, _, 0, hS, rfl, hn0, ?_⟩
         conv => whnf
         exact hmg.2.2.2.2.1
        ·conv => whnf
         exact hmg.2.2.2.2.2.1
        ·conv => whnf
         exact hmg.2.2.2.2.2.2.1
       ·refine ⟨?_, ?_, ?_, trivial⟩
        ·conv => whnf
         refine .inr ⟨r, w, _, _, 0, hS, rfl, hn0, ?_⟩
         conv => whnf
         exact hmg.2.2.1
        ·conv => whnf
         exact hmg.2.2.2.2.2.1
        ·conv => whnf
         exact hmg.2.2.2.2.2.2.2.1
       ·refine ⟨?_, ?_, ?_, trivial⟩
        ·conv => whnf
         refine .inr ⟨r, w, _, _, 0, hS, rfl, hn0, ?_⟩
         conv => whnf
         exact hmg.2.2.2.1
        ·conv => whnf
         exact hmg.2.2.2.2.2.2.1
        ·conv => whnf
         exact hmg.2.2.2.2.2.2.2.1
       ·refine ⟨?_, ?_, ?_, ?_, trivial⟩
        ·conv => whnf
         exact hmg.2.2.2.2.1
        ·conv => whnf
         refine .inr ⟨r, w, 0, rfl,rfl,by decide, ?_⟩
         conv => whnf
         exact hmg.2.2.2.2.2.2.2.2.1
        ·conv => whnf
         exact hmg.2.2.2.2.2.2.2.2.2.1
        ·conv => whnf
         exact hmg.2.2.2.2.2.2.2.2.2.2.1
       ·refine ⟨?_, ?_, ?_, trivial⟩
        ·conv => whnf
         exact hmg.2.2.2.2.2.1
        ·conv => whnf
         refine .inr ⟨r, w, _, _, 0, hS, rfl, hn0, ?_⟩
         conv => whnf
         exact hmg.2.2.2.2.2.2.2.2.2.1
        ·conv => whnf
         exact hmg.2.2.2.2.2.2.2.2.2.2.2
       ·refine ⟨?_, ?_, ?_, trivial⟩
        ·conv => whnf
         exact hmg.2.2.2.2.2.2.1
        ·conv => whnf
         refine .inr ⟨r, w, _, _, 0, hS, rfl, hn0, ?_⟩
         conv => whnf
         exact hmg.2.2.2.2.2.2.2.2.2.2.1
        ·conv => whnf
         exact hmg.2.2.2.2.2.2.2.2.2.2.2
       ·refine ⟨?_, ?_, trivial⟩
        ·conv => whnf
         exact hmg.2.2.2.2.2.2.2.1
        ·conv => whnf
         exact hmg.2.2.2.2.2.2.2.2.2.2.2
      case nxt3 =>
       refine imp_via (Z := ?Z4_0 ∧ ?Z4_1 ∧ ?Z4_2 ∧ ?Z4_3 ∧ ?Z4_4 ∧ ?Z4_5 ∧ ?Z4_6 ∧ ?Z4_7 ∧ ?Z4_8 ∧ ?Z4_9 ∧ ?Z4_10 ∧ ?Z4_11 ∧ ?Z4_12 ∧ ?Z4_13 ∧ ?Z4_14 ∧ ?Z4_15) (fun hmg => ?cur4) ?nxt4
       case cur4 =>
        refine ⟨?_, ?_, ?_, ?_, ?_, ?_, ?_, ?_, ?_, ?_, ?_, ?_⟩
        ·refine ⟨?_, ?_, ?_, ?_, trivial⟩
         ·conv => whnf
          refine .inr ⟨r, w, 0, 3, _, _, rfl, ⟨_, _, _, rfl,rfl,hfm⟩, h4, ?_⟩
          conv => whnf
          exact hmg.1
         ·conv => whnf
          exact hmg.2.1
         ·conv => whnf
          exact hmg.2.2.1
         ·conv => whnf
          exact hmg.2.2.2.1
        ·refine ⟨?_, ?_, ?_, ?_, trivial⟩
         ·conv => whnf
          refine .inr ⟨r, w, 0, rfl,rfl,by decide, ?_⟩
          conv => whnf
          exact hmg.2.1
         ·conv => whnf
          refine .inr ⟨r, w, _, _, 0, hS, rfl, hn0, ?_⟩
          conv => whnf
          exact hmg.2.2.2.2.1
         ·conv => whnf
          exact hmg.2.2.2.2.2.1
         ·conv => whnf
          exact hmg.2.2.2.2.2.2.1
        ·refine ⟨?_, ?_, ?_, trivial⟩
         ·conv => whnf
          refine .inr ⟨r, w, 0, rfl,rfl,by decide, ?_⟩
          conv => whnf
          exact hmg.2.2.1
         ·conv => whnf
          exact hmg.2.2.2.2.2.1
         ·conv => whnf
          exact hmg.2.2.2.2.2.2.2.1
        ·refine ⟨?_, ?_, ?_, trivial⟩
         ·conv => whnf
          refine .inr ⟨r, w, 0, rfl,rfl,by decide, ?_⟩
          conv => whnf
          exact hmg.2.2.2.1
         ·conv => whnf
          exact hmg.2.2.2.2.2.2.1
         ·conv => whnf
          exact hmg.2.2.2.2.2.2.2.1
        ·refine ⟨?_, ?_, ?_, ?_, trivial⟩
         ·conv => whnf
          refine .inr ⟨r, w, _, _, 0, hS, rfl, hn0, ?_⟩
          conv => whnf
          exact hmg.2.2.2.2.1
         ·conv => whnf
          refine .inr ⟨r, w, 0, rfl,rfl,by decide, ?_⟩
          conv => whnf
          exact hmg.2.2.2.2.2.2.2.2.1
         ·conv => whnf
          exact hmg.2.2.2.2.2.2.2.2.2.1
         ·conv => whnf
          exact hmg.2.2.2.2.2.2.2.2.2.2.1
        ·refine ⟨?_, ?_, ?_, trivial⟩
         ·conv => whnf
          refine .inr ⟨r, w, _, _, 0, hS, rfl, hn0, ?_⟩
          conv => whnf
          exact hmg.2.2.2.2.2.1
         ·conv => whnf
          refine .inr ⟨r, w, _, _, 0, hS, rfl, hn0, ?_⟩
          conv => whnf
          exact hmg.2.2.2.2.2.2.2.2.2.1
         ·conv => whnf
          exact hmg.2.2.2.2.2.2.2.2.2.2.2.1
        ·refine ⟨?_, ?_, ?_, trivial⟩
         ·conv => whnf
          refine .inr ⟨r, w, _, _, 0, hS, rfl, hn0, ?_⟩
          conv => whnf
          exact hmg.2.2.2.2.2.2.1
         ·conv => whnf
          refine .inr ⟨r, w, _, _, 0, hS, rfl, hn0, ?_⟩
          conv => whnf
          exact hmg.2.2.2.2.2.2.2.2.2.2.1
         ·conv => whnf
          exact hmg.2.2.2.2.2.2.2.2.2.2.2.1
        ·refine ⟨?_, ?_, trivial⟩
         ·conv => whnf
          refine .inr ⟨r, w, _, _, 0, hS, rfl, hn0, ?_⟩
          conv => whnf
          exact hmg.2.2.2.2.2.2.2.1
         ·conv => whnf
          exact hmg.2.2.2.2.2.2.2.2.2.2.2.1
        ·refine ⟨?_, ?_, ?_, ?_, trivial⟩
         ·conv => whnf
          exact hmg.2.2.2.2.2.2.2.2.1
         ·conv => whnf
          refine .inr ⟨r, w, 0, 3, _, _, rfl, ⟨_, _, _, rfl,rfl,hfm⟩, h4, ?_⟩
          conv => whnf
          exact hmg.2.2.2.2.2.2.2.2.2.2.2.2.1
         ·conv => whnf
          exact hmg.2.2.2.2.2.2.2.2.2.2.2.2.2.1
         ·conv => whnf
          exact hmg.2.2.2.2.2.2.2.2.2.2.2.2.2.2.1
        ·refine ⟨?_, ?_, ?_, trivial⟩
         ·conv => whnf
          exact hmg.2.2.2.2.2.2.2.2.2.1
         ·conv => whnf
          refine .inr ⟨r, w, 0, rfl,rfl,by decide, ?_⟩
          conv => whnf
          exact hmg.2.2.2.2.2.2.2.2.2.2.2.2.2.1
         ·conv => whnf
          exact hmg.2.2.2.2.2.2.2.2.2.2.2.2.2.2.2
        ·refine ⟨?_, ?_, ?_, trivial⟩
         ·conv => whnf
          exact hmg.2.2.2.2.2.2.2.2.2.2.1
         ·conv => whnf
          refine .inr ⟨r, w, 0, rfl,rfl,by decide, ?_⟩
          conv => whnf
          exact hmg.2.2.2.2.2.2.2.2.2.2.2.2.2.2.1
         ·conv => whnf
          exact hmg.2.2.2.2.2.2.2.2.2.2.2.2.2.2.2
        ·refine ⟨?_, ?_, trivial⟩
         ·conv => whnf
          exact hmg.2.2.2.2.2.2.2.2.2.2.2.1
         ·conv => whnf
          refine .inr ⟨r, w, _, _, 0, hS, rfl, hn0, ?_⟩
          conv => whnf
          exact hmg.2.2.2.2.2.2.2.2.2.2.2.2.2.2.2
       case nxt4 =>
        refine imp_via (Z := ?Z5_0 ∧ ?Z5_1 ∧ ?Z5_2 ∧ ?Z5_3 ∧ ?Z5_4 ∧ ?Z5_5 ∧ ?Z5_6 ∧ ?Z5_7 ∧ ?Z5_8 ∧ ?Z5_9 ∧ ?Z5_10 ∧ ?Z5_11 ∧ ?Z5_12 ∧ ?Z5_13 ∧ ?Z5_14 ∧ ?Z5_15 ∧ ?Z5_16 ∧ ?Z5_17) (fun hmg => ?cur5) ?nxt5
        case cur5 =>
         refine ⟨?_, ?_, ?_, ?_, ?_, ?_, ?_, ?_, ?_, ?_, ?_, ?_, ?_, ?_, ?_, ?_⟩
         ·refine ⟨?_, ?_, ?_, trivial⟩
          ·conv => whnf
           exact hmg.1
          ·conv => whnf
           exact hmg.2.1
          ·conv => whnf
           exact hmg.2.2.1
         ·refine ⟨?_, ?_, ?_, ?_, trivial⟩
          ·conv => whnf
           refine .inr ⟨r, w, 0, 3, _, _, rfl, ⟨_, _, _, rfl,rfl,hfm⟩, h4, ?_⟩
           conv => whnf
           exact hmg.1
          ·conv => whnf
           refine .inr ⟨r, w, _, _, 0, hS, rfl, hn0, ?_⟩
           conv => whnf
           exact hmg.2.2.2.1
          ·conv => whnf
           exact hmg.2.2.2.2.1
          ·conv => whnf
           exact hmg.2.2.2.2.2.1
         ·refine ⟨?_, ?_, ?_, trivial⟩
          ·conv => whnf
           refine .inr ⟨r, w, 0, 3, _, _, rfl, ⟨_, _, _, rfl,rfl,hfm⟩, h4, ?_⟩
           conv => whnf
           exact hmg.2.1
          ·conv => whnf
           exact hmg.2.2.2.2.1
          ·conv => whnf
           exact hmg.2.2.2.2.2.2.1
         ·refine ⟨?_, ?_, ?_, trivial⟩
          ·conv => whnf
           refine .inr ⟨r, w, 0, 3, _, _, rfl, ⟨_, _, _, rfl,rfl,hfm⟩, h4, ?_⟩
           conv => whnf
           exact hmg.2.2.1
          ·conv => whnf
           exact hmg.2.2.2.2.2.1
          ·conv => whnf
           exact hmg.2.2.2.2.2.2.1
         ·refine ⟨?_, ?_, ?_, ?_, trivial⟩
          ·conv => whnf
           refine .inr ⟨r, w, 0, rfl,rfl,by decide, ?_⟩
           conv => whnf
           exact hmg.2.2.2.1
          ·conv => whnf
           refine .inr ⟨r, w, 0, rfl,rfl,by decide, ?_⟩
           conv => whnf
           exact hmg.2.2.2.2.2.2.2.1
          ·conv => whnf
           exact hmg.2.2.2.2.2.2.2.2.1
          ·conv => whnf
           exact hmg.2.2.2.2.2.2.2.2.2.1
         ·refine ⟨?_, ?_, ?_, trivial⟩
          ·conv => whnf
           refine .inr ⟨r, w, 0, rfl,rfl,by decide, ?_⟩
           conv => whnf
           exact hmg.2.2.2.2.1
          ·conv => whnf
           refine .inr ⟨r, w, _, _, 0, hS, rfl, hn0, ?_⟩
           conv => whnf
           exact hmg.2.2.2.2.2.2.2.2.1
          ·conv => whnf
           exact hmg.2.2.2.2.2.2.2.2.2.2.1
         ·refine ⟨?_, ?_, ?_, trivial⟩
          ·conv => whnf
           refine .inr ⟨r, w, 0, rfl,rfl,by decide, ?_⟩
           conv => whnf
           exact hmg.2.2.2.2.2.1
          ·conv => whnf
           refine .inr ⟨r, w, _, _, 0, hS, rfl, hn0, ?_⟩
           conv => whnf
           exact hmg.2.2.2.2.2.2.2.2.2.1
          ·conv => whnf
           exact hmg.2.2.2.2.2.2.2.2.2.2.1
         ·refine ⟨?_, ?_, trivial⟩
          ·conv => whnf
           refine .inr ⟨r, w, 0, rfl,rfl,by decide, ?_⟩
           conv => whnf
           exact hmg.2.2.2.2.2.2.1
          ·conv => whnf
           exact hmg.2.2.2.2.2.2.2.2.2.2.1
         ·refine ⟨?_, ?_, ?_, ?_, trivial⟩
          ·conv => whnf
           refine .inr ⟨r, w, _, _, 0, hS, rfl, hn0, ?_⟩
           conv => whnf
           exact hmg.2.2.2.2.2.2.2.1
          ·conv => whnf
           refine .inr ⟨r, w, 0, 3, _, _, rfl, ⟨_, _, _, rfl,rfl,hfm⟩, h4, ?_⟩
           conv => whnf
           exact hmg.2.2.2.2.2.2.2.2.2.2.2.1
          ·conv => whnf
           exact hmg.2.2.2.2.2.2.2.2.2.2.2.2.1
          ·conv => whnf
           exact hmg.2.2.2.2.2.2.2.2.2.2.2.2.2.1
         ·refine ⟨?_, ?_, ?_, trivial⟩
          ·conv => whnf
           refine .inr ⟨r, w, _, _, 0, hS, rfl, hn0, ?_⟩
           conv => whnf
           exact hmg.2.2.2.2.2.2.2.2.1
          ·conv => whnf
           refine .inr ⟨r, w, 0, rfl,rfl,by decide, ?_⟩
           conv => whnf
           exact hmg.2.2.2.2.2.2.2.2.2.2.2.2.1
          ·conv => whnf
           exact hmg.2.2.2.2.2.2.2.2.2.2.2.2.2.2.1
         ·refine ⟨?_, ?_, ?_, trivial⟩
          ·conv => whnf
           refine .inr ⟨r, w, _, _, 0, hS, rfl, hn0, ?_⟩
           conv => whnf
           exact hmg.2.2.2.2.2.2.2.2.2.1
          ·conv => whnf
           refine .inr ⟨r, w, 0, rfl,rfl,by decide, ?_⟩
           conv => whnf
           exact hmg.2.2.2.2.2.2.2.2.2.2.2.2.2.1
          ·conv => whnf
           exact hmg.2.2.2.2.2.2.2.2.2.2.2.2.2.2.1
         ·refine ⟨?_, ?_, trivial⟩
          ·conv => whnf
           refine .inr ⟨r, w, _, _, 0, hS, rfl, hn0, ?_⟩
           conv => whnf
           exact hmg.2.2.2.2.2.2.2.2.2.2.1
          ·conv => whnf
           refine .inr ⟨r, w, _, _, 0, hS, rfl, hn0, ?_⟩
           conv => whnf
           exact hmg.2.2.2.2.2.2.2.2.2.2.2.2.2.2.1
         ·refine ⟨?_, ?_, ?_, trivial⟩
          ·conv => whnf
           exact hmg.2.2.2.2.2.2.2.2.2.2.2.1
          ·conv => whnf
           exact hmg.2.2.2.2.2.2.2.2.2.2.2.2.2.2.2.1
          ·conv => whnf
           exact hmg.2.2.2.2.2.2.2.2.2.2.2.2.2.2.2.2.1
         ·refine ⟨?_, ?_, ?_, trivial⟩
          ·conv => whnf
           exact hmg.2.2.2.2.2.2.2.2.2.2.2.2.1
          ·conv => whnf
           refine .inr ⟨r, w, 0, 3, _, _, rfl, ⟨_, _, _, rfl,rfl,hfm⟩, h4, ?_⟩
           conv => whnf
           exact hmg.2.2.2.2.2.2.2.2.2.2.2.2.2.2.2.1
          ·conv => whnf
           exact hmg.2.2.2.2.2.2.2.2.2.2.2.2.2.2.2.2.2
         ·refine ⟨?_, ?_, ?_, trivial⟩
          ·conv => whnf
           exact hmg.2.2.2.2.2.2.2.2.2.2.2.2.2.1
          ·conv => whnf
           refine .inr ⟨r, w, 0, 3, _, _, rfl, ⟨_, _, _, rfl,rfl,hfm⟩, h4, ?_⟩
           conv => whnf
           exact hmg.2.2.2.2.2.2.2.2.2.2.2.2.2.2.2.2.1
          ·conv => whnf
           exact hmg.2.2.2.2.2.2.2.2.2.2.2.2.2.2.2.2.2
         ·refine ⟨?_, ?_, trivial⟩
          ·conv => whnf
           exact hmg.2.2.2.2.2.2.2.2.2.2.2.2.2.2.1
          ·conv => whnf
           refine .inr ⟨r, w, 0, rfl,rfl,by decide, ?_⟩
           conv => whnf
           exact hmg.2.2.2.2.2.2.2.2.2.2.2.2.2.2.2.2.2
        case nxt5 =>
         refine imp_via (Z := ?Z6_0 ∧ ?Z6_1 ∧ ?Z6_2 ∧ ?Z6_3 ∧ ?Z6_4 ∧ ?Z6_5 ∧ ?Z6_6 ∧ ?Z6_7 ∧ ?Z6_8 ∧ ?Z6_9 ∧ ?Z6_10 ∧ ?Z6_11 ∧ ?Z6_12 ∧ ?Z6_13 ∧ ?Z6_14 ∧ ?Z6_15) (fun hmg => ?cur6) ?nxt6
         case cur6 =>
          refine ⟨?_, ?_, ?_, ?_, ?_, ?_, ?_, ?_, ?_, ?_, ?_, ?_, ?_, ?_, ?_, ?_, ?_, ?_⟩
          ·refine ⟨?_, ?_, ?_, trivial⟩
           ·conv => whnf
            refine .inr ⟨r, w, _, _, 0, hS, rfl, hn0, ?_⟩
            conv => whnf
            exact hmg.1
           ·conv => whnf
            exact hmg.2.1
           ·conv => whnf
            exact hmg.2.2.1
          ·refine ⟨?_, ?_, trivial⟩
           ·conv => whnf
            exact hmg.2.1
           ·conv => whnf
            exact hmg.2.2.2.1
          ·refine ⟨?_, ?_, trivial⟩
           ·conv => whnf
            exact hmg.2.2.1
           ·conv => whnf
            exact hmg.2.2.2.1
          ·refine ⟨?_, ?_, ?_, ?_, trivial⟩
           ·conv => whnf
            refine .inr ⟨r, w, 0, 3, _, _, rfl, ⟨_, _, _, rfl,rfl,hfm⟩, h4, ?_⟩
            conv => whnf
            exact hmg.1
           ·conv => whnf
            refine .inr ⟨r, w, 0, rfl,rfl,by decide, ?_⟩
            conv => whnf
            exact hmg.2.2.2.2.1
           ·conv => whnf
            exact hmg.2.2.2.2.2.1
           ·conv => whnf
            exact hmg.2.2.2.2.2.2.1
          ·refine ⟨?_, ?_, ?_, trivial⟩
           ·conv => whnf
            refine .inr ⟨r, w, 0, 3, _, _, rfl, ⟨_, _, _, rfl,rfl,hfm⟩, h4, ?_⟩
            conv => whnf
            exact hmg.2.1
           ·conv => whnf
            refine .inr ⟨r, w, _, _, 0, hS, rfl, hn0, ?_⟩
            conv => whnf
            exact hmg.2.2.2.2.2.1
           ·conv => whnf
            exact hmg.2.2.2.2.2.2.2.1
          ·refine ⟨?_, ?_, ?_, trivial⟩
           ·conv => whnf
            refine .inr ⟨r, w, 0, 3, _, _, rfl, ⟨_, _, _, rfl,rfl,hfm⟩, h4, ?_⟩
            conv => whnf
            exact hmg.2.2.1
           ·conv => whnf
            refine .inr ⟨r, w, _, _, 0, hS, rfl, hn0, ?_⟩
            conv => whnf
            exact hmg.2.2.2.2.2.2.1
           ·conv => whnf
            exact hmg.2.2.2.2.2.2.2.1
          ·refine ⟨?_, ?_, trivial⟩
           ·conv => whnf
            refine .inr ⟨r, w, 0, 3, _, _, rfl, ⟨_, _, _, rfl,rfl,hfm⟩, h4, ?_⟩
            conv => whnf
            exact hmg.2.2.2.1
           ·conv => whnf
            exact hmg.2.2.2.2.2.2.2.1
          ·refine ⟨?_, ?_, ?_, ?_, trivial⟩
           ·conv => whnf
            refine .inr ⟨r, w, 0, rfl,rfl,by decide, ?_⟩
            conv => whnf
            exact hmg.2.2.2.2.1
           ·conv => whnf
            refine .inr ⟨r, w, 0, 3, _, _, rfl, ⟨_, _, _, rfl,rfl,hfm⟩, h4, ?_⟩
            conv => whnf
            exact hmg.2.2.2.2.2.2.2.2.1
           ·conv => whnf
            exact hmg.2.2.2.2.2.2.2.2.2.1
           ·conv => whnf
            exact hmg.2.2.2.2.2.2.2.2.2.2.1
          ·refine ⟨?_, ?_, ?_, trivial⟩
           ·conv => whnf
            refine .inr ⟨r, w, 0, rfl,rfl,by decide, ?_⟩
            conv => whnf
            exact hmg.2.2.2.2.2.1
           ·conv => whnf
            refine .inr ⟨r, w, 0, rfl,rfl,by decide, ?_⟩
            conv => whnf
            exact hmg.2.2.2.2.2.2.2.2.2.1
           ·conv => whnf
            exact hmg.2.2.2.2.2.2.2.2.2.2.2.1
          ·refine ⟨?_, ?_, ?_, trivial⟩
           ·conv => whnf
            refine .inr ⟨r, w, 0, rfl,rfl,by decide, ?_⟩
            conv => whnf
            exact hmg.2.2.2.2.2.2.1
           ·conv => whnf
            refine .inr ⟨r, w, 0, rfl,rfl,by decide, ?_⟩
            conv => whnf
            exact hmg.2.2.2.2.2.2.2.2.2.2.1
           ·conv => whnf
            exact hmg.2.2.2.2.2.2.2.2.2.2.2.1
          ·refine ⟨?_, ?_, trivial⟩
           ·conv => whnf
            refine .inr ⟨r, w, 0, rfl,rfl,by decide, ?_⟩
            conv => whnf
            exact hmg.2.2.2.2.2.2.2.1
           ·conv => whnf
            refine .inr ⟨r, w, _, _, 0, hS, rfl, hn0, ?_⟩
            conv => whnf
            exact hmg.2.2.2.2.2.2.2.2.2.2.2.1
          ·refine ⟨?_, ?_, ?_, trivial⟩
           ·conv => whnf
            refine .inr ⟨r, w, _, _, 0, hS, rfl, hn0, ?_⟩
            conv => whnf
            exact hmg.2.2.2.2.2.2.2.2.1
           ·conv => whnf
            exact hmg.2.2.2.2.2.2.2.2.2.2.2.2.1
           ·conv => whnf
            exact hmg.2.2.2.2.2.2.2.2.2.2.2.2.2.1
          ·refine ⟨?_, ?_, ?_, trivial⟩
           ·conv => whnf
            refine .inr ⟨r, w, _, _, 0, hS, rfl, hn0, ?_⟩
            conv => whnf
            exact hmg.2.2.2.2.2.2.2.2.2.1
           ·conv => whnf
            refine .inr ⟨r, w, 0, 3, _, _, rfl, ⟨_, _, _, rfl,rfl,hfm⟩, h4, ?_⟩
            conv => whnf
            exact hmg.2.2.2.2.2.2.2.2.2.2.2.2.1
           ·conv => whnf
            exact hmg.2.2.2.2.2.2.2.2.2.2.2.2.2.2.1
          ·refine ⟨?_, ?_, ?_, trivial⟩
           ·conv => whnf
            refine .inr ⟨r, w, _, _, 0, hS, rfl, hn0, ?_⟩
            conv => whnf
            exact hmg.2.2.2.2.2.2.2.2.2.2.1
           ·conv => whnf
            refine .inr ⟨r, w, 0, 3, _, _, rfl, ⟨_, _, _, rfl,rfl,hfm⟩, h4, ?_⟩
            conv => whnf
            exact hmg.2.2.2.2.2.2.2.2.2.2.2.2.2.1
           ·conv => whnf
            exact hmg.2.2.2.2.2.2.2.2.2.2.2.2.2.2.1
          ·refine ⟨?_, ?_, trivial⟩
           ·conv => whnf
            refine .inr ⟨r, w, _, _, 0, hS, rfl, hn0, ?_⟩
            conv => whnf
            exact hmg.2.2.2.2.2.2.2.2.2.2.2.1
           ·conv => whnf
            refine .inr ⟨r, w, 0, rfl,rfl,by decide, ?_⟩
            conv => whnf
            exact hmg.2.2.2.2.2.2.2.2.2.2.2.2.2.2.1
          ·refine ⟨?_, ?_, trivial⟩
           ·conv => whnf
            exact hmg.2.2.2.2.2.2.2.2.2.2.2.2.1
           ·conv => whnf
            exact hmg.2.2.2.2.2.2.2.2.2.2.2.2.2.2.2
          ·refine ⟨?_, ?_, trivial⟩
           ·conv => whnf
            exact hmg.2.2.2.2.2.2.2.2.2.2.2.2.2.1
           ·conv => whnf
            exact hmg.2.2.2.2.2.2.2.2.2.2.2.2.2.2.2
          ·refine ⟨?_, ?_, trivial⟩
           ·conv => whnf
            exact hmg.2.2.2.2.2.2.2.2.2.2.2.2.2.2.1
           ·conv => whnf
            refine .inr ⟨r, w, 0, 3, _, _, rfl, ⟨_, _, _, rfl,rfl,hfm⟩, h4, ?_⟩
            conv => whnf
            exact hmg.2.2.2.2.2.2.2.2.2.2.2.2.2.2.2
         case nxt6 =>
          refine imp_via (Z := ?Z7_0 ∧ ?Z7_1 ∧ ?Z7_2 ∧ ?Z7_3 ∧ ?Z7_4 ∧ ?Z7_5 ∧ ?Z7_6 ∧ ?Z7_7 ∧ ?Z7_8 ∧ ?Z7_9 ∧ ?Z7_10 ∧ ?Z7_11) (fun hmg => ?cur7) ?nxt7
          case cur7 =>
           refine ⟨?_, ?_, ?_, ?_, ?_, ?_, ?_, ?_, ?_, ?_, ?_, ?_, ?_, ?_, ?_, ?_⟩
           ·refine ⟨?_, ?_, ?_, trivial⟩
            ·conv => whnf
             refine .inr ⟨r, w, 0, rfl,rfl,by decide, ?_⟩
             conv => whnf
             exact hmg.1
            ·conv => whnf
             exact hmg.2.1
            ·conv => whnf
             exact hmg.2.2.1
           ·refine ⟨?_, ?_, trivial⟩
            ·conv => whnf
             refine .inr ⟨r, w, _, _, 0, hS, rfl, hn0, ?_⟩
             conv => whnf
             exact hmg.2.1
            ·conv => whnf
             exact hmg.2.2.2.1
           ·refine ⟨?_, ?_, trivial⟩
            ·conv => whnf
             refine .inr ⟨r, w, _, _, 0, hS, rfl, hn0, ?_⟩
             conv => whnf
             exact hmg.2.2.1
            ·conv => whnf
             exact hmg.2.2.2.1
           ·refine ⟨?_, trivial⟩
            ·conv => whnf
             exact hmg.2.2.2.1
           ·refine ⟨?_, ?_, ?_, ?_, trivial⟩
            ·conv => whnf
             refine .inr ⟨r, w, 0, 3, _, _, rfl, ⟨_, _, _, rfl,rfl,hfm⟩, h4, ?_⟩
             conv => whnf
             exact hmg.1
            ·conv => whnf
             refine .inr ⟨r, w, 0, 3, _, _, rfl, ⟨_, _, _, rfl,rfl,hfm⟩, h4, ?_⟩
             conv => whnf
             exact hmg.2.2.2.2.1
            ·conv => whnf
             exact hmg.2.2.2.2.2.1
            ·conv => whnf
             exact hmg.2.2.2.2.2.2.1
           ·refine ⟨?_, ?_, ?_, trivial⟩
            ·conv => whnf
             refine .inr ⟨r, w, 0, 3, _, _, rfl, ⟨_, _, _, rfl,rfl,hfm⟩, h4, ?_⟩
             conv => whnf
             exact hmg.2.1
            ·conv => whnf
             refine .inr ⟨r, w, 0, rfl,rfl,by decide, ?_⟩
             conv => whnf
             exact hmg.2.2.2.2.2.1
            ·conv => whnf
             exact hmg.2.2.2.2.2.2.2.1
           ·refine ⟨?_, ?_, ?_, trivial⟩
            ·conv => whnf
             refine .inr ⟨r, w, 0, 3, _, _, rfl, ⟨_, _, _, rfl,rfl,hfm⟩, h4, ?_⟩
             conv => whnf
             exact hmg.2.2.1
            ·conv => whnf
             refine .inr ⟨r, w, 0, rfl,rfl,by decide, ?_⟩
             conv => whnf
             exact hmg.2.2.2.2.2.2.1
            ·conv => whnf
             exact hmg.2.2.2.2.2.2.2.1
           ·refine ⟨?_, ?_, trivial⟩
            ·conv => whnf
             refine .inr ⟨r, w, 0, 3, _, _, rfl, ⟨_, _, _, rfl,rfl,hfm⟩, h4, ?_⟩
             conv => whnf
             exact hmg.2.2.2.1
            ·conv => whnf
             refine .inr ⟨r, w, _, _, 0, hS, rfl, hn0, ?_⟩
             conv => whnf
             exact hmg.2.2.2.2.2.2.2.1
           ·refine ⟨?_, ?_, ?_, trivial⟩
            ·conv => whnf
             refine .inr ⟨r, w, 0, rfl,rfl,by decide, ?_⟩
             conv => whnf
             exact hmg.2.2.2.2.1
            ·conv => whnf
             exact hmg.2.2.2.2.2.2.2.2.1
            ·conv => whnf
             exact hmg.2.2.2.2.2.2.2.2.2.1
           ·refine ⟨?_, ?_, ?_, trivial⟩
            ·conv => whnf
             refine .inr ⟨r, w, 0, rfl,rfl,by decide, ?_⟩
             conv => whnf
             exact hmg.2.2.2.2.2.1
            ·conv => whnf
             refine .inr ⟨r, w, 0, 3, _, _, rfl, ⟨_, _, _, rfl,rfl,hfm⟩, h4, ?_⟩
             conv => whnf
             exact hmg.2.2.2.2.2.2.2.2.1
            ·conv => whnf
             exact hmg.2.2.2.2.2.2.2.2.2.2.1
           ·refine ⟨?_, ?_, ?_, trivial⟩
            ·conv => whnf
             refine .inr ⟨r, w, 0, rfl,rfl,by decide, ?_⟩
             conv => whnf
             exact hmg.2.2.2.2.2.2.1
            ·conv => whnf
             refine .inr ⟨r, w, 0, 3, _, _, rfl, ⟨_, _, _, rfl,rfl,hfm⟩, h4, ?_⟩
             conv => whnf
             exact hmg.2.2.2.2.2.2.2.2.2.1
            ·conv => whnf
             exact hmg.2.2.2.2.2.2.2.2.2.2.1
           ·refine ⟨?_, ?_, trivial⟩
            ·conv => whnf
             refine .inr ⟨r, w, 0, rfl,rfl,by decide, ?_⟩
             conv => whnf
             exact hmg.2.2.2.2.2.2.2.1
            ·conv => whnf
             refine .inr ⟨r, w, 0, rfl,rfl,by decide, ?_⟩
             conv => whnf
             exact hmg.2.2.2.2.2.2.2.2.2.2.1
           ·refine ⟨?_, ?_, trivial⟩
            ·conv => whnf
             refine .inr ⟨r, w, _, _, 0, hS, rfl, hn0, ?_⟩
             conv => whnf
             exact hmg.2.2.2.2.2.2.2.2.1
            ·conv => whnf
             exact hmg.2.2.2.2.2.2.2.2.2.2.2
           ·refine ⟨?_, ?_, trivial⟩
            ·conv => whnf
             refine .inr ⟨r, w, _, _, 0, hS, rfl, hn0, ?_⟩
             conv => whnf
             exact hmg.2.2.2.2.2.2.2.2.2.1
            ·conv => whnf
             exact hmg.2.2.2.2.2.2.2.2.2.2.2
           ·refine ⟨?_, ?_, trivial⟩
            ·conv => whnf
             refine .inr ⟨r, w, _, _, 0, hS, rfl, hn0, ?_⟩
             conv => whnf
             exact hmg.2.2.2.2.2.2.2.2.2.2.1
            ·conv => whnf
             refine .inr ⟨r, w, 0, 3, _, _, rfl, ⟨_, _, _, rfl,rfl,hfm⟩, h4, ?_⟩
             conv => whnf
             exact hmg.2.2.2.2.2.2.2.2.2.2.2
           ·refine ⟨?_, trivial⟩
            ·conv => whnf
             exact hmg.2.2.2.2.2.2.2.2.2.2.2
          case nxt7 =>
           refine imp_via (Z := ?Z8_0 ∧ ?Z8_1 ∧ ?Z8_2 ∧ ?Z8_3 ∧ ?Z8_4 ∧ ?Z8_5 ∧ ?Z8_6 ∧ ?Z8_7) (fun hmg => ?cur8) ?nxt8
           case cur8 =>
            refine ⟨?_, ?_, ?_, ?_, ?_, ?_, ?_, ?_, ?_, ?_, ?_, ?_⟩
            ·refine ⟨?_, ?_, ?_, trivial⟩
             ·conv => whnf
              refine .inr ⟨r, w, 0, 3, _, _, rfl, ⟨_, _, _, rfl,rfl,hfm⟩, h4, ?_⟩
              conv => whnf
              exact hmg.1
             ·conv => whnf
              exact hmg.2.1
             ·conv => whnf
              exact hmg.2.2.1
            ·refine ⟨?_, ?_, trivial⟩
             ·conv => whnf
              refine .inr ⟨r, w, 0, rfl,rfl,by decide, ?_⟩
              conv => whnf
              exact hmg.2.1
             ·conv => whnf
              exact hmg.2.2.2.1
            ·refine ⟨?_, ?_, trivial⟩
             ·conv => whnf
              refine .inr ⟨r, w, 0, rfl,rfl,by decide, ?_⟩
              conv => whnf
              exact hmg.2.2.1
             ·conv => whnf
              exact hmg.2.2.2.1
            ·refine ⟨?_, trivial⟩
             ·conv => whnf
              refine .inr ⟨r, w, _, _, 0, hS, rfl, hn0, ?_⟩
              conv => whnf
              exact hmg.2.2.2.1
            ·refine ⟨?_, ?_, ?_, trivial⟩
             ·conv => whnf
              refine .inr ⟨r, w, 0, 3, _, _, rfl, ⟨_, _, _, rfl,rfl,hfm⟩, h4, ?_⟩
              conv => whnf
              exact hmg.1
             ·conv => whnf
              exact hmg.2.2.2.2.1
             ·conv => whnf
              exact hmg.2.2.2.2.2.1
            ·refine ⟨?_, ?_, ?_, trivial⟩
             ·conv => whnf
              refine .inr ⟨r, w, 0, 3, _, _, rfl, ⟨_, _, _, rfl,rfl,hfm⟩, h4, ?_⟩
              conv => whnf
              exact hmg.2.1
             ·conv => whnf
              refine .inr ⟨r, w, 0, 3, _, _, rfl, ⟨_, _, _, rfl,rfl,hfm⟩, h4, ?_⟩
              conv => whnf
              exact hmg.2.2.2.2.1
             ·conv => whnf
              exact hmg.2.2.2.2.2.2.1
            ·refine ⟨?_, ?_, ?_, trivial⟩
             ·conv => whnf
              refine .inr ⟨r, w, 0, 3, _, _, rfl, ⟨_, _, _, rfl,rfl,hfm⟩, h4, ?_⟩
              conv => whnf
              exact hmg.2.2.1
             ·conv => whnf
              refine .inr ⟨r, w, 0, 3, _, _, rfl, ⟨_, _, _, rfl,rfl,hfm⟩, h4, ?_⟩
              conv => whnf
              exact hmg.2.2.2.2.2.1
             ·conv => whnf
              exact hmg.2.2.2.2.2.2.1
            ·refine ⟨?_, ?_, trivial⟩
             ·conv => whnf
              refine .inr ⟨r, w, 0, 3, _, _, rfl, ⟨_, _, _, rfl,rfl,hfm⟩, h4, ?_⟩
              conv => whnf
              exact hmg.2.2.2.1
             ·conv => whnf
              refine .inr ⟨r, w, 0, rfl,rfl,by decide, ?_⟩
              conv => whnf
              exact hmg.2.2.2.2.2.2.1
            ·refine ⟨?_, ?_, trivial⟩
             ·conv => whnf
              refine .inr ⟨r, w, 0, rfl,rfl,by decide, ?_⟩
              conv => whnf
              exact hmg.2.2.2.2.1
             ·conv => whnf
              exact hmg.2.2.2.2.2.2.2
            ·refine ⟨?_, ?_, trivial⟩
             ·conv => whnf
              refine .inr ⟨r, w, 0, rfl,rfl,by decide, ?_⟩
              conv => whnf
              exact hmg.2.2.2.2.2.1
             ·conv => whnf
              exact hmg.2.2.2.2.2.2.2
            ·refine ⟨?_, ?_, trivial⟩
             ·conv => whnf
              refine .inr ⟨r, w, 0, rfl,rfl,by decide, ?_⟩
              conv => whnf
              exact hmg.2.2.2.2.2.2.1
             ·conv => whnf
              refine .inr ⟨r, w, 0, 3, _, _, rfl, ⟨_, _, _, rfl,rfl,hfm⟩, h4, ?_⟩
              conv => whnf
              exact hmg.2.2.2.2.2.2.2
            ·refine ⟨?_, trivial⟩
             ·conv => whnf
              refine .inr ⟨r, w, _, _, 0, hS, rfl, hn0, ?_⟩
              conv => whnf
              exact hmg.2.2.2.2.2.2.2
           case nxt8 =>
            refine imp_via (Z := ?Z9_0 ∧ ?Z9_1 ∧ ?Z9_2 ∧ ?Z9_3) (fun hmg => ?cur9) ?nxt9
            case cur9 =>
             refine ⟨?_, ?_, ?_, ?_, ?_, ?_, ?_, ?_⟩
             ·refine ⟨?_, ?_, trivial⟩
              ·conv => whnf
               exact hmg.1
              ·conv => whnf
               exact hmg.2.1
             ·refine ⟨?_, ?_, trivial⟩
              ·conv => whnf
               refine .inr ⟨r, w, 0, 3, _, _, rfl, ⟨_, _, _, rfl,rfl,hfm⟩, h4, ?_⟩
               conv => whnf
               exact hmg.1
              ·conv => whnf
               exact hmg.2.2.1
             ·refine ⟨?_, ?_, trivial⟩
              ·conv => whnf
               refine .inr ⟨r, w, 0, 3, _, _, rfl, ⟨_, _, _, rfl,rfl,hfm⟩, h4, ?_⟩
               conv => whnf
               exact hmg.2.1
              ·conv => whnf
               exact hmg.2.2.1
             ·refine ⟨?_, trivial⟩
              ·conv => whnf
               refine .inr ⟨r, w, 0, rfl,rfl,by decide, ?_⟩
               conv => whnf
               exact hmg.2.2.1
             ·refine ⟨?_, ?_, trivial⟩
              ·conv => whnf
               refine .inr ⟨r, w, 0, 3, _, _, rfl, ⟨_, _, _, rfl,rfl,hfm⟩, h4, ?_⟩
               conv => whnf
               exact hmg.1
              ·conv => whnf
               exact hmg.2.2.2
             ·refine ⟨?_, ?_, trivial⟩
              ·conv => whnf
               refine .inr ⟨r, w, 0, 3, _, _, rfl, ⟨_, _, _, rfl,rfl,hfm⟩, h4, ?_⟩
               conv => whnf
               exact hmg.2.1
              ·conv => whnf
               exact hmg.2.2.2
             ·refine ⟨?_, ?_, trivial⟩
              ·conv => whnf
               refine .inr ⟨r, w, 0, 3, _, _, rfl, ⟨_, _, _, rfl,rfl,hfm⟩, h4, ?_⟩
               conv => whnf
               exact hmg.2.2.1
              ·conv => whnf
               refine .inr ⟨r, w, 0, 3, _, _, rfl, ⟨_, _, _, rfl,rfl,hfm⟩, h4, ?_⟩
               conv => whnf
               exact hmg.2.2.2
             ·refine ⟨?_, trivial⟩
              ·conv => whnf
               refine .inr ⟨r, w, 0, rfl,rfl,by decide, ?_⟩
               conv => whnf
               exact hmg.2.2.2
            case nxt9 =>
             refine imp_via (Z := ?Z10_0) (fun hmg => ?cur10) ?nxt10
             case cur10 =>
              refine ⟨?_, ?_, ?_, ?_⟩
              ·refine ⟨?_, trivial⟩
               ·conv => whnf
                exact hmg
              ·refine ⟨?_, trivial⟩
               ·conv => whnf
                exact hmg
              ·refine ⟨?_, trivial⟩
               ·conv => whnf
                refine .inr ⟨r, w, 0, 3, _, _, rfl, ⟨_, _, _, rfl,rfl,hfm⟩, h4, ?_⟩
                conv => whnf
                exact hmg
              ·refine ⟨?_, trivial⟩
               ·conv => whnf
                refine .inr ⟨r, w, 0, 3, _, _, rfl, ⟨_, _, _, rfl,rfl,hfm⟩, h4, ?_⟩
                conv => whnf
                exact hmg
             case nxt10 =>
              conv =>
               arg 2
               tactic' =>
                apply eff_len_val (hi := htr) (ho := ?how42) (hc := ?hcw42) (ha := ?haw42) (ht := ?htw42) (hT := ?hTw42) (hx := ?hxw42)
                case how42 => rfl
                case hcw42 => rfl
                case haw42 => rfl
                case htw42 => rfl
                case hTw42 => rfl
                case hxw42 => rfl
              conv => whnf
              obtain ⟨b0, hb0⟩ : ∃ b0 : BX, b0 = ⟨t0.a, t0.a⟩ := ⟨_, rfl⟩
              have hb0l : b0.le := by rw [hb0]; exact ⟨Int.le_refl _, Int.le_refl _, Int.le_refl _⟩
              rw [← hb0] at hK
              obtain ⟨tq, htq⟩ : ∃ tq, tq = t0 :: tl := ⟨_, rfl⟩
              rw [← htq] at hK hfm htn
              refine loop_st (G := {k : Nat // k ≤ tq.length} × (Nat → Value)) (fun g => (.c (.val (g.2 0)) :: .c (.val (g.2 1)) :: .c (.val (g.2 2)) :: .c (.val (g.2 3)) :: .c (.val (g.2 4)) :: .c (.ptr 8 0) :: .c (.ptr 9 0) :: .c (.ptr 10 0) :: .c (.ptr 11 0) :: .c (.ptr 12 0) :: .c (.val (g.2 10)) :: .c (.val (g.2 11)) :: .c (.val (g.2 12)) :: .c (.val (g.2 13)) :: .c (.val (g.2 14)) :: .c (.val (g.2 15)) :: .c (.val (g.2 16)) :: .c (.val (g.2 17)) :: .c (.val (g.2 18)) :: .c (.val (g.2 19)) :: .c (.val (g.2 20)) :: .c (.val (g.2 21)) :: .c (.val (g.2 22)) :: .c (.val (g.2 23)) :: .c (.val (g.2 24)) :: .c (.val (g.2 25)) :: .c (.val (g.2 26)) :: .c (.val (g.2 27)) :: .c (.val (g.2 28)) :: .c (.val (g.2 29)) :: .c (.val (g.2 30)) :: .c (.val (g.2 31)) :: .c (.val (g.2 32)) :: .c (.val (g.2 33)) :: .c (.val (g.2 34)) :: .c (.val (g.2 35)) :: .c (.val (g.2 36)) :: .c (.val (g.2 37)) :: .c (.val (g.2 38)) :: .c (.val (g.2 39)) :: .c (.val (g.2 40)) :: .c (.val (g.2 41)) :: .c (.val (g.2 42)) :: .c (.val (g.2 43)) :: .c (.val (g.2 44)) :: .c (.val (g.2 45)) :: .c (.val (g.2 46)) :: .c (.val (g.2 47)) :: .c (.val (g.2 48)) :: .c (.val (g.2 49)) :: .c (.val (g.2 50)) :: .c (.val (g.2 51)) :: .c (.val (g.2 52)) :: .c (.val (g.2 53)) :: .c (.val (g.2 54)) :: .c (.val (g.2 55)) :: .c CL[i].s.v :: .c (.int (CL[i].s.n : Nat) htr) :: .c (.int (g.1.1 : Nat) (q_ir htr htn g.1.2)) :: .c (.val (g.2 59)) :: .c (.val (g.2 60)) :: .c (.val (g.2 61)) :: .c (.val (g.2 62)) :: .c (.val (g.2 63)) :: .c (.val (g.2 64)) :: .c (.val (g.2 65)) :: .c (.val (g.2 66)) :: .c (.val (g.2 67)) :: .c (.val (g.2 68)) :: .c (.val (g.2 69)) :: .c (.val (g.2 70)) :: .c (.val (g.2 71)) :: .c (.val (g.2 72)) :: .c (.val (g.2 73)) :: .c (.val (g.2 74)) :: .c (.val (g.2 75)) :: .c (.val (g.2 76)) :: .c (.val (g.2 77)) :: .c (.val (g.2 78)) :: .c (.val (g.2 79)) :: .c (.val (g.2 80)) :: .c (.val (g.2 81)) :: .c (.val (g.2 82)) :: .c (.val (g.2 83)) :: .c (.val (g.2 84)) :: .c (.val (g.2 85)) :: .c (.val (g.2 86)) :: .c (.val (g.2 87)) :: .c (.val (g.2 88)) :: .c (.val (g.2 89)) :: .c (.val (g.2 90)) :: .c (.val (g.2 91)) :: .c (.val (g.2 92)) :: .c (.val (g.2 93)) :: .c (.val (g.2 94)) :: .c (.val (g.2 95)) :: .c (.val (g.2 96)) :: .c (.val (g.2 97)) :: .c (.val (g.2 98)) :: .c (.val (g.2 99)) :: .c (.val (g.2 100)) :: .c (.val (g.2 101)) :: .c (.val (g.2 102)) :: .c (.val (g.2 103)) :: .c (.val (g.2 104)) :: .c (.val (g.2 105)) :: .c (.val (g.2 106)) :: .c (.val (g.2 107)) :: .c (.val (g.2 108)) :: .c (.val (g.2 109)) :: .c (.val (g.2 110)) :: .c (.val (g.2 111)) :: .c (.val (g.2 112)) :: .c (.val (g.2 113)) :: .c (.val (g.2 114)) :: .c (.val (g.2 115)) :: .c (.val (g.2 116)) :: .c (.val (g.2 117)) :: .c (.val (g.2 118)) :: .c (.val (g.2 119)) :: .c (.val (g.2 120)) :: .c (.val (g.2 121)) :: .c (.val (g.2 122)) :: .c (.val (g.2 123)) :: .c (.val (g.2 124)) :: .c (.val (g.2 125)) :: .c (.val (g.2 126)) :: .c (.val (g.2 127)) :: .c (.val (g.2 128)) :: .c (.val (g.2 129)) :: .c (.val (g.2 130)) :: [])) (fun g => [⟨.t tc, true, cusC CL, 0⟩, ⟨.t td, true, gusC L, 0⟩, ⟨.t tt, true, blC CT, 0⟩, ⟨.x fam, true, [], 3⟩, ⟨53, false, [.sli n1 0 0 CL.length c1 h1, .sli n2 1 0 L.length c2 h2], 0⟩, ⟨25, false, vwC v, 0⟩, ⟨3, ln, rwC intR li, lt⟩, ⟨67, sn, rwC snR ls, st⟩, ⟨25, false, vwC v, 0⟩, ⟨67, false, snC sn0, 0⟩, ⟨43, false, [CL[i].s.v, .int CL[i].made CL[i].hm, .int CL[i].used CL[i].hu], 0⟩, ⟨67, false, [.int CL[i].made CL[i].hm, .int L[j].total (L[j].ht), .wid 0 0 (sm_z0 _), .val (.bool true)], 0⟩, ⟨61, false, bxC (boxL b0 (tq.take g.1.1)) ++ [.int L[j].total (L[j].ht)], 0⟩]) (fun g => tq.length - g.1.1) ?_ ?_
              ·refine ⟨[0,1,2,3,4,5,6,7,8,9,10,11,12], [5,6,7,8,9,56,57,58], [0,1,2,6,7], fun vs6 => ?_⟩
               conv => whnf
               refine ⟨cusC_pure CL, gusC_pure L, blC_pure CT, rwC_pure intR li, rwC_pure snR ls, ?_⟩
               conv => whnf
               refine ⟨_, _, ?_, ?_, (⟨0, Nat.zero_le _⟩, vs6), rfl, rfl⟩
               ·exact (by (iterate 59 refine ⟨fun _=>rfl,?_⟩); exact stm _)
               ·exact (by (iterate 9 refine ⟨⟨rfl,rfl,rfl, fun _=>rfl⟩, ?_⟩); refine ⟨⟨rfl,rfl,rfl, fun ρ => (show cellsL ρ _ = cellsL ρ (snC sn0) by simp [cellsL, snC, sn0, C.cells])⟩, ?_⟩; refine ⟨⟨rfl,rfl,rfl, fun _=>rfl⟩, ?_⟩; refine ⟨⟨rfl,rfl,rfl, fun ρ => (by simp [cellsL, C.cells])⟩, ?_⟩; refine ⟨⟨rfl,rfl,rfl, fun ρ => (show _ = cellsL ρ (bxC b0 ++ [.int L[j].total (L[j].ht)]) by rw [hb0]; rfl)⟩, ?_⟩; exact trivial)
              ·rintro ⟨⟨k, hk⟩, vs6⟩
               have hk : k ≤ tq.length := hk
               obtain ⟨bx, hbx⟩ : ∃ bx, bx = boxL b0 (tq.take k) := ⟨_, rfl⟩
               have hbl : bx.le := by rw [hbx]; exact boxL_le hb0l _
               dsimp only
               rw [← hbx]
               conv => whnf
               refine bcase_intro (fun hlt => ?_) (fun hlt => ?_)
               ·have hlt : k < tq.length := by rw [← htn]; exact n_lt hlt
                conv => whnf
                refine .inr ⟨r, w, _, _, k, hS, rfl, by omega, ?_⟩
                conv => whnf
                refine .inr ⟨r, w, k * 9, 3, trsC tq, .agg (trC tq[k]), rfl, ⟨_, _, _, rfl,rfl,hfm⟩, ⟨partC_tr tq hlt, fun _ _=>rfl⟩, ?_⟩
                conv => whnf
                refine .inl ⟨4, ?_⟩
                conv => whnf
                refine bcase_intro (fun a0 => ?_) (fun a0 => ?_)
                ·have a0 : eqQ tq[k].a (bx).lo = true := a0
                 have e0 : addP (bx) tq[k].a = bx := addP_lo hbl (eqQ_eq a0)
                 conv => whnf
                 refine bcase_intro (fun a1 => ?_) (fun a1 => ?_)
                 ·have a1 : eqQ tq[k].b (bx).lo = true := a1
                  have e1 : addP (bx) tq[k].b = bx := addP_lo hbl (eqQ_eq a1)
                  conv => whnf
                  refine bcase_intro (fun a2 => ?_) (fun a2 => ?_)
                  ·have a2 : eqQ tq[k].c (bx).lo = true := a2
                   have e2 : addP (bx) tq[k].c = bx := addP_lo hbl (eqQ_eq a2)
                   conv => whnf
                   refine ⟨[0,1,2,3,4,5,6,7,8,9,10,11,12], [5,6,7,8,9,56,57,58], [0,1,2,6,7], fun vs7 => ?_⟩
                   conv => whnf
                   refine ⟨cusC_pure CL, gusC_pure L, blC_pure CT, rwC_pure intR li, rwC_pure snR ls, ?_⟩
                   conv => whnf
                   have hfin : boxL b0 (tq.take (k + 1)) = bx := by rw [boxL_succ b0 hlt, ← hbx]; unfold addT; rw [e0, e1, e2]
                   refine ⟨_, _, ?_, ?_, (⟨k + 1, hlt⟩, vs7), (by omega : tq.length - (k + 1) < tq.length - k), rfl, rfl⟩
                   ·exact (by (iterate 58 refine ⟨fun _=>rfl,?_⟩); refine ⟨fun ρ => sint_kV (wrap_add1 (n := tq.length) hlt (by rw [← htn]; exact htr)) ρ, ?_⟩; exact stm _)
                   ·exact (by (iterate 12 refine ⟨⟨rfl,rfl,rfl, fun _=>rfl⟩, ?_⟩); refine ⟨⟨rfl,rfl,rfl, fun ρ => (show cellsL ρ (bxC (bx) ++ [.int L[j].total (L[j].ht)]) = cellsL ρ (bxC (boxL b0 (tq.take (k + 1))) ++ [.int L[j].total (L[j].ht)]) by rw [hfin])⟩, ?_⟩; exact trivial)
                  ·conv => whnf
                   refine bcase_intro (fun c2 => ?_) (fun c2 => ?_)
                   ·have c2 : eqQ tq[k].c (bx).hi = true := c2
                    have e2 : addP (bx) tq[k].c = bx := addP_hi hbl (eqQ_eq c2)
                    conv => whnf
                    refine ⟨[0,1,2,3,4,5,6,7,8,9,10,11,12], [5,6,7,8,9,56,57,58], [0,1,2,6,7], fun vs7 => ?_⟩
                    conv => whnf
                    refine ⟨cusC_pure CL, gusC_pure L, blC_pure CT, rwC_pure intR li, rwC_pure snR ls, ?_⟩
                    conv => whnf
                    have hfin : boxL b0 (tq.take (k + 1)) = bx := by rw [boxL_succ b0 hlt, ← hbx]; unfold addT; rw [e0, e1, e2]
                    refine ⟨_, _, ?_, ?_, (⟨k + 1, hlt⟩, vs7), (by omega : tq.length - (k + 1) < tq.length - k), rfl, rfl⟩
                    ·exact (by (iterate 58 refine ⟨fun _=>rfl,?_⟩); refine ⟨fun ρ => sint_kV (wrap_add1 (n := tq.length) hlt (by rw [← htn]; exact htr)) ρ, ?_⟩; exact stm _)
                    ·exact (by (iterate 12 refine ⟨⟨rfl,rfl,rfl, fun _=>rfl⟩, ?_⟩); refine ⟨⟨rfl,rfl,rfl, fun ρ => (show cellsL ρ (bxC (bx) ++ [.int L[j].total (L[j].ht)]) = cellsL ρ (bxC (boxL b0 (tq.take (k + 1))) ++ [.int L[j].total (L[j].ht)]) by rw [hfin])⟩, ?_⟩; exact trivial)
                   ·conv => whnf
                    refine ⟨[0,1,2,3,4,5,6,7,8,9,10,11,12], [5,6,7,8,9,56,57,58], [0,1,2,6,7], fun vs7 => ?_⟩
                    conv => whnf
                    refine ⟨cusC_pure CL, gusC_pure L, blC_pure CT, rwC_pure intR li, rwC_pure snR ls, ?_⟩
                    conv => whnf
                    have hfin : boxL b0 (tq.take (k + 1)) = addP (bx) tq[k].c := by rw [boxL_succ b0 hlt, ← hbx]; unfold addT; rw [e0, e1]
                    refine ⟨_, _, ?_, ?_, (⟨k + 1, hlt⟩, vs7), (by omega : tq.length - (k + 1) < tq.length - k), rfl, rfl⟩
                    ·exact (by (iterate 58 refine ⟨fun _=>rfl,?_⟩); refine ⟨fun ρ => sint_kV (wrap_add1 (n := tq.length) hlt (by rw [← htn]; exact htr)) ρ, ?_⟩; exact stm _)
                    ·exact (by (iterate 12 refine ⟨⟨rfl,rfl,rfl, fun _=>rfl⟩, ?_⟩); refine ⟨⟨rfl,rfl,rfl, fun ρ => (show cellsL ρ (bxC (addP (bx) tq[k].c) ++ [.int L[j].total (L[j].ht)]) = cellsL ρ (bxC (boxL b0 (tq.take (k + 1))) ++ [.int L[j].total (L[j].ht)]) by rw [hfin])⟩, ?_⟩; exact trivial)
                 ·conv => whnf
                  refine bcase_intro (fun c1 => ?_) (fun c1 => ?_)
                  ·have c1 : eqQ tq[k].b (bx).hi = true := c1
                   have e1 : addP (bx) tq[k].b = bx := addP_hi hbl (eqQ_eq c1)
                   conv => whnf
                   refine bcase_intro (fun a2 => ?_) (fun a2 => ?_)
                   ·have a2 : eqQ tq[k].c (bx).lo = true := a2
                    have e2 : addP (bx) tq[k].c = bx := addP_lo hbl (eqQ_eq a2)
                    conv => whnf
                    refine ⟨[0,1,2,3,4,5,6,7,8,9,10,11,12], [5,6,7,8,9,56,57,58], [0,1,2,6,7], fun vs7 => ?_⟩
                    conv => whnf
                    refine ⟨cusC_pure CL, gusC_pure L, blC_pure CT, rwC_pure intR li, rwC_pure snR ls, ?_⟩
                    conv => whnf
                    have hfin : boxL b0 (tq.take (k + 1)) = bx := by rw [boxL_succ b0 hlt, ← hbx]; unfold addT; rw [e0, e1, e2]
                    refine ⟨_, _, ?_, ?_, (⟨k + 1, hlt⟩, vs7), (by omega : tq.length - (k + 1) < tq.length - k), rfl, rfl⟩
                    ·exact (by (iterate 58 refine ⟨fun _=>rfl,?_⟩); refine ⟨fun ρ => sint_kV (wrap_add1 (n := tq.length) hlt (by rw [← htn]; exact htr)) ρ, ?_⟩; exact stm _)
                    ·exact (by (iterate 12 refine ⟨⟨rfl,rfl,rfl, fun _=>rfl⟩, ?_⟩); refine ⟨⟨rfl,rfl,rfl, fun ρ => (show cellsL ρ (bxC (bx) ++ [.int L[j].total (L[j].ht)]) = cellsL ρ (bxC (boxL b0 (tq.take (k + 1))) ++ [.int L[j].total (L[j].ht)]) by rw [hfin])⟩, ?_⟩; exact trivial)
                   ·conv => whnf
                    refine bcase_intro (fun c2 => ?_) (fun c2 => ?_)
                    ·have c2 : eqQ tq[k].c (bx).hi = true := c2
                     have e2 : addP (bx) tq[k].c = bx := addP_hi hbl (eqQ_eq c2)
                     conv => whnf
                     refine ⟨[0,1,2,3,4,5,6,7,8,9,10,11,12], [5,6,7,8,9,56,57,58], [0,1,2,6,7], fun vs7 => ?_⟩
                     conv => whnf
                     refine ⟨cusC_pure CL, gusC_pure L, blC_pure CT, rwC_pure intR li, rwC_pure snR ls, ?_⟩
                     conv => whnf
                     have hfin : boxL b0 (tq.take (k + 1)) = bx := by rw [boxL_succ b0 hlt, ← hbx]; unfold addT; rw [e0, e1, e2]
                     refine ⟨_, _, ?_, ?_, (⟨k + 1, hlt⟩, vs7), (by omega : tq.length - (k + 1) < tq.length - k), rfl, rfl⟩
                     ·exact (by (iterate 58 refine ⟨fun _=>rfl,?_⟩); refine ⟨fun ρ => sint_kV (wrap_add1 (n := tq.length) hlt (by rw [← htn]; exact htr)) ρ, ?_⟩; exact stm _)
                     ·exact (by (iterate 12 refine ⟨⟨rfl,rfl,rfl, fun _=>rfl⟩, ?_⟩); refine ⟨⟨rfl,rfl,rfl, fun ρ => (show cellsL ρ (bxC (bx) ++ [.int L[j].total (L[j].ht)]) = cellsL ρ (bxC (boxL b0 (tq.take (k + 1))) ++ [.int L[j].total (L[j].ht)]) by rw [hfin])⟩, ?_⟩; exact trivial)
                    ·conv => whnf
                     refine ⟨[0,1,2,3,4,5,6,7,8,9,10,11,12], [5,6,7,8,9,56,57,58], [0,1,2,6,7], fun vs7 => ?_⟩
                     conv => whnf
                     refine ⟨cusC_pure CL, gusC_pure L, blC_pure CT, rwC_pure intR li, rwC_pure snR ls, ?_⟩
                     conv => whnf
                     have hfin : boxL b0 (tq.take (k + 1)) = addP (bx) tq[k].c := by rw [boxL_succ b0 hlt, ← hbx]; unfold addT; rw [e0, e1]
                     refine ⟨_, _, ?_, ?_, (⟨k + 1, hlt⟩, vs7), (by omega : tq.length - (k + 1) < tq.length - k), rfl, rfl⟩
                     ·exact (by (iterate 58 refine ⟨fun _=>rfl,?_⟩); refine ⟨fun ρ => sint_kV (wrap_add1 (n := tq.length) hlt (by rw [← htn]; exact htr)) ρ, ?_⟩; exact stm _)
                     ·exact (by (iterate 12 refine ⟨⟨rfl,rfl,rfl, fun _=>rfl⟩, ?_⟩); refine ⟨⟨rfl,rfl,rfl, fun ρ => (show cellsL ρ (bxC (addP (bx) tq[k].c) ++ [.int L[j].total (L[j].ht)]) = cellsL ρ (bxC (boxL b0 (tq.take (k + 1))) ++ [.int L[j].total (L[j].ht)]) by rw [hfin])⟩, ?_⟩; exact trivial)
                  ·conv => whnf
                   refine bcase_intro (fun a2 => ?_) (fun a2 => ?_)
                   ·have a2 : eqQ tq[k].c (addP (bx) tq[k].b).lo = true := a2
                    have e2 : addP (addP (bx) tq[k].b) tq[k].c = addP (bx) tq[k].b := addP_lo (addP_le hbl tq[k].b) (eqQ_eq a2)
                    conv => whnf
                    refine ⟨[0,1,2,3,4,5,6,7,8,9,10,11,12], [5,6,7,8,9,56,57,58], [0,1,2,6,7], fun vs7 => ?_⟩
                    conv => whnf
                    refine ⟨cusC_pure CL, gusC_pure L, blC_pure CT, rwC_pure intR li, rwC_pure snR ls, ?_⟩
                    conv => whnf
                    have hfin : boxL b0 (tq.take (k + 1)) = addP (bx) tq[k].b := by rw [boxL_succ b0 hlt, ← hbx]; unfold addT; rw [e0, e2]
                    refine ⟨_, _, ?_, ?_, (⟨k + 1, hlt⟩, vs7), (by omega : tq.length - (k + 1) < tq.length - k), rfl, rfl⟩
                    ·exact (by (iterate 58 refine ⟨fun _=>rfl,?_⟩); refine ⟨fun ρ => sint_kV (wrap_add1 (n := tq.length) hlt (by rw [← htn]; exact htr)) ρ, ?_⟩; exact stm _)
                    ·exact (by (iterate 12 refine ⟨⟨rfl,rfl,rfl, fun _=>rfl⟩, ?_⟩); refine ⟨⟨rfl,rfl,rfl, fun ρ => (show cellsL ρ (bxC (addP (bx) tq[k].b) ++ [.int L[j].total (L[j].ht)]) = cellsL ρ (bxC (boxL b0 (tq.take (k + 1))) ++ [.int L[j].total (L[j].ht)]) by rw [hfin])⟩, ?_⟩; exact trivial)
                   ·conv => whnf
                    refine bcase_intro (fun c2 => ?_) (fun c2 => ?_)
                    ·have c2 : eqQ tq[k].c (addP (bx) tq[k].b).hi = true := c2
                     have e2 : addP (addP (bx) tq[k].b) tq[k].c = addP (bx) tq[k].b := addP_hi (addP_le hbl tq[k].b) (eqQ_eq c2)
                     conv => whnf
                     refine ⟨[0,1,2,3,4,5,6,7,8,9,10,11,12], [5,6,7,8,9,56,57,58], [0,1,2,6,7], fun vs7 => ?_⟩
                     conv => whnf
                     refine ⟨cusC_pure CL, gusC_pure L, blC_pure CT, rwC_pure intR li, rwC_pure snR ls, ?_⟩
                     conv => whnf
                     have hfin : boxL b0 (tq.take (k + 1)) = addP (bx) tq[k].b := by rw [boxL_succ b0 hlt, ← hbx]; unfold addT; rw [e0, e2]
                     refine ⟨_, _, ?_, ?_, (⟨k + 1, hlt⟩, vs7), (by omega : tq.length - (k + 1) < tq.length - k), rfl, rfl⟩
                     ·exact (by (iterate 58 refine ⟨fun _=>rfl,?_⟩); refine ⟨fun ρ => sint_kV (wrap_add1 (n := tq.length) hlt (by rw [← htn]; exact htr)) ρ, ?_⟩; exact stm _)
                     ·exact (by (iterate 12 refine ⟨⟨rfl,rfl,rfl, fun _=>rfl⟩, ?_⟩); refine ⟨⟨rfl,rfl,rfl, fun ρ => (show cellsL ρ (bxC (addP (bx) tq[k].b) ++ [.int L[j].total (L[j].ht)]) = cellsL ρ (bxC (boxL b0 (tq.take (k + 1))) ++ [.int L[j].total (L[j].ht)]) by rw [hfin])⟩, ?_⟩; exact trivial)
                    ·conv => whnf
                     refine ⟨[0,1,2,3,4,5,6,7,8,9,10,11,12], [5,6,7,8,9,56,57,58], [0,1,2,6,7], fun vs7 => ?_⟩
                     conv => whnf
                     refine ⟨cusC_pure CL, gusC_pure L, blC_pure CT, rwC_pure intR li, rwC_pure snR ls, ?_⟩
                     conv => whnf
                     have hfin : boxL b0 (tq.take (k + 1)) = addP (addP (bx) tq[k].b) tq[k].c := by rw [boxL_succ b0 hlt, ← hbx]; unfold addT; rw [e0]
                     refine ⟨_, _, ?_, ?_, (⟨k + 1, hlt⟩, vs7), (by omega : tq.length - (k + 1) < tq.length - k), rfl, rfl⟩
                     ·exact (by (iterate 58 refine ⟨fun _=>rfl,?_⟩); refine ⟨fun ρ => sint_kV (wrap_add1 (n := tq.length) hlt (by rw [← htn]; exact htr)) ρ, ?_⟩; exact stm _)
                     ·exact (by (iterate 12 refine ⟨⟨rfl,rfl,rfl, fun _=>rfl⟩, ?_⟩); refine ⟨⟨rfl,rfl,rfl, fun ρ => (show cellsL ρ (bxC (addP (addP (bx) tq[k].b) tq[k].c) ++ [.int L[j].total (L[j].ht)]) = cellsL ρ (bxC (boxL b0 (tq.take (k + 1))) ++ [.int L[j].total (L[j].ht)]) by rw [hfin])⟩, ?_⟩; exact trivial)
                ·conv => whnf
                 refine bcase_intro (fun c0 => ?_) (fun c0 => ?_)
                 ·have c0 : eqQ tq[k].a (bx).hi = true := c0
                  have e0 : addP (bx) tq[k].a = bx := addP_hi hbl (eqQ_eq c0)
                  conv => whnf
                  refine bcase_intro (fun a1 => ?_) (fun a1 => ?_)
                  ·have a1 : eqQ tq[k].b (bx).lo = true := a1
                   have e1 : addP (bx) tq[k].b = bx := addP_lo hbl (eqQ_eq a1)
                   conv => whnf
                   refine bcase_intro (fun a2 => ?_) (fun a2 => ?_)
                   ·have a2 : eqQ tq[k].c (bx).lo = true := a2
                    have e2 : addP (bx) tq[k].c = bx := addP_lo hbl (eqQ_eq a2)
                    conv => whnf
                    refine ⟨[0,1,2,3,4,5,6,7,8,9,10,11,12], [5,6,7,8,9,56,57,58], [0,1,2,6,7], fun vs7 => ?_⟩
                    conv => whnf
                    refine ⟨cusC_pure CL, gusC_pure L, blC_pure CT, rwC_pure intR li, rwC_pure snR ls, ?_⟩
                    conv => whnf
                    have hfin : boxL b0 (tq.take (k + 1)) = bx := by rw [boxL_succ b0 hlt, ← hbx]; unfold addT; rw [e0, e1, e2]
                    refine ⟨_, _, ?_, ?_, (⟨k + 1, hlt⟩, vs7), (by omega : tq.length - (k + 1) < tq.length - k), rfl, rfl⟩
                    ·exact (by (iterate 58 refine ⟨fun _=>rfl,?_⟩); refine ⟨fun ρ => sint_kV (wrap_add1 (n := tq.length) hlt (by rw [← htn]; exact htr)) ρ, ?_⟩; exact stm _)
                    ·exact (by (iterate 12 refine ⟨⟨rfl,rfl,rfl, fun _=>rfl⟩, ?_⟩); refine ⟨⟨rfl,rfl,rfl, fun ρ => (show cellsL ρ (bxC (bx) ++ [.int L[j].total (L[j].ht)]) = cellsL ρ (bxC (boxL b0 (tq.take (k + 1))) ++ [.int L[j].total (L[j].ht)]) by rw [hfin])⟩, ?_⟩; exact trivial)
                   ·conv => whnf
                    refine bcase_intro (fun c2 => ?_) (fun c2 => ?_)
                    ·have c2 : eqQ tq[k].c (bx).hi = true := c2
                     have e2 : addP (bx) tq[k].c = bx := addP_hi hbl (eqQ_eq c2)
                     conv => whnf
                     refine ⟨[0,1,2,3,4,5,6,7,8,9,10,11,12], [5,6,7,8,9,56,57,58], [0,1,2,6,7], fun vs7 => ?_⟩
                     conv => whnf
                     refine ⟨cusC_pure CL, gusC_pure L, blC_pure CT, rwC_pure intR li, rwC_pure snR ls, ?_⟩
                     conv => whnf
                     have hfin : boxL b0 (tq.take (k + 1)) = bx := by rw [boxL_succ b0 hlt, ← hbx]; unfold addT; rw [e0, e1, e2]
                     refine ⟨_, _, ?_, ?_, (⟨k + 1, hlt⟩, vs7), (by omega : tq.length - (k + 1) < tq.length - k), rfl, rfl⟩
                     ·exact (by (iterate 58 refine ⟨fun _=>rfl,?_⟩); refine ⟨fun ρ => sint_kV (wrap_add1 (n := tq.length) hlt (by rw [← htn]; exact htr)) ρ, ?_⟩; exact stm _)
                     ·exact (by (iterate 12 refine ⟨⟨rfl,rfl,rfl, fun _=>rfl⟩, ?_⟩); refine ⟨⟨rfl,rfl,rfl, fun ρ => (show cellsL ρ (bxC (bx) ++ [.int L[j].total (L[j].ht)]) = cellsL ρ (bxC (boxL b0 (tq.take (k + 1))) ++ [.int L[j].total (L[j].ht)]) by rw [hfin])⟩, ?_⟩; exact trivial)
                    ·conv => whnf
                     refine ⟨[0,1,2,3,4,5,6,7,8,9,10,11,12], [5,6,7,8,9,56,57,58], [0,1,2,6,7], fun vs7 => ?_⟩
                     conv => whnf
                     refine ⟨cusC_pure CL, gusC_pure L, blC_pure CT, rwC_pure intR li, rwC_pure snR ls, ?_⟩
                     conv => whnf
                     have hfin : boxL b0 (tq.take (k + 1)) = addP (bx) tq[k].c := by rw [boxL_succ b0 hlt, ← hbx]; unfold addT; rw [e0, e1]
                     refine ⟨_, _, ?_, ?_, (⟨k + 1, hlt⟩, vs7), (by omega : tq.length - (k + 1) < tq.length - k), rfl, rfl⟩
                     ·exact (by (iterate 58 refine ⟨fun _=>rfl,?_⟩); refine ⟨fun ρ => sint_kV (wrap_add1 (n := tq.length) hlt (by rw [← htn]; exact htr)) ρ, ?_⟩; exact stm _)
                     ·exact (by (iterate 12 refine ⟨⟨rfl,rfl,rfl, fun _=>rfl⟩, ?_⟩); refine ⟨⟨rfl,rfl,rfl, fun ρ => (show cellsL ρ (bxC (addP (bx) tq[k].c) ++ [.int L[j].total (L[j].ht)]) = cellsL ρ (bxC (boxL b0 (tq.take (k + 1))) ++ [.int L[j].total (L[j].ht)]) by rw [hfin])⟩, ?_⟩; exact trivial)
                  ·conv => whnf
                   refine bcase_intro (fun c1 => ?_) (fun c1 => ?_)
                   ·have c1 : eqQ tq[k].b (bx).hi = true := c1
                    have e1 : addP (bx) tq[k].b = bx := addP_hi hbl (eqQ_eq c1)
                    conv => whnf
                    refine bcase_intro (fun a2 => ?_) (fun a2 => ?_)
                    ·have a2 : eqQ tq[k].c (bx).lo = true := a2
                     have e2 : addP (bx) tq[k].c = bx := addP_lo hbl (eqQ_eq a2)
                     conv => whnf
                     refine ⟨[0,1,2,3,4,5,6,7,8,9,10,11,12], [5,6,7,8,9,56,57,58], [0,1,2,6,7], fun vs7 => ?_⟩
                     conv => whnf
                     refine ⟨cusC_pure CL, gusC_pure L, blC_pure CT, rwC_pure intR li, rwC_pure snR ls, ?_⟩
                     conv => whnf
                     have hfin : boxL b0 (tq.take (k + 1)) = bx := by rw [boxL_succ b0 hlt, ← hbx]; unfold addT; rw [e0, e1, e2]
                     refine ⟨_, _, ?_, ?_, (⟨k + 1, hlt⟩, vs7), (by omega : tq.length - (k + 1) < tq.length - k), rfl, rfl⟩
                     ·exact (by (iterate 58 refine ⟨fun _=>rfl,?_⟩); refine ⟨fun ρ => sint_kV (wrap_add1 (n := tq.length) hlt (by rw [← htn]; exact htr)) ρ, ?_⟩; exact stm _)
                     ·exact (by (iterate 12 refine ⟨⟨rfl,rfl,rfl, fun _=>rfl⟩, ?_⟩); refine ⟨⟨rfl,rfl,rfl, fun ρ => (show cellsL ρ (bxC (bx) ++ [.int L[j].total (L[j].ht)]) = cellsL ρ (bxC (boxL b0 (tq.take (k + 1))) ++ [.int L[j].total (L[j].ht)]) by rw [hfin])⟩, ?_⟩; exact trivial)
                    ·conv => whnf
                     refine bcase_intro (fun c2 => ?_) (fun c2 => ?_)
                     ·have c2 : eqQ tq[k].c (bx).hi = true := c2
                      have e2 : addP (bx) tq[k].c = bx := addP_hi hbl (eqQ_eq c2)
                      conv => whnf
                      refine ⟨[0,1,2,3,4,5,6,7,8,9,10,11,12], [5,6,7,8,9,56,57,58], [0,1,2,6,7], fun vs7 => ?_⟩
                      conv => whnf
                      refine ⟨cusC_pure CL, gusC_pure L, blC_pure CT, rwC_pure intR li, rwC_pure snR ls, ?_⟩
                      conv => whnf
                      have hfin : boxL b0 (tq.take (k + 1)) = bx := by rw [boxL_succ b0 hlt, ← hbx]; unfold addT; rw [e0, e1, e2]
                      refine ⟨_, _, ?_, ?_, (⟨k + 1, hlt⟩, vs7), (by omega : tq.length - (k + 1) < tq.length - k), rfl, rfl⟩
                      ·exact (by (iterate 58 refine ⟨fun _=>rfl,?_⟩); refine ⟨fun ρ => sint_kV (wrap_add1 (n := tq.length) hlt (by rw [← htn]; exact htr)) ρ, ?_⟩; exact stm _)
                      ·exact (by (iterate 12 refine ⟨⟨rfl,rfl,rfl, fun _=>rfl⟩, ?_⟩); refine ⟨⟨rfl,rfl,rfl, fun ρ => (show cellsL ρ (bxC (bx) ++ [.int L[j].total (L[j].ht)]) = cellsL ρ (bxC (boxL b0 (tq.take (k + 1))) ++ [.int L[j].total (L[j].ht)]) by rw [hfin])⟩, ?_⟩; exact trivial)
                     ·conv => whnf
                      refine ⟨[0,1,2,3,4,5,6,7,8,9,10,11,12], [5,6,7,8,9,56,57,58], [0,1,2,6,7], fun vs7 => ?_⟩
                      conv => whnf
                      refine ⟨cusC_pure CL, gusC_pure L, blC_pure CT, rwC_pure intR li, rwC_pure snR ls, ?_⟩
                      conv => whnf
                      have hfin : boxL b0 (tq.take (k + 1)) = addP (bx) tq[k].c := by rw [boxL_succ b0 hlt, ← hbx]; unfold addT; rw [e0, e1]
                      refine ⟨_, _, ?_, ?_, (⟨k + 1, hlt⟩, vs7), (by omega : tq.length - (k + 1) < tq.length - k), rfl, rfl⟩
                      ·exact (by (iterate 58 refine ⟨fun _=>rfl,?_⟩); refine ⟨fun ρ => sint_kV (wrap_add1 (n := tq.length) hlt (by rw [← htn]; exact htr)) ρ, ?_⟩; exact stm _)
                      ·exact (by (iterate 12 refine ⟨⟨rfl,rfl,rfl, fun _=>rfl⟩, ?_⟩); refine ⟨⟨rfl,rfl,rfl, fun ρ => (show cellsL ρ (bxC (addP (bx) tq[k].c) ++ [.int L[j].total (L[j].ht)]) = cellsL ρ (bxC (boxL b0 (tq.take (k + 1))) ++ [.int L[j].total (L[j].ht)]) by rw [hfin])⟩, ?_⟩; exact trivial)
                   ·conv => whnf
                    refine bcase_intro (fun a2 => ?_) (fun a2 => ?_)
                    ·have a2 : eqQ tq[k].c (addP (bx) tq[k].b).lo = true := a2
                     have e2 : addP (addP (bx) tq[k].b) tq[k].c = addP (bx) tq[k].b := addP_lo (addP_le hbl tq[k].b) (eqQ_eq a2)
                     conv => whnf
                     refine ⟨[0,1,2,3,4,5,6,7,8,9,10,11,12], [5,6,7,8,9,56,57,58], [0,1,2,6,7], fun vs7 => ?_⟩
                     conv => whnf
                     refine ⟨cusC_pure CL, gusC_pure L, blC_pure CT, rwC_pure intR li, rwC_pure snR ls, ?_⟩
                     conv => whnf
                     have hfin : boxL b0 (tq.take (k + 1)) = addP (bx) tq[k].b := by rw [boxL_succ b0 hlt, ← hbx]; unfold addT; rw [e0, e2]
                     refine ⟨_, _, ?_, ?_, (⟨k + 1, hlt⟩, vs7), (by omega : tq.length - (k + 1) < tq.length - k), rfl, rfl⟩
                     ·exact (by (iterate 58 refine ⟨fun _=>rfl,?_⟩); refine ⟨fun ρ => sint_kV (wrap_add1 (n := tq.length) hlt (by rw [← htn]; exact htr)) ρ, ?_⟩; exact stm _)
                     ·exact (by (iterate 12 refine ⟨⟨rfl,rfl,rfl, fun _=>rfl⟩, ?_⟩); refine ⟨⟨rfl,rfl,rfl, fun ρ => (show cellsL ρ (bxC (addP (bx) tq[k].b) ++ [.int L[j].total (L[j].ht)]) = cellsL ρ (bxC (boxL b0 (tq.take (k + 1))) ++ [.int L[j].total (L[j].ht)]) by rw [hfin])⟩, ?_⟩; exact trivial)
                    ·conv => whnf
                     refine bcase_intro (fun c2 => ?_) (fun c2 => ?_)
                     ·have c2 : eqQ tq[k].c (addP (bx) tq[k].b).hi = true := c2
                      have e2 : addP (addP (bx) tq[k].b) tq[k].c = addP (bx) tq[k].b := addP_hi (addP_le hbl tq[k].b) (eqQ_eq c2)
                      conv => whnf
                      refine ⟨[0,1,2,3,4,5,6,7,8,9,10,11,12], [5,6,7,8,9,56,57,58], [0,1,2,6,7], fun vs7 => ?_⟩
                      conv => whnf
                      refine ⟨cusC_pure CL, gusC_pure L, blC_pure CT, rwC_pure intR li, rwC_pure snR ls, ?_⟩
                      conv => whnf
                      have hfin : boxL b0 (tq.take (k + 1)) = addP (bx) tq[k].b := by rw [boxL_succ b0 hlt, ← hbx]; unfold addT; rw [e0, e2]
                      refine ⟨_, _, ?_, ?_, (⟨k + 1, hlt⟩, vs7), (by omega : tq.length - (k + 1) < tq.length - k), rfl, rfl⟩
                      ·exact (by (iterate 58 refine ⟨fun _=>rfl,?_⟩); refine ⟨fun ρ => sint_kV (wrap_add1 (n := tq.length) hlt (by rw [← htn]; exact htr)) ρ, ?_⟩; exact stm _)
                      ·exact (by (iterate 12 refine ⟨⟨rfl,rfl,rfl, fun _=>rfl⟩, ?_⟩); refine ⟨⟨rfl,rfl,rfl, fun ρ => (show cellsL ρ (bxC (addP (bx) tq[k].b) ++ [.int L[j].total (L[j].ht)]) = cellsL ρ (bxC (boxL b0 (tq.take (k + 1))) ++ [.int L[j].total (L[j].ht)]) by rw [hfin])⟩, ?_⟩; exact trivial)
                     ·conv => whnf
                      refine ⟨[0,1,2,3,4,5,6,7,8,9,10,11,12], [5,6,7,8,9,56,57,58], [0,1,2,6,7], fun vs7 => ?_⟩
                      conv => whnf
                      refine ⟨cusC_pure CL, gusC_pure L, blC_pure CT, rwC_pure intR li, rwC_pure snR ls, ?_⟩
                      conv => whnf
                      have hfin : boxL b0 (tq.take (k + 1)) = addP (addP (bx) tq[k].b) tq[k].c := by rw [boxL_succ b0 hlt, ← hbx]; unfold addT; rw [e0]
                      refine ⟨_, _, ?_, ?_, (⟨k + 1, hlt⟩, vs7), (by omega : tq.length - (k + 1) < tq.length - k), rfl, rfl⟩
                      ·exact (by (iterate 58 refine ⟨fun _=>rfl,?_⟩); refine ⟨fun ρ => sint_kV (wrap_add1 (n := tq.length) hlt (by rw [← htn]; exact htr)) ρ, ?_⟩; exact stm _)
                      ·exact (by (iterate 12 refine ⟨⟨rfl,rfl,rfl, fun _=>rfl⟩, ?_⟩); refine ⟨⟨rfl,rfl,rfl, fun ρ => (show cellsL ρ (bxC (addP (addP (bx) tq[k].b) tq[k].c) ++ [.int L[j].total (L[j].ht)]) = cellsL ρ (bxC (boxL b0 (tq.take (k + 1))) ++ [.int L[j].total (L[j].ht)]) by rw [hfin])⟩, ?_⟩; exact trivial)
                 ·conv => whnf
                  refine bcase_intro (fun a1 => ?_) (fun a1 => ?_)
                  ·have a1 : eqQ tq[k].b (addP (bx) tq[k].a).lo = true := a1
                   have e1 : addP (addP (bx) tq[k].a) tq[k].b = addP (bx) tq[k].a := addP_lo (addP_le hbl tq[k].a) (eqQ_eq a1)
                   conv => whnf
                   refine bcase_intro (fun a2 => ?_) (fun a2 => ?_)
                   ·have a2 : eqQ tq[k].c (addP (bx) tq[k].a).lo = true := a2
                    have e2 : addP (addP (bx) tq[k].a) tq[k].c = addP (bx) tq[k].a := addP_lo (addP_le hbl tq[k].a) (eqQ_eq a2)
                    conv => whnf
                    refine ⟨[0,1,2,3,4,5,6,7,8,9,10,11,12], [5,6,7,8,9,56,57,58], [0,1,2,6,7], fun vs7 => ?_⟩
                    conv => whnf
                    refine ⟨cusC_pure CL, gusC_pure L, blC_pure CT, rwC_pure intR li, rwC_pure snR ls, ?_⟩
                    conv => whnf
                    have hfin : boxL b0 (tq.take (k + 1)) = addP (bx) tq[k].a := by rw [boxL_succ b0 hlt, ← hbx]; unfold addT; rw [e1, e2]
                    refine ⟨_, _, ?_, ?_, (⟨k + 1, hlt⟩, vs7), (by omega : tq.length - (k + 1) < tq.length - k), rfl, rfl⟩
                    ·exact (by (iterate 58 refine ⟨fun _=>rfl,?_⟩); refine ⟨fun ρ => sint_kV (wrap_add1 (n := tq.length) hlt (by rw [← htn]; exact htr)) ρ, ?_⟩; exact stm _)
                    ·exact (by (iterate 12 refine ⟨⟨rfl,rfl,rfl, fun _=>rfl⟩, ?_⟩); refine ⟨⟨rfl,rfl,rfl, fun ρ => (show cellsL ρ (bxC (addP (bx) tq[k].a) ++ [.int L[j].total (L[j].ht)]) = cellsL ρ (bxC (boxL b0 (tq.take (k + 1))) ++ [.int L[j].total (L[j].ht)]) by rw [hfin])⟩, ?_⟩; exact trivial)
                   ·conv => whnf
                    refine bcase_intro (fun c2 => ?_) (fun c2 => ?_)
                    ·have c2 : eqQ tq[k].c (addP (bx) tq[k].a).hi = true := c2
                     have e2 : addP (addP (bx) tq[k].a) tq[k].c = addP (bx) tq[k].a := addP_hi (addP_le hbl tq[k].a) (eqQ_eq c2)
                     conv => whnf
                     refine ⟨[0,1,2,3,4,5,6,7,8,9,10,11,12], [5,6,7,8,9,56,57,58], [0,1,2,6,7], fun vs7 => ?_⟩
                     conv => whnf
                     refine ⟨cusC_pure CL, gusC_pure L, blC_pure CT, rwC_pure intR li, rwC_pure snR ls, ?_⟩
                     conv => whnf
                     have hfin : boxL b0 (tq.take (k + 1)) = addP (bx) tq[k].a := by rw [boxL_succ b0 hlt, ← hbx]; unfold addT; rw [e1, e2]
                     refine ⟨_, _, ?_, ?_, (⟨k + 1, hlt⟩, vs7), (by omega : tq.length - (k + 1) < tq.length - k), rfl, rfl⟩
                     ·exact (by (iterate 58 refine ⟨fun _=>rfl,?_⟩); refine ⟨fun ρ => sint_kV (wrap_add1 (n := tq.length) hlt (by rw [← htn]; exact htr)) ρ, ?_⟩; exact stm _)
                     ·exact (by (iterate 12 refine ⟨⟨rfl,rfl,rfl, fun _=>rfl⟩, ?_⟩); refine ⟨⟨rfl,rfl,rfl, fun ρ => (show cellsL ρ (bxC (addP (bx) tq[k].a) ++ [.int L[j].total (L[j].ht)]) = cellsL ρ (bxC (boxL b0 (tq.take (k + 1))) ++ [.int L[j].total (L[j].ht)]) by rw [hfin])⟩, ?_⟩; exact trivial)
                    ·conv => whnf
                     refine ⟨[0,1,2,3,4,5,6,7,8,9,10,11,12], [5,6,7,8,9,56,57,58], [0,1,2,6,7], fun vs7 => ?_⟩
                     conv => whnf
                     refine ⟨cusC_pure CL, gusC_pure L, blC_pure CT, rwC_pure intR li, rwC_pure snR ls, ?_⟩
                     conv => whnf
                     have hfin : boxL b0 (tq.take (k + 1)) = addP (addP (bx) tq[k].a) tq[k].c := by rw [boxL_succ b0 hlt, ← hbx]; unfold addT; rw [e1]
                     refine ⟨_, _, ?_, ?_, (⟨k + 1, hlt⟩, vs7), (by omega : tq.length - (k + 1) < tq.length - k), rfl, rfl⟩
                     ·exact (by (iterate 58 refine ⟨fun _=>rfl,?_⟩); refine ⟨fun ρ => sint_kV (wrap_add1 (n := tq.length) hlt (by rw [← htn]; exact htr)) ρ, ?_⟩; exact stm _)
                     ·exact (by (iterate 12 refine ⟨⟨rfl,rfl,rfl, fun _=>rfl⟩, ?_⟩); refine ⟨⟨rfl,rfl,rfl, fun ρ => (show cellsL ρ (bxC (addP (addP (bx) tq[k].a) tq[k].c) ++ [.int L[j].total (L[j].ht)]) = cellsL ρ (bxC (boxL b0 (tq.take (k + 1))) ++ [.int L[j].total (L[j].ht)]) by rw [hfin])⟩, ?_⟩; exact trivial)
                  ·conv => whnf
                   refine bcase_intro (fun c1 => ?_) (fun c1 => ?_)
                   ·have c1 : eqQ tq[k].b (addP (bx) tq[k].a).hi = true := c1
                    have e1 : addP (addP (bx) tq[k].a) tq[k].b = addP (bx) tq[k].a := addP_hi (addP_le hbl tq[k].a) (eqQ_eq c1)
                    conv => whnf
                    refine bcase_intro (fun a2 => ?_) (fun a2 => ?_)
                    ·have a2 : eqQ tq[k].c (addP (bx) tq[k].a).lo = true := a2
                     have e2 : addP (addP (bx) tq[k].a) tq[k].c = addP (bx) tq[k].a := addP_lo (addP_le hbl tq[k].a) (eqQ_eq a2)
                     conv => whnf
                     refine ⟨[0,1,2,3,4,5,6,7,8,9,10,11,12], [5,6,7,8,9,56,57,58], [0,1,2,6,7], fun vs7 => ?_⟩
                     conv => whnf
                     refine ⟨cusC_pure CL, gusC_pure L, blC_pure CT, rwC_pure intR li, rwC_pure snR ls, ?_⟩
                     conv => whnf
                     have hfin : boxL b0 (tq.take (k + 1)) = addP (bx) tq[k].a := by rw [boxL_succ b0 hlt, ← hbx]; unfold addT; rw [e1, e2]
                     refine ⟨_, _, ?_, ?_, (⟨k + 1, hlt⟩, vs7), (by omega : tq.length - (k + 1) < tq.length - k), rfl, rfl⟩
                     ·exact (by (iterate 58 refine ⟨fun _=>rfl,?_⟩); refine ⟨fun ρ => sint_kV (wrap_add1 (n := tq.length) hlt (by rw [← htn]; exact htr)) ρ, ?_⟩; exact stm _)
                     ·exact (by (iterate 12 refine ⟨⟨rfl,rfl,rfl, fun _=>rfl⟩, ?_⟩); refine ⟨⟨rfl,rfl,rfl, fun ρ => (show cellsL ρ (bxC (addP (bx) tq[k].a) ++ [.int L[j].total (L[j].ht)]) = cellsL ρ (bxC (boxL b0 (tq.take (k + 1))) ++ [.int L[j].total (L[j].ht)]) by rw [hfin])⟩, ?_⟩; exact trivial)
                    ·conv => whnf
                     refine bcase_intro (fun c2 => ?_) (fun c2 => ?_)
                     ·have c2 : eqQ tq[k].c (addP (bx) tq[k].a).hi = true := c2
                      have e2 : addP (addP (bx) tq[k].a) tq[k].c = addP (bx) tq[k].a := addP_hi (addP_le hbl tq[k].a) (eqQ_eq c2)
                      conv => whnf
                      refine ⟨[0,1,2,3,4,5,6,7,8,9,10,11,12], [5,6,7,8,9,56,57,58], [0,1,2,6,7], fun vs7 => ?_⟩
                      conv => whnf
                      refine ⟨cusC_pure CL, gusC_pure L, blC_pure CT, rwC_pure intR li, rwC_pure snR ls, ?_⟩
                      conv => whnf
                      have hfin : boxL b0 (tq.take (k + 1)) = addP (bx) tq[k].a := by rw [boxL_succ b0 hlt, ← hbx]; unfold addT; rw [e1, e2]
                      refine ⟨_, _, ?_, ?_, (⟨k + 1, hlt⟩, vs7), (by omega : tq.length - (k + 1) < tq.length - k), rfl, rfl⟩
                      ·exact (by (iterate 58 refine ⟨fun _=>rfl,?_⟩); refine ⟨fun ρ => sint_kV (wrap_add1 (n := tq.length) hlt (by rw [← htn]; exact htr)) ρ, ?_⟩; exact stm _)
                      ·exact (by (iterate 12 refine ⟨⟨rfl,rfl,rfl, fun _=>rfl⟩, ?_⟩); refine ⟨⟨rfl,rfl,rfl, fun ρ => (show cellsL ρ (bxC (addP (bx) tq[k].a) ++ [.int L[j].total (L[j].ht)]) = cellsL ρ (bxC (boxL b0 (tq.take (k + 1))) ++ [.int L[j].total (L[j].ht)]) by rw [hfin])⟩, ?_⟩; exact trivial)
                     ·conv => whnf
                      refine ⟨[0,1,2,3,4,5,6,7,8,9,10,11,12], [5,6,7,8,9,56,57,58], [0,1,2,6,7], fun vs7 => ?_⟩
                      conv => whnf
                      refine ⟨cusC_pure CL, gusC_pure L, blC_pure CT, rwC_pure intR li, rwC_pure snR ls, ?_⟩
                      conv => whnf
                      have hfin : boxL b0 (tq.take (k + 1)) = addP (addP (bx) tq[k].a) tq[k].c := by rw [boxL_succ b0 hlt, ← hbx]; unfold addT; rw [e1]
                      refine ⟨_, _, ?_, ?_, (⟨k + 1, hlt⟩, vs7), (by omega : tq.length - (k + 1) < tq.length - k), rfl, rfl⟩
                      ·exact (by (iterate 58 refine ⟨fun _=>rfl,?_⟩); refine ⟨fun ρ => sint_kV (wrap_add1 (n := tq.length) hlt (by rw [← htn]; exact htr)) ρ, ?_⟩; exact stm _)
                      ·exact (by (iterate 12 refine ⟨⟨rfl,rfl,rfl, fun _=>rfl⟩, ?_⟩); refine ⟨⟨rfl,rfl,rfl, fun ρ => (show cellsL ρ (bxC (addP (addP (bx) tq[k].a) tq[k].c) ++ [.int L[j].total (L[j].ht)]) = cellsL ρ (bxC (boxL b0 (tq.take (k + 1))) ++ [.int L[j].total (L[j].ht)]) by rw [hfin])⟩, ?_⟩; exact trivial)
                   ·conv => whnf
                    refine bcase_intro (fun a2 => ?_) (fun a2 => ?_)
                    ·have a2 : eqQ tq[k].c (addP (addP (bx) tq[k].a) tq[k].b).lo = true := a2
                     have e2 : addP (addP (addP (bx) tq[k].a) tq[k].b) tq[k].c = addP (addP (bx) tq[k].a) tq[k].b := addP_lo (addP_le (addP_le hbl tq[k].a) tq[k].b) (eqQ_eq a2)
                     conv => whnf
                     refine ⟨[0,1,2,3,4,5,6,7,8,9,10,11,12], [5,6,7,8,9,56,57,58], [0,1,2,6,7], fun vs7 => ?_⟩
                     conv => whnf
                     refine ⟨cusC_pure CL, gusC_pure L, blC_pure CT, rwC_pure intR li, rwC_pure snR ls, ?_⟩
                     conv => whnf
                     have hfin : boxL b0 (tq.take (k + 1)) = addP (addP (bx) tq[k].a) tq[k].b := by rw [boxL_succ b0 hlt, ← hbx]; unfold addT; rw [e2]
                     refine ⟨_, _, ?_, ?_, (⟨k + 1, hlt⟩, vs7), (by omega : tq.length - (k + 1) < tq.length - k), rfl, rfl⟩
                     ·exact (by (iterate 58 refine ⟨fun _=>rfl,?_⟩); refine ⟨fun ρ => sint_kV (wrap_add1 (n := tq.length) hlt (by rw [← htn]; exact htr)) ρ, ?_⟩; exact stm _)
                     ·exact (by (iterate 12 refine ⟨⟨rfl,rfl,rfl, fun _=>rfl⟩, ?_⟩); refine ⟨⟨rfl,rfl,rfl, fun ρ => (show cellsL ρ (bxC (addP (addP (bx) tq[k].a) tq[k].b) ++ [.int L[j].total (L[j].ht)]) = cellsL ρ (bxC (boxL b0 (tq.take (k + 1))) ++ [.int L[j].total (L[j].ht)]) by rw [hfin])⟩, ?_⟩; exact trivial)
                    ·conv => whnf
                     refine bcase_intro (fun c2 => ?_) (fun c2 => ?_)
                     ·have c2 : eqQ tq[k].c (addP (addP (bx) tq[k].a) tq[k].b).hi = true := c2
                      have e2 : addP (addP (addP (bx) tq[k].a) tq[k].b) tq[k].c = addP (addP (bx) tq[k].a) tq[k].b := addP_hi (addP_le (addP_le hbl tq[k].a) tq[k].b) (eqQ_eq c2)
                      conv => whnf
                      refine ⟨[0,1,2,3,4,5,6,7,8,9,10,11,12], [5,6,7,8,9,56,57,58], [0,1,2,6,7], fun vs7 => ?_⟩
                      conv => whnf
                      refine ⟨cusC_pure CL, gusC_pure L, blC_pure CT, rwC_pure intR li, rwC_pure snR ls, ?_⟩
                      conv => whnf
                      have hfin : boxL b0 (tq.take (k + 1)) = addP (addP (bx) tq[k].a) tq[k].b := by rw [boxL_succ b0 hlt, ← hbx]; unfold addT; rw [e2]
                      refine ⟨_, _, ?_, ?_, (⟨k + 1, hlt⟩, vs7), (by omega : tq.length - (k + 1) < tq.length - k), rfl, rfl⟩
                      ·exact (by (iterate 58 refine ⟨fun _=>rfl,?_⟩); refine ⟨fun ρ => sint_kV (wrap_add1 (n := tq.length) hlt (by rw [← htn]; exact htr)) ρ, ?_⟩; exact stm _)
                      ·exact (by (iterate 12 refine ⟨⟨rfl,rfl,rfl, fun _=>rfl⟩, ?_⟩); refine ⟨⟨rfl,rfl,rfl, fun ρ => (show cellsL ρ (bxC (addP (addP (bx) tq[k].a) tq[k].b) ++ [.int L[j].total (L[j].ht)]) = cellsL ρ (bxC (boxL b0 (tq.take (k + 1))) ++ [.int L[j].total (L[j].ht)]) by rw [hfin])⟩, ?_⟩; exact trivial)
                     ·conv => whnf
                      refine ⟨[0,1,2,3,4,5,6,7,8,9,10,11,12], [5,6,7,8,9,56,57,58], [0,1,2,6,7], fun vs7 => ?_⟩
                      conv => whnf
                      refine ⟨cusC_pure CL, gusC_pure L, blC_pure CT, rwC_pure intR li, rwC_pure snR ls, ?_⟩
                      conv => whnf
                      have hfin : boxL b0 (tq.take (k + 1)) = addP (addP (addP (bx) tq[k].a) tq[k].b) tq[k].c := by rw [boxL_succ b0 hlt, ← hbx]; rfl
                      refine ⟨_, _, ?_, ?_, (⟨k + 1, hlt⟩, vs7), (by omega : tq.length - (k + 1) < tq.length - k), rfl, rfl⟩
                      ·exact (by (iterate 58 refine ⟨fun _=>rfl,?_⟩); refine ⟨fun ρ => sint_kV (wrap_add1 (n := tq.length) hlt (by rw [← htn]; exact htr)) ρ, ?_⟩; exact stm _)
                      ·exact (by (iterate 12 refine ⟨⟨rfl,rfl,rfl, fun _=>rfl⟩, ?_⟩); refine ⟨⟨rfl,rfl,rfl, fun ρ => (show cellsL ρ (bxC (addP (addP (addP (bx) tq[k].a) tq[k].b) tq[k].c) ++ [.int L[j].total (L[j].ht)]) = cellsL ρ (bxC (boxL b0 (tq.take (k + 1))) ++ [.int L[j].total (L[j].ht)]) by rw [hfin])⟩, ?_⟩; exact trivial)
               ·have hge : tq.length ≤ k := by rw [← htn]; exact n_ge hlt
                obtain rfl : k = tq.length := Nat.le_antisymm hk hge
                rw [List.take_length] at hbx
                rw [← hbx] at hK
                conv => whnf
                exact hK _ _ _
 ·have hm : ¬ 0 ≤ CL[i].made := of_decide_eq_false hm
  conv => whnf
  conv =>
   arg 2
   tactic' =>
    apply eff_len_val (hi := htr) (ho := ?how43) (hc := ?hcw43) (ha := ?haw43) (ht := ?htw43) (hT := ?hTw43) (hx := ?hxw43)
    case how43 => rfl
    case hcw43 => rfl
    case haw43 => rfl
    case htw43 => rfl
    case hTw43 => rfl
    case hxw43 => rfl
  conv => whnf
  refine bcase_intro (fun hz => ?_) (fun hz => ?_)
  ·have hz : CL[i].s.n = 0 := by have := of_decide_eq_true hz; omega
   have hnil : CL[i].tl = [] := List.eq_nil_of_length_eq_zero (by omega)
   rw [seen_nil (tot_no hm) hnil] at hK
   conv => whnf
   exact hK _ _ _
  ·have hz : ¬ CL[i].s.n = 0 := by intro h; have := of_decide_eq_false hz; rw [h] at this; exact this rfl
   obtain ⟨tl, htl⟩ : ∃ tl, CL[i].tl = tl := ⟨_, rfl⟩
   rw [htl] at htn htf
   cases tl with
   | nil => exact absurd htn hz
   | cons t0 tl =>
    obtain ⟨r, w, ha, hfm⟩ : ∃ r w, CL[i].s.a = some ⟨r, w, none⟩ ∧ InF fam (r, w) (trsC (t0 :: tl)) := htf.resolve_left fun e => by cases e
    rw [seen_cons (tot_no hm) htl] at hK
    have hS : SV.c CL[i].s.v = SV.c (.val (.slice (some ⟨r, w, none⟩) CL[i].s.n CL[i].s.c)) := by show SV.c (.val (.slice CL[i].s.a _ _)) = _; rw [ha]
    have hn0 : 0 < CL[i].s.n := by omega
    have h4 : partC true (trsC (t0 :: tl)) 0 3 = some (.agg [.int t0.a.x t0.a.hx, .int t0.a.y t0.a.hy, .int t0.a.z t0.a.hz]) ∧ ∀ ρ ρ' : Rho, SV.den ρ (.agg [.int t0.a.x t0.a.hx, .int t0.a.y t0.a.hy, .int t0.a.z t0.a.hz]) = SV.den ρ' (.agg [.int t0.a.x t0.a.hx, .int t0.a.y t0.a.hy, .int t0.a.z t0.a.hz]) := ⟨rfl, fun _ _=>rfl⟩
    conv => whnf
    refine imp_via (Z := ?Z12_0 ∧ ?Z12_1 ∧ ?Z12_2 ∧ ?Z12_3) (fun hmg => ?cur12) ?nxt12
    case cur12 =>
     refine ⟨?_, ?_, ?_, ?_, trivial⟩
     ·conv => whnf
      exact hmg.1
     ·conv => whnf
      exact hmg.2.1
     ·conv => whnf
      exact hmg.2.2.1
     ·conv => whnf
      exact hmg.2.2.2
    case nxt12 =>
     refine imp_via (Z := ?Z13_0 ∧ ?Z13_1 ∧ ?Z13_2 ∧ ?Z13_3 ∧ ?Z13_4 ∧ ?Z13_5 ∧ ?Z13_6 ∧ ?Z13_7) (fun hmg => ?cur13) ?nxt13
     case cur13 =>
      refine ⟨?_, ?_, ?_, ?_⟩
      ·refine ⟨?_, ?_, ?_, ?_, trivial⟩
       ·conv => whnf
        refine .inr ⟨r, w, _, _, 0, hS, rfl, hn0, ?_⟩
        conv => whnf
        exact hmg.1
       ·conv => whnf
        exact hmg.2.1
       ·conv => whnf
        exact hmg.2.2.1
       ·conv => whnf
        exact hmg.2.2.2.1
      ·refine ⟨?_, ?_, ?_, ?_, trivial⟩
       ·conv => whnf
        exact hmg.2.1
       ·conv => whnf
        refine .inr ⟨r, w, _, _, 0, hS, rfl, hn0, ?_⟩
        conv => whnf
        exact hmg.2.2.2.2.1
       ·conv => whnf
        exact hmg.2.2.2.2.2.1
       ·conv => whnf
        exact hmg.2.2.2.2.2.2.1
      ·refine ⟨?_, ?_, ?_, trivial⟩
       ·conv => whnf
        exact hmg.2.2.1
       ·conv => whnf
        exact hmg.2.2.2.2.2.1
       ·conv => whnf
        exact hmg.2.2.2.2.2.2.2
      ·refine ⟨?_, ?_, ?_, trivial⟩
       ·conv => whnf
        exact hmg.2.2.2.1
       ·conv => whnf
        exact hmg.2.2.2.2.2.2.1
       ·conv => whnf
        exact hmg.2.2.2.2.2.2.2
     case nxt13 =>
      refine imp_via (Z := ?Z14_0 ∧ ?Z14_1 ∧ ?Z14_2 ∧ ?Z14_3 ∧ ?Z14_4 ∧ ?Z14_5 ∧ ?Z14_6 ∧ ?Z14_7 ∧ ?Z14_8 ∧ ?Z14_9 ∧ ?Z14_10 ∧ ?Z14_11) (fun hmg => ?cur14) ?nxt14
      case cur14 =>
       refine ⟨?_, ?_, ?_, ?_, ?_, ?_, ?_, ?_⟩
       ·refine ⟨?_, ?_, ?_, ?_, trivial⟩
        ·conv => whnf
         refine .inr ⟨r, w, 0, rfl,rfl,by decide, ?_⟩
         conv => whnf
         exact hmg.1
        ·conv => whnf
         exact hmg.2.1
        ·conv => whnf
         exact hmg.2.2.1
        ·conv => whnf
         exact hmg.2.2.2.1
       ·refine ⟨?_, ?_, ?_, ?_, trivial⟩
        ·conv => whnf
         refine .inr ⟨r, w, _, _, 0, hS, rfl, hn0, ?_⟩
         conv => whnf
         exact hmg.2.1
        ·conv => whnf
         refine .inr ⟨r, w, _, _, 0, hS, rfl, hn0, ?_⟩
         conv => whnf
         exact hmg.2.2.2.2.1
        ·conv => whnf
         exact hmg.2.2.2.2.2.1
        ·conv => whnf
         exact hmg.2.2.2.2.2.2.1
       ·refine ⟨?_, ?_, ?_, trivial⟩
        ·conv => whnf
         refine .inr ⟨r, w, _, _, 0, hS, rfl, hn0, ?_⟩
         conv => whnf
         exact hmg.2.2.1
        ·conv => whnf
         exact hmg.2.2.2.2.2.1
        ·conv => whnf
         exact hmg.2.2.2.2.2.2.2.1
       ·refine ⟨?_, ?_, ?_, trivial⟩
        ·conv => whnf
         refine .inr ⟨r, w, _, _, 0, hS, rfl, hn0, ?_⟩
         conv => whnf
         exact hmg.2.2.2.1
        ·conv => whnf
         exact hmg.2.2.2.2.2.2.1
        ·conv => whnf
         exact hmg.2.2.2.2.2.2.2.1
       ·refine ⟨?_, ?_, ?_, ?_, trivial⟩
        ·conv => whnf
         exact hmg.2.2.2.2.1
        ·conv => whnf
         refine .inr ⟨r, w, 0, rfl,rfl,by decide, ?_⟩
         conv => whnf
         exact hmg.2.2.2.2.2.2.2.2.1
        ·conv => whnf
         exact hmg.2.2.2.2.2.2.2.2.2.1
        ·conv => whnf
         exact hmg.2.2.2.2.2.2.2.2.2.2.1
       ·refine ⟨?_, ?_, ?_, trivial⟩
        ·conv => whnf
         exact hmg.2.2.2.2.2.1
        ·conv => whnf
         refine .inr ⟨r, w, _, _, 0, hS, rfl, hn0, ?_⟩
         conv => whnf
         exact hmg.2.2.2.2.2.2.2.2.2.1
        ·conv => whnf
         exact hmg.2.2.2.2.2.2.2.2.2.2.2
       ·refine ⟨?_, ?_, ?_, trivial⟩
        ·conv => whnf
         exact hmg.2.2.2.2.2.2.1
        ·conv => whnf
         refine .inr ⟨r, w, _, _, 0, hS, rfl, hn0, ?_⟩
         conv => whnf
         exact hmg.2.2.2.2.2.2.2.2.2.2.1
        ·conv => whnf
         exact hmg.2.2.2.2.2.2.2.2.2.2.2
       ·refine ⟨?_, ?_, trivial⟩
        ·conv => whnf
         exact hmg.2.2.2.2.2.2.2.1
        ·conv => whnf
         exact hmg.2.2.2.2.2.2.2.2.2.2.2
      case nxt14 =>
       refine imp_via (Z := ?Z15_0 ∧ ?Z15_1 ∧ ?Z15_2 ∧ ?Z15_3 ∧ ?Z15_4 ∧ ?Z15_5 ∧ ?Z15_6 ∧ ?Z15_7 ∧ ?Z15_8 ∧ ?Z15_9 ∧ ?Z15_10 ∧ ?Z15_11 ∧ ?Z15_12 ∧ ?Z15_13 ∧ ?Z15_14 ∧ ?Z15_15) (fun hmg => ?cur15) ?nxt15
       case cur15 =>
        refine ⟨?_, ?_, ?_, ?_, ?_, ?_, ?_, ?_, ?_, ?_, ?_, ?_⟩
        ·refine ⟨?_, ?_, ?_, ?_, trivial⟩
         ·conv => whnf
          refine .inr ⟨r, w, 0, 3, _, _, rfl, ⟨_, _, _, rfl,rfl,hfm⟩, h4, ?_⟩
          conv => whnf
          exact hmg.1
         ·conv => whnf
          exact hmg.2.1
         ·conv => whnf
          exact hmg.2.2.1
         ·conv => whnf
          exact hmg.2.2.2.1
        ·refine ⟨?_, ?_, ?_, ?_, trivial⟩
         ·conv => whnf
          refine .inr ⟨r, w, 0, rfl,rfl,by decide, ?_⟩
          conv => whnf
          exact hmg.2.1
         ·conv => whnf
          refine .inr ⟨r, w, _, _, 0, hS, rfl, hn0, ?_⟩
          conv => whnf
          exact hmg.2.2.2.2.1
         ·conv => whnf
          exact hmg.2.2.2.2.2.1
         ·conv => whnf
          exact hmg.2.2.2.2.2.2.1
        ·refine ⟨?_, ?_, ?_, trivial⟩
         ·conv => whnf
          refine .inr ⟨r, w, 0, rfl,rfl,by decide, ?_⟩
          conv => whnf
          exact hmg.2.2.1
         ·conv => whnf
          exact hmg.2.2.2.2.2.1
         ·conv => whnf
          exact hmg.2.2.2.2.2.2.2.1
        ·refine ⟨?_, ?_, ?_, trivial⟩
         ·conv => whnf
          refine .inr ⟨r, w, 0, rfl,rfl,by decide, ?_⟩
          conv => whnf
          exact hmg.2.2.2.1
         ·conv => whnf
          exact hmg.2.2.2.2.2.2.1
         ·conv => whnf
          exact hmg.2.2.2.2.2.2.2.1
        ·refine ⟨?_, ?_, ?_, ?_, trivial⟩
         ·conv => whnf
          refine .inr ⟨r, w, _, _, 0, hS, rfl, hn0, ?_⟩
          conv => whnf
          exact hmg.2.2.2.2.1
         ·conv => whnf
          refine .inr ⟨r, w, 0, rfl,rfl,by decide, ?_⟩
          conv => whnf
          exact hmg.2.2.2.2.2.2.2.2.1
         ·conv => whnf
          exact hmg.2.2.2.2.2.2.2.2.2.1
         ·conv => whnf
          exact hmg.2.2.2.2.2.2.2.2.2.2.1
        ·refine ⟨?_, ?_, ?_, trivial⟩
         ·conv => whnf
          refine .inr ⟨r, w, _, _, 0, hS, rfl, hn0, ?_⟩
          conv => whnf
          exact hmg.2.2.2.2.2.1
         ·conv => whnf
          refine .inr ⟨r, w, _, _, 0, hS, rfl, hn0, ?_⟩
          conv => whnf
          exact hmg.2.2.2.2.2.2.2.2.2.1
         ·conv => whnf
          exact hmg.2.2.2.2.2.2.2.2.2.2.2.1
        ·refine ⟨?_, ?_, ?_, trivial⟩
         ·conv => whnf
          refine .inr ⟨r, w, _, _, 0, hS, rfl, hn0, ?_⟩
          conv => whnf
          exact hmg.2.2.2.2.2.2.1
         ·conv => whnf
          refine .inr ⟨r, w, _, _, 0, hS, rfl, hn0, ?_⟩
          conv => whnf
          exact hmg.2.2.2.2.2.2.2.2.2.2.1
         ·conv => whnf
          exact hmg.2.2.2.2.2.2.2.2.2.2.2.1
        ·refine ⟨?_, ?_, trivial⟩
         ·conv => whnf
          refine .inr ⟨r, w, _, _, 0, hS, rfl, hn0, ?_⟩
          conv => whnf
          exact hmg.2.2.2.2.2.2.2.1
         ·conv => whnf
          exact hmg.2.2.2.2.2.2.2.2.2.2.2.1
        ·refine ⟨?_, ?_, ?_, ?_, trivial⟩
         ·conv => whnf
          exact hmg.2.2.2.2.2.2.2.2.1
         ·conv => whnf
          refine .inr ⟨r, w, 0, 3, _, _, rfl, ⟨_, _, _, rfl,rfl,hfm⟩, h4, ?_⟩
          conv => whnf
          exact hmg.2.2.2.2.2.2.2.2.2.2.2.2.1
         ·conv => whnf
          exact hmg.2.2.2.2.2.2.2.2.2.2.2.2.2.1
         ·conv => whnf
          exact hmg.2.2.2.2.2.2.2.2.2.2.2.2.2.2.1
        ·refine ⟨?_, ?_, ?_, trivial⟩
         ·conv => whnf
          exact hmg.2.2.2.2.2.2.2.2.2.1
         ·conv => whnf
          refine .inr ⟨r, w, 0, rfl,rfl,by decide, ?_⟩
          conv => whnf
          exact hmg.2.2.2.2.2.2.2.2.2.2.2.2.2.1
         ·conv => whnf
          exact hmg.2.2.2.2.2.2.2.2.2.2.2.2.2.2.2
        ·refine ⟨?_, ?_, ?_, trivial⟩
         ·conv => whnf
          exact hmg.2.2.2.2.2.2.2.2.2.2.1
         ·conv => whnf
          refine .inr ⟨r, w, 0, rfl,rfl,by decide, ?_⟩
          conv => whnf
          exact hmg.2.2.2.2.2.2.2.2.2.2.2.2.2.2.1
         ·conv => whnf
          exact hmg.2.2.2.2.2.2.2.2.2.2.2.2.2.2.2
        ·refine ⟨?_, ?_, trivial⟩
         ·conv => whnf
          exact hmg.2.2.2.2.2.2.2.2.2.2.2.1
         ·conv => whnf
          refine .inr ⟨r, w, _, _, 0, hS, rfl, hn0, ?_⟩
          conv => whnf
          exact hmg.2.2.2.2.2.2.2.2.2.2.2.2.2.2.2
       case nxt15 =>
        refine imp_via (Z := ?Z16_0 ∧ ?Z16_1 ∧ ?Z16_2 ∧ ?Z16_3 ∧ ?Z16_4 ∧ ?Z16_5 ∧ ?Z16_6 ∧ ?Z16_7 ∧ ?Z16_8 ∧ ?Z16_9 ∧ ?Z16_10 ∧ ?Z16_11 ∧ ?Z16_12 ∧ ?Z16_13 ∧ ?Z16_14 ∧ ?Z16_15 ∧ ?Z16_16 ∧ ?Z16_17) (fun hmg => ?cur16) ?nxt16
        case cur16 =>
         refine ⟨?_, ?_, ?_, ?_, ?_, ?_, ?_, ?_, ?_, ?_, ?_, ?_, ?_, ?_, ?_, ?_⟩
         ·refine ⟨?_, ?_, ?_, trivial⟩
          ·conv => whnf
           exact hmg.1
          ·conv => whnf
           exact hmg.2.1
          ·conv => whnf
           exact hmg.2.2.1
         ·refine ⟨?_, ?_, ?_, ?_, trivial⟩
          ·conv => whnf
           refine .inr ⟨r, w, 0, 3, _, _, rfl, ⟨_, _, _, rfl,rfl,hfm⟩, h4, ?_⟩
           conv => whnf
           exact hmg.1
          ·conv => whnf
           refine .inr ⟨r, w, _, _, 0, hS, rfl, hn0, ?_⟩
           conv => whnf
           exact hmg.2.2.2.1
          ·conv => whnf
           exact hmg.2.2.2.2.1
          ·conv => whnf
           exact hmg.2.2.2.2.2.1
         ·refine ⟨?_, ?_, ?_, trivial⟩
          ·conv => whnf
           refine .inr ⟨r, w, 0, 3, _, _, rfl, ⟨_, _, _, rfl,rfl,hfm⟩, h4, ?_⟩
           conv => whnf
           exact hmg.2.1
          ·conv => whnf
           exact hmg.2.2.2.2.1
          ·conv => whnf
           exact hmg.2.2.2.2.2.2.1
         ·refine ⟨?_, ?_, ?_, trivial⟩
          ·conv => whnf
           refine .inr ⟨r, w, 0, 3, _, _, rfl, ⟨_, _, _, rfl,rfl,hfm⟩, h4, ?_⟩
           conv => whnf
           exact hmg.2.2.1
          ·conv => whnf
           exact hmg.2.2.2.2.2.1
          ·conv => whnf
           exact hmg.2.2.2.2.2.2.1
         ·refine ⟨?_, ?_, ?_, ?_, trivial⟩
          ·conv => whnf
           refine .inr ⟨r, w, 0, rfl,rfl,by decide, ?_⟩
           conv => whnf
           exact hmg.2.2.2.1
          ·conv => whnf
           refine .inr ⟨r, w, 0, rfl,rfl,by decide, ?_⟩
           conv => whnf
           exact hmg.2.2.2.2.2.2.2.1
          ·conv => whnf
           exact hmg.2.2.2.2.2.2.2.2.1
          ·conv => whnf
           exact hmg.2.2.2.2.2.2.2.2.2.1
         ·refine ⟨?_, ?_, ?_, trivial⟩
          ·conv => whnf
           refine .inr ⟨r, w, 0, rfl,rfl,by decide, ?_⟩
           conv => whnf
           exact hmg.2.2.2.2.1
          ·conv => whnf
           refine .inr ⟨r, w, _, _, 0, hS, rfl, hn0, ?_⟩
           conv => whnf
           exact hmg.2.2.2.2.2.2.2.2.1
          ·conv => whnf
           exact hmg.2.2.2.2.2.2.2.2.2.2.1
         ·refine ⟨?_, ?_, ?_, trivial⟩
          ·conv => whnf
           refine .inr ⟨r, w, 0, rfl,rfl,by decide, ?_⟩
           conv => whnf
           exact hmg.2.2.2.2.2.1
          ·conv => whnf
           refine .inr ⟨r, w, _, _, 0, hS, rfl, hn0, ?_⟩
           conv => whnf
           exact hmg.2.2.2.2.2.2.2.2.2.1
          ·conv => whnf
           exact hmg.2.2.2.2.2.2.2.2.2.2.1
         ·refine ⟨?_, ?_, trivial⟩
          ·conv => whnf
           refine .inr ⟨r, w, 0, rfl,rfl,by decide, ?_⟩
           conv => whnf
           exact hmg.2.2.2.2.2.2.1
          ·conv => whnf
           exact hmg.2.2.2.2.2.2.2.2.2.2.1
         ·refine ⟨?_, ?_, ?_, ?_, trivial⟩
          ·conv => whnf
           refine .inr ⟨r, w, _, _, 0, hS, rfl, hn0, ?_⟩
           conv => whnf
           exact hmg.2.2.2.2.2.2.2.1
          ·conv => whnf
           refine .inr ⟨r, w, 0, 3, _, _, rfl, ⟨_, _, _, rfl,rfl,hfm⟩, h4, ?_⟩
           conv => whnf
           exact hmg.2.2.2.2.2.2.2.2.2.2.2.1
          ·conv => whnf
           exact hmg.2.2.2.2.2.2.2.2.2.2.2.2.1
          ·conv => whnf
           exact hmg.2.2.2.2.2.2.2.2.2.2.2.2.2.1
         ·refine ⟨?_, ?_, ?_, trivial⟩
          ·conv => whnf
           refine .inr ⟨r, w, _, _, 0, hS, rfl, hn0, ?_⟩
           conv => whnf
           exact hmg.2.2.2.2.2.2.2.2.1
          ·conv => whnf
           refine .inr ⟨r, w, 0, rfl,rfl,by decide, ?_⟩
           conv => whnf
           exact hmg.2.2.2.2.2.2.2.2.2.2.2.2.1
          ·conv => whnf
           exact hmg.2.2.2.2.2.2.2.2.2.2.2.2.2.2.1
         ·refine ⟨?_, ?_, ?_, trivial⟩
          ·conv => whnf
           refine .inr ⟨r, w, _, _, 0, hS, rfl, hn0, ?_⟩
           conv => whnf
           exact hmg.2.2.2.2.2.2.2.2.2.1
          ·conv => whnf
           refine .inr ⟨r, w, 0, rfl,rfl,by decide, ?_⟩
           conv => whnf
           exact hmg.2.2.2.2.2.2.2.2.2.2.2.2.2.1
          ·conv => whnf
           exact hmg.2.2.2.2.2.2.2.2.2.2.2.2.2.2.1
         ·refine ⟨?_, ?_, trivial⟩
          ·conv => whnf
           refine .inr ⟨r, w, _, _, 0, hS, rfl, hn0, ?_⟩
           conv => whnf
           exact hmg.2.2.2.2.2.2.2.2.2.2.1
          ·conv => whnf
           refine .inr ⟨r, w, _, _, 0, hS, rfl, hn0, ?_⟩
           conv => whnf
           exact hmg.2.2.2.2.2.2.2.2.2.2.2.2.2.2.1
         ·refine ⟨?_, ?_, ?_, trivial⟩
          ·conv => whnf
           exact hmg.2.2.2.2.2.2.2.2.2.2.2.1
          ·conv => whnf
           exact hmg.2.2.2.2.2.2.2.2.2.2.2.2.2.2.2.1
          ·conv => whnf
           exact hmg.2.2.2.2.2.2.2.2.2.2.2.2.2.2.2.2.1
         ·refine ⟨?_, ?_, ?_, trivial⟩
          ·conv => whnf
           exact hmg.2.2.2.2.2.2.2.2.2.2.2.2.1
          ·conv => whnf
           refine .inr ⟨r, w, 0, 3, _, _, rfl, ⟨_, _, _, rfl,rfl,hfm⟩, h4, ?_⟩
           conv => whnf
           exact hmg.2.2.2.2.2.2.2.2.2.2.2.2.2.2.2.1
          ·conv => whnf
           exact hmg.2.2.2.2.2.2.2.2.2.2.2.2.2.2.2.2.2
         ·refine ⟨?_, ?_, ?_, trivial⟩
          ·conv => whnf
           exact hmg.2.2.2.2.2.2.2.2.2.2.2.2.2.1
          ·conv => whnf
           refine .inr ⟨r, w, 0, 3, _, _, rfl, ⟨_, _, _, rfl,rfl,hfm⟩, h4, ?_⟩
           conv => whnf
           exact hmg.2.2.2.2.2.2.2.2.2.2.2.2.2.2.2.2.1
          ·conv => whnf
           exact hmg.2.2.2.2.2.2.2.2.2.2.2.2.2.2.2.2.2
         ·refine ⟨?_, ?_, trivial⟩
          ·conv => whnf
           exact hmg.2.2.2.2.2.2.2.2.2.2.2.2.2.2.1
          ·conv => whnf
           refine .inr ⟨r, w, 0, rfl,rfl,by decide, ?_⟩
           conv => whnf
           exact hmg.2.2.2.2.2.2.2.2.2.2.2.2.2.2.2.2.2
        case nxt16 =>
         refine imp_via (Z := ?Z17_0 ∧ ?Z17_1 ∧ ?Z17_2 ∧ ?Z17_3 ∧ ?Z17_4 ∧ ?Z17_5 ∧ ?Z17_6 ∧ ?Z17_7 ∧ ?Z17_8 ∧ ?Z17_9 ∧ ?Z17_10 ∧ ?Z17_11 ∧ ?Z17_12 ∧ ?Z17_13 ∧ ?Z17_14 ∧ ?Z17_15) (fun hmg => ?cur17) ?nxt17
         case cur17 =>
          refine ⟨?_, ?_, ?_, ?_, ?_, ?_, ?_, ?_, ?_, ?_, ?_, ?_, ?_, ?_, ?_, ?_, ?_, ?_⟩
          ·refine ⟨?_, ?_, ?_, trivial⟩
           ·conv => whnf
            refine .inr ⟨r, w, _, _, 0, hS, rfl, hn0, ?_⟩
            conv => whnf
            exact hmg.1
           ·conv => whnf
            exact hmg.2.1
           ·conv => whnf
            exact hmg.2.2.1
          ·refine ⟨?_, ?_, trivial⟩
           ·conv => whnf
            exact hmg.2.1
           ·conv => whnf
            exact hmg.2.2.2.1
          ·refine ⟨?_, ?_, trivial⟩
           ·conv => whnf
            exact hmg.2.2.1
           ·conv => whnf
            exact hmg.2.2.2.1
          ·refine ⟨?_, ?_, ?_, ?_, trivial⟩
           ·conv => whnf
            refine .inr ⟨r, w, 0, 3, _, _, rfl, ⟨_, _, _, rfl,rfl,hfm⟩, h4, ?_⟩
            conv => whnf
            exact hmg.1
           ·conv => whnf
            refine .inr ⟨r, w, 0, rfl,rfl,by decide, ?_⟩
            conv => whnf
            exact hmg.2.2.2.2.1
           ·conv => whnf
            exact hmg.2.2.2.2.2.1
           ·conv => whnf
            exact hmg.2.2.2.2.2.2.1
          ·refine ⟨?_, ?_, ?_, trivial⟩
           ·conv => whnf
            refine .inr ⟨r, w, 0, 3, _, _, rfl, ⟨_, _, _, rfl,rfl,hfm⟩, h4, ?_⟩
            conv => whnf
            exact hmg.2.1
           ·conv => whnf
            refine .inr ⟨r, w, _, _, 0, hS, rfl, hn0, ?_⟩
            conv => whnf
            exact hmg.2.2.2.2.2.1
           ·conv => whnf
            exact hmg.2.2.2.2.2.2.2.1
          ·refine ⟨?_, ?_, ?_, trivial⟩
           ·conv => whnf
            refine .inr ⟨r, w, 0, 3, _, _, rfl, ⟨_, _, _, rfl,rfl,hfm⟩, h4, ?_⟩
            conv => whnf
            exact hmg.2.2.1
           ·conv => whnf
            refine .inr ⟨r, w, _, _, 0, hS, rfl, hn0, ?_⟩
            conv => whnf
            exact hmg.2.2.2.2.2.2.1
           ·conv => whnf
            exact hmg.2.2.2.2.2.2.2.1
          ·refine ⟨?_, ?_, trivial⟩
           ·conv => whnf
            refine .inr ⟨r, w, 0, 3, _, _, rfl, ⟨_, _, _, rfl,rfl,hfm⟩, h4, ?_⟩
            conv => whnf
            exact hmg.2.2.2.1
           ·conv => whnf
            exact hmg.2.2.2.2.2.2.2.1
          ·refine ⟨?_, ?_, ?_, ?_, trivial⟩
           ·conv => whnf
            refine .inr ⟨r, w, 0, rfl,rfl,by decide, ?_⟩
            conv => whnf
            exact hmg.2.2.2.2.1
           ·conv => whnf
            refine .inr ⟨r, w, 0, 3, _, _, rfl, ⟨_, _, _, rfl,rfl,hfm⟩, h4, ?_⟩
            conv => whnf
            exact hmg.2.2.2.2.2.2.2.2.1
           ·conv => whnf
            exact hmg.2.2.2.2.2.2.2.2.2.1
           ·conv => whnf
            exact hmg.2.2.2.2.2.2.2.2.2.2.1
          ·refine ⟨?_, ?_, ?_, trivial⟩
           ·conv => whnf
            refine .inr ⟨r, w, 0, rfl,rfl,by decide, ?_⟩
            conv => whnf
            exact hmg.2.2.2.2.2.1
           ·conv => whnf
            refine .inr ⟨r, w, 0, rfl,rfl,by decide, ?_⟩
            conv => whnf
            exact hmg.2.2.2.2.2.2.2.2.2.1
           ·conv => whnf
            exact hmg.2.2.2.2.2.2.2.2.2.2.2.1
          ·refine ⟨?_, ?_, ?_, trivial⟩
           ·conv => whnf
            refine .inr ⟨r, w, 0, rfl,rfl,by decide, ?_⟩
            conv => whnf
            exact hmg.2.2.2.2.2.2.1
           ·conv => whnf
            refine .inr ⟨r, w, 0, rfl,rfl,by decide, ?_⟩
            conv => whnf
            exact hmg.2.2.2.2.2.2.2.2.2.2.1
           ·conv => whnf
            exact hmg.2.2.2.2.2.2.2.2.2.2.2.1
          ·refine ⟨?_, ?_, trivial⟩
           ·conv => whnf
            refine .inr ⟨r, w, 0, rfl,rfl,by decide, ?_⟩
            conv => whnf
            exact hmg.2.2.2.2.2.2.2.1
           ·conv => whnf
            refine .inr ⟨r, w, _, _, 0, hS, rfl, hn0, ?_⟩
            conv => whnf
            exact hmg.2.2.2.2.2.2.2.2.2.2.2.1
          ·refine ⟨?_, ?_, ?_, trivial⟩
           ·conv => whnf
            refine .inr ⟨r, w, _, _, 0, hS, rfl, hn0, ?_⟩
            conv => whnf
            exact hmg.2.2.2.2.2.2.2.2.1
           ·conv => whnf
            exact hmg.2.2.2.2.2.2.2.2.2.2.2.2.1
           ·conv => whnf
            exact hmg.2.2.2.2.2.2.2.2.2.2.2.2.2.1
          ·refine ⟨?_, ?_, ?_, trivial⟩
           ·conv => whnf
            refine .inr ⟨r, w, _, _, 0, hS, rfl, hn0, ?_⟩
            conv => whnf
            exact hmg.2.2.2.2.2.2.2.2.2.1
           ·conv => whnf
            refine .inr ⟨r, w, 0, 3, _, _, rfl, ⟨_, _, _, rfl,rfl,hfm⟩, h4, ?_⟩
            conv => whnf
            exact hmg.2.2.2.2.2.2.2.2.2.2.2.2.1
           ·conv => whnf
            exact hmg.2.2.2.2.2.2.2.2.2.2.2.2.2.2.1
          ·refine ⟨?_, ?_, ?_, trivial⟩
           ·conv => whnf
            refine .inr ⟨r, w, _, _, 0, hS, rfl, hn0, ?_⟩
            conv => whnf
            exact hmg.2.2.2.2.2.2.2.2.2.2.1
           ·conv => whnf
            refine .inr ⟨r, w, 0, 3, _, _, rfl, ⟨_, _, _, rfl,rfl,hfm⟩, h4, ?_⟩
            conv => whnf
            exact hmg.2.2.2.2.2.2.2.2.2.2.2.2.2.1
           ·conv => whnf
            exact hmg.2.2.2.2.2.2.2.2.2.2.2.2.2.2.1
          ·refine ⟨?_, ?_, trivial⟩
           ·conv => whnf
            refine .inr ⟨r, w, _, _, 0, hS, rfl, hn0, ?_⟩
            conv => whnf
            exact hmg.2.2.2.2.2.2.2.2.2.2.2.1
           ·conv => whnf
            refine .inr ⟨r, w, 0, rfl,rfl,by decide, ?_⟩
            conv => whnf
            exact hmg.2.2.2.2.2.2.2.2.2.2.2.2.2.2.1
          ·refine ⟨?_, ?_, trivial⟩
           ·conv => whnf
            exact hmg.2.2.2.2.2.2.2.2.2.2.2.2.1
           ·conv => whnf
            exact hmg.2.2.2.2.2.2.2.2.2.2.2.2.2.2.2
          ·refine ⟨?_, ?_, trivial⟩
           ·conv => whnf
            exact hmg.2.2.2.2.2.2.2.2.2.2.2.2.2.1
           ·conv => whnf
            exact hmg.2.2.2.2.2.2.2.2.2.2.2.2.2.2.2
          ·refine ⟨?_, ?_, trivial⟩
           ·conv => whnf
            exact hmg.2.2.2.2.2.2.2.2.2.2.2.2.2.2.1
           ·conv => whnf
            refine .inr ⟨r, w, 0, 3, _, _, rfl, ⟨_, _, _, rfl,rfl,hfm⟩, h4, ?_⟩
            conv => whnf
            exact hmg.2.2.2.2.2.2.2.2.2.2.2.2.2.2.2
         case nxt17 =>
          refine imp_via (Z := ?Z18_0 ∧ ?Z18_1 ∧ ?Z18_2 ∧ ?Z18_3 ∧ ?Z18_4 ∧ ?Z18_5 ∧ ?Z18_6 ∧ ?Z18_7 ∧ ?Z18_8 ∧ ?Z18_9 ∧ ?Z18_10 ∧ ?Z18_11) (fun hmg => ?cur18) ?nxt18
          case cur18 =>
           refine ⟨?_, ?_, ?_, ?_, ?_, ?_, ?_, ?_, ?_, ?_, ?_, ?_, ?_, ?_, ?_, ?_⟩
           ·refine ⟨?_, ?_, ?_, trivial⟩
            ·conv => whnf
             refine .inr ⟨r, w, 0, rfl,rfl,by decide, ?_⟩
             conv => whnf
             exact hmg.1
            ·conv => whnf
             exact hmg.2.1
            ·conv => whnf
             exact hmg.2.2.1
           ·refine ⟨?_, ?_, trivial⟩
            ·conv => whnf
             refine .inr ⟨r, w, _, _, 0, hS, rfl, hn0, ?_⟩
             conv => whnf
             exact hmg.2.1
            ·conv => whnf
             exact hmg.2.2.2.1
           ·refine ⟨?_, ?_, trivial⟩
            ·conv => whnf
             refine .inr ⟨r, w, _, _, 0, hS, rfl, hn0, ?_⟩
             conv => whnf
             exact hmg.2.2.1
            ·conv => whnf
             exact hmg.2.2.2.1
           ·refine ⟨?_, trivial⟩
            ·conv => whnf
             exact hmg.2.2.2.1
           ·refine ⟨?_, ?_, ?_, ?_, trivial⟩
            ·conv => whnf
             refine .inr ⟨r, w, 0, 3, _, _, rfl, ⟨_, _, _, rfl,rfl,hfm⟩, h4, ?_⟩
             conv => whnf
             exact hmg.1
            ·conv => whnf
             refine .inr ⟨r, w, 0, 3, _, _, rfl, ⟨_, _, _, rfl,rfl,hfm⟩, h4, ?_⟩
             conv => whnf
             exact hmg.2.2.2.2.1
            ·conv => whnf
             exact hmg.2.2.2.2.2.1
            ·conv => whnf
             exact hmg.2.2.2.2.2.2.1
           ·refine ⟨?_, ?_, ?_, trivial⟩
            ·conv => whnf
             refine .inr ⟨r, w, 0, 3, _, _, rfl, ⟨_, _, _, rfl,rfl,hfm⟩, h4, ?_⟩
             conv => whnf
             exact hmg.2.1
            ·conv => whnf
             refine .inr ⟨r, w, 0, rfl,rfl,by decide, ?_⟩
             conv => whnf
             exact hmg.2.2.2.2.2.1
            ·conv => whnf
             exact hmg.2.2.2.2.2.2.2.1
           ·refine ⟨?_, ?_, ?_, trivial⟩
            ·conv => whnf
             refine .inr ⟨r, w, 0, 3, _, _, rfl, ⟨_, _, _, rfl,rfl,hfm⟩, h4, ?_⟩
             conv => whnf
             exact hmg.2.2.1
            ·conv => whnf
             refine .inr ⟨r, w, 0, rfl,rfl,by decide, ?_⟩
             conv => whnf
             exact hmg.2.2.2.2.2.2.1
            ·conv => whnf
             exact hmg.2.2.2.2.2.2.2.1
           ·refine ⟨?_, ?_, trivial⟩
            ·conv => whnf
             refine .inr ⟨r, w, 0, 3, _, _, rfl, ⟨_, _, _, rfl,rfl,hfm⟩, h4, ?_⟩
             conv => whnf
             exact hmg.2.2.2.1
            ·conv => whnf
             refine .inr ⟨r, w, _, _, 0, hS, rfl, hn0, ?_⟩
             conv => whnf
             exact hmg.2.2.2.2.2.2.2.1
           ·refine ⟨?_, ?_, ?_, trivial⟩
            ·conv => whnf
             refine .inr ⟨r, w, 0, rfl,rfl,by decide, ?_⟩
             conv => whnf
             exact hmg.2.2.2.2.1
            ·conv => whnf
             exact hmg.2.2.2.2.2.2.2.2.1
            ·conv => whnf
             exact hmg.2.2.2.2.2.2.2.2.2.1
           ·refine ⟨?_, ?_, ?_, trivial⟩
            ·conv => whnf
             refine .inr ⟨r, w, 0, rfl,rfl,by decide, ?_⟩
             conv => whnf
             exact hmg.2.2.2.2.2.1
            ·conv => whnf
             refine .inr ⟨r, w, 0, 3, _, _, rfl, ⟨_, _, _, rfl,rfl,hfm⟩, h4, ?_⟩
             conv => whnf
             exact hmg.2.2.2.2.2.2.2.2.1
            ·conv => whnf
             exact hmg.2.2.2.2.2.2.2.2.2.2.1
           ·refine ⟨?_, ?_, ?_, trivial⟩
            ·conv => whnf
             refine .inr ⟨r, w, 0, rfl,rfl,by decide, ?_⟩
             conv => whnf
             exact hmg.2.2.2.2.2.2.1
            ·conv => whnf
             refine .inr ⟨r, w, 0, 3, _, _, rfl, ⟨_, _, _, rfl,rfl,hfm⟩, h4, ?_⟩
             conv => whnf
             exact hmg.2.2.2.2.2.2.2.2.2.1
            ·conv => whnf
             exact hmg.2.2.2.2.2.2.2.2.2.2.1
           ·refine ⟨?_, ?_, trivial⟩
            ·conv => whnf
             refine .inr ⟨r, w, 0, rfl,rfl,by decide, ?_⟩
             conv => whnf
             exact hmg.2.2.2.2.2.2.2.1
            ·conv => whnf
             refine .inr ⟨r, w, 0, rfl,rfl,by decide, ?_⟩
             conv => whnf
             exact hmg.2.2.2.2.2.2.2.2.2.2.1
           ·refine ⟨?_, ?_, trivial⟩
            ·conv => whnf
             refine .inr ⟨r, w, _, _, 0, hS, rfl, hn0, ?_⟩
             conv => whnf
             exact hmg.2.2.2.2.2.2.2.2.1
            ·conv => whnf
             exact hmg.2.2.2.2.2.2.2.2.2.2.2
           ·refine ⟨?_, ?_, trivial⟩
            ·conv => whnf
             refine .inr ⟨r, w, _, _, 0, hS, rfl, hn0, ?_⟩
             conv => whnf
             exact hmg.2.2.2.2.2.2.2.2.2.1
            ·conv => whnf
             exact hmg.2.2.2.2.2.2.2.2.2.2.2
           ·refine ⟨?_, ?_, trivial⟩
            ·conv => whnf
             refine .inr ⟨r, w, _, _, 0, hS, rfl, hn0, ?_⟩
             conv => whnf
             exact hmg.2.2.2.2.2.2.2.2.2.2.1
            ·conv => whnf
             refine .inr ⟨r, w, 0, 3, _, _, rfl, ⟨_, _, _, rfl,rfl,hfm⟩, h4, ?_⟩
             conv => whnf
             exact hmg.2.2.2.2.2.2.2.2.2.2.2
           ·refine ⟨?_, trivial⟩
            ·conv => whnf
             exact hmg.2.2.2.2.2.2.2.2.2.2.2
          case nxt18 =>
           refine imp_via (Z := ?Z19_0 ∧ ?Z19_1 ∧ ?Z19_2 ∧ ?Z19_3 ∧ ?Z19_4 ∧ ?Z19_5 ∧ ?Z19_6 ∧ ?Z19_7) (fun hmg => ?cur19) ?nxt19
           case cur19 =>
            refine ⟨?_, ?_, ?_, ?_, ?_, ?_, ?_, ?_, ?_, ?_, ?_, ?_⟩
            ·refine ⟨?_, ?_, ?_, trivial⟩
             ·conv => whnf
              refine .inr ⟨r, w, 0, 3, _, _, rfl, ⟨_, _, _, rfl,rfl,hfm⟩, h4, ?_⟩
              conv => whnf
              exact hmg.1
             ·conv => whnf
              exact hmg.2.1
             ·conv => whnf
              exact hmg.2.2.1
            ·refine ⟨?_, ?_, trivial⟩
             ·conv => whnf
              refine .inr ⟨r, w, 0, rfl,rfl,by decide, ?_⟩
              conv => whnf
              exact hmg.2.1
             ·conv => whnf
              exact hmg.2.2.2.1
            ·refine ⟨?_, ?_, trivial⟩
             ·conv => whnf
              refine .inr ⟨r, w, 0, rfl,rfl,by decide, ?_⟩
              conv => whnf
              exact hmg.2.2.1
             ·conv => whnf
              exact hmg.2.2.2.1
            ·refine ⟨?_, trivial⟩
             ·conv => whnf
              refine .inr ⟨r, w, _, _, 0, hS, rfl, hn0, ?_⟩
              conv => whnf
              exact hmg.2.2.2.1
            ·refine ⟨?_, ?_, ?_, trivial⟩
             ·conv => whnf
              refine .inr ⟨r, w, 0, 3, _, _, rfl, ⟨_, _, _, rfl,rfl,hfm⟩, h4, ?_⟩
              conv => whnf
              exact hmg.1
             ·conv => whnf
              exact hmg.2.2.2.2.1
             ·conv => whnf
              exact hmg.2.2.2.2.2.1
            ·refine ⟨?_, ?_, ?_, trivial⟩
             ·conv => whnf
              refine .inr ⟨r, w, 0, 3, _, _, rfl, ⟨_, _, _, rfl,rfl,hfm⟩, h4, ?_⟩
              conv => whnf
              exact hmg.2.1
             ·conv => whnf
              refine .inr ⟨r, w, 0, 3, _, _, rfl, ⟨_, _, _, rfl,rfl,hfm⟩, h4, ?_⟩
              conv => whnf
              exact hmg.2.2.2.2.1
             ·conv => whnf
              exact hmg.2.2.2.2.2.2.1
            ·refine ⟨?_, ?_, ?_, trivial⟩
             ·conv => whnf
              refine .inr ⟨r, w, 0, 3, _, _, rfl, ⟨_, _, _, rfl,rfl,hfm⟩, h4, ?_⟩
              conv => whnf
              exact hmg.2.2.1
             ·conv => whnf
              refine .inr ⟨r, w, 0, 3, _, _, rfl, ⟨_, _, _, rfl,rfl,hfm⟩, h4, ?_⟩
              conv => whnf
              exact hmg.2.2.2.2.2.1
             ·conv => whnf
              exact hmg.2.2.2.2.2.2.1
            ·refine ⟨?_, ?_, trivial⟩
             ·conv => whnf
              refine .inr ⟨r, w, 0, 3, _, _, rfl, ⟨_, _, _, rfl,rfl,hfm⟩, h4, ?_⟩
              conv => whnf
              exact hmg.2.2.2.1
             ·conv => whnf
              refine .inr ⟨r, w, 0, rfl,rfl,by decide, ?_⟩
              conv => whnf
              exact hmg.2.2.2.2.2.2.1
            ·refine ⟨?_, ?_, trivial⟩
             ·conv => whnf
              refine .inr ⟨r, w, 0, rfl,rfl,by decide, ?_⟩
              conv => whnf
              exact hmg.2.2.2.2.1
             ·conv => whnf
              exact hmg.2.2.2.2.2.2.2
            ·refine ⟨?_, ?_, trivial⟩
             ·conv => whnf
              refine .inr ⟨r, w, 0, rfl,rfl,by decide, ?_⟩
              conv => whnf
              exact hmg.2.2.2.2.2.1
             ·conv => whnf
              exact hmg.2.2.2.2.2.2.2
            ·refine ⟨?_, ?_, trivial⟩
             ·conv => whnf
              refine .inr ⟨r, w, 0, rfl,rfl,by decide, ?_⟩
              conv => whnf
              exact hmg.2.2.2.2.2.2.1
             ·conv => whnf
              refine .inr ⟨r, w, 0, 3, _, _, rfl, ⟨_, _, _, rfl,rfl,hfm⟩, h4, ?_⟩
              conv => whnf
              exact hmg.2.2.2.2.2.2.2
            ·refine ⟨?_, trivial⟩
             ·conv => whnf
              refine .inr ⟨r, w, _, _, 0, hS, rfl, hn0, ?_⟩
              conv => whnf
              exact hmg.2.2.2.2.2.2.2
           case nxt19 =>
            refine imp_via (Z := ?Z20_0 ∧ ?Z20_1 ∧ ?Z20_2 ∧ ?Z20_3) (fun hmg => ?cur20) ?nxt20
            case cur20 =>
             refine ⟨?_, ?_, ?_, ?_, ?_, ?_, ?_, ?_⟩
             ·refine ⟨?_, ?_, trivial⟩
              ·conv => whnf
               exact hmg.1
              ·conv => whnf
               exact hmg.2.1
             ·refine ⟨?_, ?_, trivial⟩
              ·conv => whnf
               refine .inr ⟨r, w, 0, 3, _, _, rfl, ⟨_, _, _, rfl,rfl,hfm⟩, h4, ?_⟩
               conv => whnf
               exact hmg.1
              ·conv => whnf
               exact hmg.2.2.1
             ·refine ⟨?_, ?_, trivial⟩
              ·conv => whnf
               refine .inr ⟨r, w, 0, 3, _, _, rfl, ⟨_, _, _, rfl,rfl,hfm⟩, h4, ?_⟩
               conv => whnf
               exact hmg.2.1
              ·conv => whnf
               exact hmg.2.2.1
             ·refine ⟨?_, trivial⟩
              ·conv => whnf
               refine .inr ⟨r, w, 0, rfl,rfl,by decide, ?_⟩
               conv => whnf
               exact hmg.2.2.1
             ·refine ⟨?_, ?_, trivial⟩
              ·conv => whnf
               refine .inr ⟨r, w, 0, 3, _, _, rfl, ⟨_, _, _, rfl,rfl,hfm⟩, h4, ?_⟩
               conv => whnf
               exact hmg.1
              ·conv => whnf
               exact hmg.2.2.2
             ·refine ⟨?_, ?_, trivial⟩
              ·conv => whnf
               refine .inr ⟨r, w, 0, 3, _, _, rfl, ⟨_, _, _, rfl,rfl,hfm⟩, h4, ?_⟩
               conv => whnf
               exact hmg.2.1
              ·conv => whnf
               exact hmg.2.2.2
             ·refine ⟨?_, ?_, trivial⟩
              ·conv => whnf
               refine .inr ⟨r, w, 0, 3, _, _, rfl, ⟨_, _, _, rfl,rfl,hfm⟩, h4, ?_⟩
               conv => whnf
               exact hmg.2.2.1
              ·conv => whnf
               refine .inr ⟨r, w, 0, 3, _, _, rfl, ⟨_, _, _, rfl,rfl,hfm⟩, h4, ?_⟩
               conv => whnf
               exact hmg.2.2.2
             ·refine ⟨?_, trivial⟩
              ·conv => whnf
               refine .inr ⟨r, w, 0, rfl,rfl,by decide, ?_⟩
               conv => whnf
               exact hmg.2.2.2
            case nxt20 =>
             refine imp_via (Z := ?Z21_0) (fun hmg => ?cur21) ?nxt21
             case cur21 =>
              refine ⟨?_, ?_, ?_, ?_⟩
              ·refine ⟨?_, trivial⟩
               ·conv => whnf
                exact hmg
              ·refine ⟨?_, trivial⟩
               ·conv => whnf
                exact hmg
              ·refine ⟨?_, trivial⟩
               ·conv => whnf
                refine .inr ⟨r, w, 0, 3, _, _, rfl, ⟨_, _, _, rfl,rfl,hfm⟩, h4, ?_⟩
                conv => whnf
                exact hmg
              ·refine ⟨?_, trivial⟩
               ·conv => whnf
                refine .inr ⟨r, w, 0, 3, _, _, rfl, ⟨_, _, _, rfl,rfl,hfm⟩, h4, ?_⟩
                conv => whnf
                exact hmg
             case nxt21 =>
              conv =>
               arg 2
               tactic' =>
                apply eff_len_val (hi := htr) (ho := ?how44) (hc := ?hcw44) (ha := ?haw44) (ht := ?htw44) (hT := ?hTw44) (hx := ?hxw44)
                case how44 => rfl
                case hcw44 => rfl
                case haw44 => rfl
                case htw44 => rfl
                case hTw44 => rfl
                case hxw44 => rfl
              conv => whnf
              obtain ⟨b0, hb0⟩ : ∃ b0 : BX, b0 = ⟨t0.a, t0.a⟩ := ⟨_, rfl⟩
              have hb0l : b0.le := by rw [hb0]; exact ⟨Int.le_refl _, Int.le_refl _, Int.le_refl _⟩
              rw [← hb0] at hK
              obtain ⟨tq, htq⟩ : ∃ tq, tq = t0 :: tl := ⟨_, rfl⟩
              rw [← htq] at hK hfm htn
              refine loop_st (G := {k : Nat // k ≤ tq.length} × (Nat → Value)) (fun g => (.c (.val (g.2 0)) :: .c (.val (g.2 1)) :: .c (.val (g.2 2)) :: .c (.val (g.2 3)) :: .c (.val (g.2 4)) :: .c (.ptr 8 0) :: .c (.ptr 9 0) :: .c (.ptr 10 0) :: .c (.ptr 11 0) :: .c (.ptr 12 0) :: .c (.val (g.2 10)) :: .c (.val (g.2 11)) :: .c (.val (g.2 12)) :: .c (.val (g.2 13)) :: .c (.val (g.2 14)) :: .c (.val (g.2 15)) :: .c (.val (g.2 16)) :: .c (.val (g.2 17)) :: .c (.val (g.2 18)) :: .c (.val (g.2 19)) :: .c (.val (g.2 20)) :: .c (.val (g.2 21)) :: .c (.val (g.2 22)) :: .c (.val (g.2 23)) :: .c (.val (g.2 24)) :: .c (.val (g.2 25)) :: .c (.val (g.2 26)) :: .c (.val (g.2 27)) :: .c (.val (g.2 28)) :: .c (.val (g.2 29)) :: .c (.val (g.2 30)) :: .c (.val (g.2 31)) :: .c (.val (g.2 32)) :: .c (.val (g.2 33)) :: .c (.val (g.2 34)) :: .c (.val (g.2 35)) :: .c (.val (g.2 36)) :: .c (.val (g.2 37)) :: .c (.val (g.2 38)) :: .c (.val (g.2 39)) :: .c (.val (g.2 40)) :: .c (.val (g.2 41)) :: .c (.val (g.2 42)) :: .c (.val (g.2 43)) :: .c (.val (g.2 44)) :: .c (.val (g.2 45)) :: .c (.val (g.2 46)) :: .c (.val (g.2 47)) :: .c (.val (g.2 48)) :: .c (.val (g.2 49)) :: .c (.val (g.2 50)) :: .c (.val (g.2 51)) :: .c (.val (g.2 52)) :: .c (.val (g.2 53)) :: .c (.val (g.2 54)) :: .c (.val (g.2 55)) :: .c CL[i].s.v :: .c (.int (CL[i].s.n : Nat) htr) :: .c (.int (g.1.1 : Nat) (q_ir htr htn g.1.2)) :: .c (.val (g.2 59)) :: .c (.val (g.2 60)) :: .c (.val (g.2 61)) :: .c (.val (g.2 62)) :: .c (.val (g.2 63)) :: .c (.val (g.2 64)) :: .c (.val (g.2 65)) :: .c (.val (g.2 66)) :: .c (.val (g.2 67)) :: .c (.val (g.2 68)) :: .c (.val (g.2 69)) :: .c (.val (g.2 70)) :: .c (.val (g.2 71)) :: .c (.val (g.2 72)) :: .c (.val (g.2 73)) :: .c (.val (g.2 74)) :: .c (.val (g.2 75)) :: .c (.val (g.2 76)) :: .c (.val (g.2 77)) :: .c (.val (g.2 78)) :: .c (.val (g.2 79)) :: .c (.val (g.2 80)) :: .c (.val (g.2 81)) :: .c (.val (g.2 82)) :: .c (.val (g.2 83)) :: .c (.val (g.2 84)) :: .c (.val (g.2 85)) :: .c (.val (g.2 86)) :: .c (.val (g.2 87)) :: .c (.val (g.2 88)) :: .c (.val (g.2 89)) :: .c (.val (g.2 90)) :: .c (.val (g.2 91)) :: .c (.val (g.2 92)) :: .c (.val (g.2 93)) :: .c (.val (g.2 94)) :: .c (.val (g.2 95)) :: .c (.val (g.2 96)) :: .c (.val (g.2 97)) :: .c (.val (g.2 98)) :: .c (.val (g.2 99)) :: .c (.val (g.2 100)) :: .c (.val (g.2 101)) :: .c (.val (g.2 102)) :: .c (.val (g.2 103)) :: .c (.val (g.2 104)) :: .c (.val (g.2 105)) :: .c (.val (g.2 106)) :: .c (.val (g.2 107)) :: .c (.val (g.2 108)) :: .c (.val (g.2 109)) :: .c (.val (g.2 110)) :: .c (.val (g.2 111)) :: .c (.val (g.2 112)) :: .c (.val (g.2 113)) :: .c (.val (g.2 114)) :: .c (.val (g.2 115)) :: .c (.val (g.2 116)) :: .c (.val (g.2 117)) :: .c (.val (g.2 118)) :: .c (.val (g.2 119)) :: .c (.val (g.2 120)) :: .c (.val (g.2 121)) :: .c (.val (g.2 122)) :: .c (.val (g.2 123)) :: .c (.val (g.2 124)) :: .c (.val (g.2 125)) :: .c (.val (g.2 126)) :: .c (.val (g.2 127)) :: .c (.val (g.2 128)) :: .c (.val (g.2 129)) :: .c (.val (g.2 130)) :: [])) (fun g => [⟨.t tc, true, cusC CL, 0⟩, ⟨.t td, true, gusC L, 0⟩, ⟨.t tt, true, blC CT, 0⟩, ⟨.x fam, true, [], 3⟩, ⟨53, false, [.sli n1 0 0 CL.length c1 h1, .sli n2 1 0 L.length c2 h2], 0⟩, ⟨25, false, vwC v, 0⟩, ⟨3, ln, rwC intR li, lt⟩, ⟨67, sn, rwC snR ls, st⟩, ⟨25, false, vwC v, 0⟩, ⟨67, false, snC sn0, 0⟩, ⟨43, false, [CL[i].s.v, .int CL[i].made CL[i].hm, .int CL[i].used CL[i].hu], 0⟩, ⟨67, false, [.int CL[i].made CL[i].hm, .int 0 (by decide), .wid 0 0 (sm_z0 _), .val (.bool true)], 0⟩, ⟨61, false, bxC (boxL b0 (tq.take g.1.1)) ++ [.int 0 (by decide)], 0⟩]) (fun g => tq.length - g.1.1) ?_ ?_
              ·refine ⟨[0,1,2,3,4,5,6,7,8,9,10,11,12], [5,6,7,8,9,56,57,58], [0,1,2,6,7], fun vs6 => ?_⟩
               conv => whnf
               refine ⟨cusC_pure CL, gusC_pure L, blC_pure CT, rwC_pure intR li, rwC_pure snR ls, ?_⟩
               conv => whnf
               refine ⟨_, _, ?_, ?_, (⟨0, Nat.zero_le _⟩, vs6), rfl, rfl⟩
               ·exact (by (iterate 59 refine ⟨fun _=>rfl,?_⟩); exact stm _)
               ·exact (by (iterate 9 refine ⟨⟨rfl,rfl,rfl, fun _=>rfl⟩, ?_⟩); refine ⟨⟨rfl,rfl,rfl, fun ρ => (show cellsL ρ _ = cellsL ρ (snC sn0) by simp [cellsL, snC, sn0, C.cells])⟩, ?_⟩; refine ⟨⟨rfl,rfl,rfl, fun _=>rfl⟩, ?_⟩; refine ⟨⟨rfl,rfl,rfl, fun ρ => (by simp [cellsL, C.cells])⟩, ?_⟩; refine ⟨⟨rfl,rfl,rfl, fun ρ => (show _ = cellsL ρ (bxC b0 ++ [.int 0 (by decide)]) by rw [hb0]; rfl)⟩, ?_⟩; exact trivial)
              ·rintro ⟨⟨k, hk⟩, vs6⟩
               have hk : k ≤ tq.length := hk
               obtain ⟨bx, hbx⟩ : ∃ bx, bx = boxL b0 (tq.take k) := ⟨_, rfl⟩
               have hbl : bx.le := by rw [hbx]; exact boxL_le hb0l _
               dsimp only
               rw [← hbx]
               conv => whnf
               refine bcase_intro (fun hlt => ?_) (fun hlt => ?_)
               ·have hlt : k < tq.length := by rw [← htn]; exact n_lt hlt
                conv => whnf
                refine .inr ⟨r, w, _, _, k, hS, rfl, by omega, ?_⟩
                conv => whnf
                refine .inr ⟨r, w, k * 9, 3, trsC tq, .agg (trC tq[k]), rfl, ⟨_, _, _, rfl,rfl,hfm⟩, ⟨partC_tr tq hlt, fun _ _=>rfl⟩, ?_⟩
                conv => whnf
                refine .inl ⟨4, ?_⟩
                conv => whnf
                refine bcase_intro (fun a0 => ?_) (fun a0 => ?_)
                ·have a0 : eqQ tq[k].a (bx).lo = true := a0
                 have e0 : addP (bx) tq[k].a = bx := addP_lo hbl (eqQ_eq a0)
                 conv => whnf
                 refine bcase_intro (fun a1 => ?_) (fun a1 => ?_)
                 ·have a1 : eqQ tq[k].b (bx).lo = true := a1
                  have e1 : addP (bx) tq[k].b = bx := addP_lo hbl (eqQ_eq a1)
                  conv => whnf
                  refine bcase_intro (fun a2 => ?_) (fun a2 => ?_)
                  ·have a2 : eqQ tq[k].c (bx).lo = true := a2
                   have e2 : addP (bx) tq[k].c = bx := addP_lo hbl (eqQ_eq a2)
                   conv => whnf
                   refine ⟨[0,1,2,3,4,5,6,7,8,9,10,11,12], [5,6,7,8,9,56,57,58], [0,1,2,6,7], fun vs7 => ?_⟩
                   conv => whnf
                   refine ⟨cusC_pure CL, gusC_pure L, blC_pure CT, rwC_pure intR li, rwC_pure snR ls, ?_⟩
                   conv => whnf
                   have hfin : boxL b0 (tq.take (k + 1)) = bx := by rw [boxL_succ b0 hlt, ← hbx]; unfold addT; rw [e0, e1, e2]
                   refine ⟨_, _, ?_, ?_, (⟨k + 1, hlt⟩, vs7), (by omega : tq.length - (k + 1) < tq.length - k), rfl, rfl⟩
                   ·exact (by (iterate 58 refine ⟨fun _=>rfl,?_⟩); refine ⟨fun ρ => sint_kV (wrap_add1 (n := tq.length) hlt (by rw [← htn]; exact htr)) ρ, ?_⟩; exact stm _)
                   ·exact (by (iterate 12 refine ⟨⟨rfl,rfl,rfl, fun _=>rfl⟩, ?_⟩); refine ⟨⟨rfl,rfl,rfl, fun ρ => (show cellsL ρ (bxC (bx) ++ [.int 0 (by decide)]) = cellsL ρ (bxC (boxL b0 (tq.take (k + 1))) ++ [.int 0 (by decide)]) by rw [hfin])⟩, ?_⟩; exact trivial)
                  ·conv => whnf
                   refine bcase_intro (fun c2 => ?_) (fun c2 => ?_)
                   ·have c2 : eqQ tq[k].c (bx).hi = true := c2
                    have e2 : addP (bx) tq[k].c = bx := addP_hi hbl (eqQ_eq c2)
                    conv => whnf
                    refine ⟨[0,1,2,3,4,5,6,7,8,9,10,11,12], [5,6,7,8,9,56,57,58], [0,1,2,6,7], fun vs7 => ?_⟩
                    conv => whnf
                    refine ⟨cusC_pure CL, gusC_pure L, blC_pure CT, rwC_pure intR li, rwC_pure snR ls, ?_⟩
                    conv => whnf
                    have hfin : boxL b0 (tq.take (k + 1)) = bx := by rw [boxL_succ b0 hlt, ← hbx]; unfold addT; rw [e0, e1, e2]
                    refine ⟨_, _, ?_, ?_, (⟨k + 1, hlt⟩, vs7), (by omega : tq.length - (k + 1) < tq.length - k), rfl, rfl⟩
                    ·exact (by (iterate 58 refine ⟨fun _=>rfl,?_⟩); refine ⟨fun ρ => sint_kV (wrap_add1 (n := tq.length) hlt (by rw [← htn]; exact htr)) ρ, ?_⟩; exact stm _)
                    ·exact (by (iterate 12 refine ⟨⟨rfl,rfl,rfl, fun _=>rfl⟩, ?_⟩); refine ⟨⟨rfl,rfl,rfl, fun ρ => (show cellsL ρ (bxC (bx) ++ [.int 0 (by decide)]) = cellsL ρ (bxC (boxL b0 (tq.take (k + 1))) ++ [.int 0 (by decide)]) by rw [hfin])⟩, ?_⟩; exact trivial)
                   ·conv => whnf
                    refine ⟨[0,1,2,3,4,5,6,7,8,9,10,11,12], [5,6,7,8,9,56,57,58], [0,1,2,6,7], fun vs7 => ?_⟩
                    conv => whnf
                    refine ⟨cusC_pure CL, gusC_pure L, blC_pure CT, rwC_pure intR li, rwC_pure snR ls, ?_⟩
                    conv => whnf
                    have hfin : boxL b0 (tq.take (k + 1)) = addP (bx) tq[k].c := by rw [boxL_succ b0 hlt, ← hbx]; unfold addT; rw [e0, e1]
                    refine ⟨_, _, ?_, ?_, (⟨k + 1, hlt⟩, vs7), (by omega : tq.length - (k + 1) < tq.length - k), rfl, rfl⟩
                    ·exact (by (iterate 58 refine ⟨fun _=>rfl,?_⟩); refine ⟨fun ρ => sint_kV (wrap_add1 (n := tq.length) hlt (by rw [← htn]; exact htr)) ρ, ?_⟩; exact stm _)
                    ·exact (by (iterate 12 refine ⟨⟨rfl,rfl,rfl, fun _=>rfl⟩, ?_⟩); refine ⟨⟨rfl,rfl,rfl, fun ρ => (show cellsL ρ (bxC (addP (bx) tq[k].c) ++ [.int 0 (by decide)]) = cellsL ρ (bxC (boxL b0 (tq.take (k + 1))) ++ [.int 0 (by decide)]) by rw [hfin])⟩, ?_⟩; exact trivial)
                 ·conv => whnf
                  refine bcase_intro (fun c1 => ?_) (fun c1 => ?_)
                  ·have c1 : eqQ tq[k].b (bx).hi = true := c1
                   have e1 : addP (bx) tq[k].b = bx := addP_hi hbl (eqQ_eq c1)
                   conv => whnf
                   refine bcase_intro (fun a2 => ?_) (fun a2 => ?_)
                   ·have a2 : eqQ tq[k].c (bx).lo = true := a2
                    have e2 : addP (bx) tq[k].c = bx := addP_lo hbl (eqQ_eq a2)
                    conv => whnf
                    refine ⟨[0,1,2,3,4,5,6,7,8,9,10,11,12], [5,6,7,8,9,56,57,58], [0,1,2,6,7], fun vs7 => ?_⟩
                    conv => whnf
                    refine ⟨cusC_pure CL, gusC_pure L, blC_pure CT, rwC_pure intR li, rwC_pure snR ls, ?_⟩
                    conv => whnf
                    have hfin : boxL b0 (tq.take (k + 1)) = bx := by rw [boxL_succ b0 hlt, ← hbx]; unfold addT; rw [e0, e1, e2]
                    refine ⟨_, _, ?_, ?_, (⟨k + 1, hlt⟩, vs7), (by omega : tq.length - (k + 1) < tq.length - k), rfl, rfl⟩
                    ·exact (by (iterate 58 refine ⟨fun _=>rfl,?_⟩); refine ⟨fun ρ => sint_kV (wrap_add1 (n := tq.length) hlt (by rw [← htn]; exact htr)) ρ, ?_⟩; exact stm _)
                    ·exact (by (iterate 12 refine ⟨⟨rfl,rfl,rfl, fun _=>rfl⟩, ?_⟩); refine ⟨⟨rfl,rfl,rfl, fun ρ => (show cellsL ρ (bxC (bx) ++ [.int 0 (by decide)]) = cellsL ρ (bxC (boxL b0 (tq.take (k + 1))) ++ [.int 0 (by decide)]) by rw [hfin])⟩, ?_⟩; exact trivial)
                   ·conv => whnf
                    refine bcase_intro (fun c2 => ?_) (fun c2 => ?_)
                    ·have c2 : eqQ tq[k].c (bx).hi = true := c2
                     have e2 : addP (bx) tq[k].c = bx := addP_hi hbl (eqQ_eq c2)
                     conv => whnf
                     refine ⟨[0,1,2,3,4,5,6,7,8,9,10,11,12], [5,6,7,8,9,56,57,58], [0,1,2,6,7], fun vs7 => ?_⟩
                     conv => whnf
                     refine ⟨cusC_pure CL, gusC_pure L, blC_pure CT, rwC_pure intR li, rwC_pure snR ls, ?_⟩
                     conv => whnf
                     have hfin : boxL b0 (tq.take (k + 1)) = bx := by rw [boxL_succ b0 hlt, ← hbx]; unfold addT; rw [e0, e1, e2]
                     refine ⟨_, _, ?_, ?_, (⟨k + 1, hlt⟩, vs7), (by omega : tq.length - (k + 1) < tq.length - k), rfl, rfl⟩
                     ·exact (by (iterate 58 refine ⟨fun _=>rfl,?_⟩); refine ⟨fun ρ => sint_kV (wrap_add1 (n := tq.length) hlt (by rw [← htn]; exact htr)) ρ, ?_⟩; exact stm _)
                     ·exact (by (iterate 12 refine ⟨⟨rfl,rfl,rfl, fun _=>rfl⟩, ?_⟩); refine ⟨⟨rfl,rfl,rfl, fun ρ => (show cellsL ρ (bxC (bx) ++ [.int 0 (by decide)]) = cellsL ρ (bxC (boxL b0 (tq.take (k + 1))) ++ [.int 0 (by decide)]) by rw [hfin])⟩, ?_⟩; exact trivial)
                    ·conv => whnf
                     refine ⟨[0,1,2,3,4,5,6,7,8,9,10,11,12], [5,6,7,8,9,56,57,58], [0,1,2,6,7], fun vs7 => ?_⟩
                     conv => whnf
                     refine ⟨cusC_pure CL, gusC_pure L, blC_pure CT, rwC_pure intR li, rwC_pure snR ls, ?_⟩
                     conv => whnf
                     have hfin : boxL b0 (tq.take (k + 1)) = addP (bx) tq[k].c := by rw [boxL_succ b0 hlt, ← hbx]; unfold addT; rw [e0, e1]
                     refine ⟨_, _, ?_, ?_, (⟨k + 1, hlt⟩, vs7), (by omega : tq.length - (k + 1) < tq.length - k), rfl, rfl⟩
                     ·exact (by (iterate 58 refine ⟨fun _=>rfl,?_⟩); refine ⟨fun ρ => sint_kV (wrap_add1 (n := tq.length) hlt (by rw [← htn]; exact htr)) ρ, ?_⟩; exact stm _)
                     ·exact (by (iterate 12 refine ⟨⟨rfl,rfl,rfl, fun _=>rfl⟩, ?_⟩); refine ⟨⟨rfl,rfl,rfl, fun ρ => (show cellsL ρ (bxC (addP (bx) tq[k].c) ++ [.int 0 (by decide)]) = cellsL ρ (bxC (boxL b0 (tq.take (k + 1))) ++ [.int 0 (by decide)]) by rw [hfin])⟩, ?_⟩; exact trivial)
                  ·conv => whnf
                   refine bcase_intro (fun a2 => ?_) (fun a2 => ?_)
                   ·have a2 : eqQ tq[k].c (addP (bx) tq[k].b).lo = true := a2
                    have e2 : addP (addP (bx) tq[k].b) tq[k].c = addP (bx) tq[k].b := addP_lo (addP_le hbl tq[k].b) (eqQ_eq a2)
                    conv => whnf
                    refine ⟨[0,1,2,3,4,5,6,7,8,9,10,11,12], [5,6,7,8,9,56,57,58], [0,1,2,6,7], fun vs7 => ?_⟩
                    conv => whnf
                    refine ⟨cusC_pure CL, gusC_pure L, blC_pure CT, rwC_pure intR li, rwC_pure snR ls, ?_⟩
                    conv => whnf
                    have hfin : boxL b0 (tq.take (k + 1)) = addP (bx) tq[k].b := by rw [boxL_succ b0 hlt, ← hbx]; unfold addT; rw [e0, e2]
                    refine ⟨_, _, ?_, ?_, (⟨k + 1, hlt⟩, vs7), (by omega : tq.length - (k + 1) < tq.length - k), rfl, rfl⟩
                    ·exact (by (iterate 58 refine ⟨fun _=>rfl,?_⟩); refine ⟨fun ρ => sint_kV (wrap_add1 (n := tq.length) hlt (by rw [← htn]; exact htr)) ρ, ?_⟩; exact stm _)
                    ·exact (by (iterate 12 refine ⟨⟨rfl,rfl,rfl, fun _=>rfl⟩, ?_⟩); refine ⟨⟨rfl,rfl,rfl, fun ρ => (show cellsL ρ (bxC (addP (bx) tq[k].b) ++ [.int 0 (by decide)]) = cellsL ρ (bxC (boxL b0 (tq.take (k + 1))) ++ [.int 0 (by decide)]) by rw [hfin])⟩, ?_⟩; exact trivial)
                   ·conv => whnf
                    refine bcase_intro (fun c2 => ?_) (fun c2 => ?_)
                    ·have c2 : eqQ tq[k].c (addP (bx) tq[k].b).hi = true := c2
                     have e2 : addP (addP (bx) tq[k].b) tq[k].c = addP (bx) tq[k].b := addP_hi (addP_le hbl tq[k].b) (eqQ_eq c2)
                     conv => whnf
                     refine ⟨[0,1,2,3,4,5,6,7,8,9,10,11,12], [5,6,7,8,9,56,57,58], [0,1,2,6,7], fun vs7 => ?_⟩
                     conv => whnf
                     refine ⟨cusC_pure CL, gusC_pure L, blC_pure CT, rwC_pure intR li, rwC_pure snR ls, ?_⟩
                     conv => whnf
                     have hfin : boxL b0 (tq.take (k + 1)) = addP (bx) tq[k].b := by rw [boxL_succ b0 hlt, ← hbx]; unfold addT; rw [e0, e2]
                     refine ⟨_, _, ?_, ?_, (⟨k + 1, hlt⟩, vs7), (by omega : tq.length - (k + 1) < tq.length - k), rfl, rfl⟩
                     ·exact (by (iterate 58 refine ⟨fun _=>rfl,?_⟩); refine ⟨fun ρ => sint_kV (wrap_add1 (n := tq.length) hlt (by rw [← htn]; exact htr)) ρ, ?_⟩; exact stm _)
                     ·exact (by (iterate 12 refine ⟨⟨rfl,rfl,rfl, fun _=>rfl⟩, ?_⟩); refine ⟨⟨rfl,rfl,rfl, fun ρ => (show cellsL ρ (bxC (addP (bx) tq[k].b) ++ [.int 0 (by decide)]) = cellsL ρ (bxC (boxL b0 (tq.take (k + 1))) ++ [.int 0 (by decide)]) by rw [hfin])⟩, ?_⟩; exact trivial)
                    ·conv => whnf
                     refine ⟨[0,1,2,3,4,5,6,7,8,9,10,11,12], [5,6,7,8,9,56,57,58], [0,1,2,6,7], fun vs7 => ?_⟩
                     conv => whnf
                     refine ⟨cusC_pure CL, gusC_pure L, blC_pure CT, rwC_pure intR li, rwC_pure snR ls, ?_⟩
                     conv => whnf
                     have hfin : boxL b0 (tq.take (k + 1)) = addP (addP (bx) tq[k].b) tq[k].c := by rw [boxL_succ b0 hlt, ← hbx]; unfold addT; rw [e0]
                     refine ⟨_, _, ?_, ?_, (⟨k + 1, hlt⟩, vs7), (by omega : tq.length - (k + 1) < tq.length - k), rfl, rfl⟩
                     ·exact (by (iterate 58 refine ⟨fun _=>rfl,?_⟩); refine ⟨fun ρ => sint_kV (wrap_add1 (n := tq.length) hlt (by rw [← htn]; exact htr)) ρ, ?_⟩; exact stm _)
                     ·exact (by (iterate 12 refine ⟨⟨rfl,rfl,rfl, fun _=>rfl⟩, ?_⟩); refine ⟨⟨rfl,rfl,rfl, fun ρ => (show cellsL ρ (bxC (addP (addP (bx) tq[k].b) tq[k].c) ++ [.int 0 (by decide)]) = cellsL ρ (bxC (boxL b0 (tq.take (k + 1))) ++ [.int 0 (by decide)]) by rw [hfin])⟩, ?_⟩; exact trivial)
                ·conv => whnf
                 refine bcase_intro (fun c0 => ?_) (fun c0 => ?_)
                 ·have c0 : eqQ tq[k].a (bx).hi = true := c0
                  have e0 : addP (bx) tq[k].a = bx := addP_hi hbl (eqQ_eq c0)
                  conv => whnf
                  refine bcase_intro (fun a1 => ?_) (fun a1 => ?_)
                  ·have a1 : eqQ tq[k].b (bx).lo = true := a1
                   have e1 : addP (bx) tq[k].b = bx := addP_lo hbl (eqQ_eq a1)
                   conv => whnf
                   refine bcase_intro (fun a2 => ?_) (fun a2 => ?_)
                   ·have a2 : eqQ tq[k].c (bx).lo = true := a2
                    have e2 : addP (bx) tq[k].c = bx := addP_lo hbl (eqQ_eq a2)
                    conv => whnf
                    refine ⟨[0,1,2,3,4,5,6,7,8,9,10,11,12], [5,6,7,8,9,56,57,58], [0,1,2,6,7], fun vs7 => ?_⟩
                    conv => whnf
                    refine ⟨cusC_pure CL, gusC_pure L, blC_pure CT, rwC_pure intR li, rwC_pure snR ls, ?_⟩
                    conv => whnf
                    have hfin : boxL b0 (tq.take (k + 1)) = bx := by rw [boxL_succ b0 hlt, ← hbx]; unfold addT; rw [e0, e1, e2]
                    refine ⟨_, _, ?_, ?_, (⟨k + 1, hlt⟩, vs7), (by omega : tq.length - (k + 1) < tq.length - k), rfl, rfl⟩
                    ·exact (by (iterate 58 refine ⟨fun _=>rfl,?_⟩); refine ⟨fun ρ => sint_kV (wrap_add1 (n := tq.length) hlt (by rw [← htn]; exact htr)) ρ, ?_⟩; exact stm _)
                    ·exact (by (iterate 12 refine ⟨⟨rfl,rfl,rfl, fun _=>rfl⟩, ?_⟩); refine ⟨⟨rfl,rfl,rfl, fun ρ => (show cellsL ρ (bxC (bx) ++ [.int 0 (by decide)]) = cellsL ρ (bxC (boxL b0 (tq.take (k + 1))) ++ [.int 0 (by decide)]) by rw [hfin])⟩, ?_⟩; exact trivial)
                   ·conv => whnf
                    refine bcase_intro (fun c2 => ?_) (fun c2 => ?_)
                    ·have c2 : eqQ tq[k].c (bx).hi = true := c2
                     have e2 : addP (bx) tq[k].c = bx := addP_hi hbl (eqQ_eq c2)
                     conv => whnf
                     refine ⟨[0,1,2,3,4,5,6,7,8,9,10,11,12], [5,6,7,8,9,56,57,58], [0,1,2,6,7], fun vs7 => ?_⟩
                     conv => whnf
                     refine ⟨cusC_pure CL, gusC_pure L, blC_pure CT, rwC_pure intR li, rwC_pure snR ls, ?_⟩
                     conv => whnf
                     have hfin : boxL b0 (tq.take (k + 1)) = bx := by rw [boxL_succ b0 hlt, ← hbx]; unfold addT; rw [e0, e1, e2]
                     refine ⟨_, _, ?_, ?_, (⟨k + 1, hlt⟩, vs7), (by omega : tq.length - (k + 1) < tq.length - k), rfl, rfl⟩
                     ·exact (by (iterate 58 refine ⟨fun _=>rfl,?_⟩); refine ⟨fun ρ => sint_kV (wrap_add1 (n := tq.length) hlt (by rw [← htn]; exact htr)) ρ, ?_⟩; exact stm _)
                     ·exact (by (iterate 12 refine ⟨⟨rfl,rfl,rfl, fun _=>rfl⟩, ?_⟩); refine ⟨⟨rfl,rfl,rfl, fun ρ => (show cellsL ρ (bxC (bx) ++ [.int 0 (by decide)]) = cellsL ρ (bxC (boxL b0 (tq.take (k + 1))) ++ [.int 0 (by decide)]) by rw [hfin])⟩, ?_⟩; exact trivial)
                    ·conv => whnf
                     refine ⟨[0,1,2,3,4,5,6,7,8,9,10,11,12], [5,6,7,8,9,56,57,58], [0,1,2,6,7], fun vs7 => ?_⟩
                     conv => whnf
                     refine ⟨cusC_pure CL, gusC_pure L, blC_pure CT, rwC_pure intR li, rwC_pure snR ls, ?_⟩
                     conv => whnf
                     have hfin : boxL b0 (tq.take (k + 1)) = addP (bx) tq[k].c := by rw [boxL_succ b0 hlt, ← hbx]; unfold addT; rw [e0, e1]
                     refine ⟨_, _, ?_, ?_, (⟨k + 1, hlt⟩, vs7), (by omega : tq.length - (k + 1) < tq.length - k), rfl, rfl⟩
                     ·exact (by (iterate 58 refine ⟨fun _=>rfl,?_⟩); refine ⟨fun ρ => sint_kV (wrap_add1 (n := tq.length) hlt (by rw [← htn]; exact htr)) ρ, ?_⟩; exact stm _)
                     ·exact (by (iterate 12 refine ⟨⟨rfl,rfl,rfl, fun _=>rfl⟩, ?_⟩); refine ⟨⟨rfl,rfl,rfl, fun ρ => (show cellsL ρ (bxC (addP (bx) tq[k].c) ++ [.int 0 (by decide)]) = cellsL ρ (bxC (boxL b0 (tq.take (k + 1))) ++ [.int 0 (by decide)]) by rw [hfin])⟩, ?_⟩; exact trivial)
                  ·conv => whnf
                   refine bcase_intro (fun c1 => ?_) (fun c1 => ?_)
                   ·have c1 : eqQ tq[k].b (bx).hi = true := c1
                    have e1 : addP (bx) tq[k].b = bx := addP_hi hbl (eqQ_eq c1)
                    conv => whnf
                    refine bcase_intro (fun a2 => ?_) (fun a2 => ?_)
                    ·have a2 : eqQ tq[k].c (bx).lo = true := a2
                     have e2 : addP (bx) tq[k].c = bx := addP_lo hbl (eqQ_eq a2)
                     conv => whnf
                     refine ⟨[0,1,2,3,4,5,6,7,8,9,10,11,12], [5,6,7,8,9,56,57,58], [0,1,2,6,7], fun vs7 => ?_⟩
                     conv => whnf
                     refine ⟨cusC_pure CL, gusC_pure L, blC_pure CT, rwC_pure intR li, rwC_pure snR ls, ?_⟩
                     conv => whnf
                     have hfin : boxL b0 (tq.take (k + 1)) = bx := by rw [boxL_succ b0 hlt, ← hbx]; unfold addT; rw [e0, e1, e2]
                     refine ⟨_, _, ?_, ?_, (⟨k + 1, hlt⟩, vs7), (by omega : tq.length - (k + 1) < tq.length - k), rfl, rfl⟩
                     ·exact (by (iterate 58 refine ⟨fun _=>rfl,?_⟩); refine ⟨fun ρ => sint_kV (wrap_add1 (n := tq.length) hlt (by rw [← htn]; exact htr)) ρ, ?_⟩; exact stm _)
                     ·exact (by (iterate 12 refine ⟨⟨rfl,rfl,rfl, fun _=>rfl⟩, ?_⟩); refine ⟨⟨rfl,rfl,rfl, fun ρ => (show cellsL ρ (bxC (bx) ++ [.int 0 (by decide)]) = cellsL ρ (bxC (boxL b0 (tq.take (k + 1))) ++ [.int 0 (by decide)]) by rw [hfin])⟩, ?_⟩; exact trivial)
                    ·conv => whnf
                     refine bcase_intro (fun c2 => ?_) (fun c2 => ?_)
                     ·have c2 : eqQ tq[k].c (bx).hi = true := c2
                      have e2 : addP (bx) tq[k].c = bx := addP_hi hbl (eqQ_eq c2)
                      conv => whnf
                      refine ⟨[0,1,2,3,4,5,6,7,8,9,10,11,12], [5,6,7,8,9,56,57,58], [0,1,2,6,7], fun vs7 => ?_⟩
                      conv => whnf
                      refine ⟨cusC_pure CL, gusC_pure L, blC_pure CT, rwC_pure intR li, rwC_pure snR ls, ?_⟩
                      conv => whnf
                      have hfin : boxL b0 (tq.take (k + 1)) = bx := by rw [boxL_succ b0 hlt, ← hbx]; unfold addT; rw [e0, e1, e2]
                      refine ⟨_, _, ?_, ?_, (⟨k + 1, hlt⟩, vs7), (by omega : tq.length - (k + 1) < tq.length - k), rfl, rfl⟩
                      ·exact (by (iterate 58 refine ⟨fun _=>rfl,?_⟩); refine ⟨fun ρ => sint_kV (wrap_add1 (n := tq.length) hlt (by rw [← htn]; exact htr)) ρ, ?_⟩; exact stm _)
                      ·exact (by (iterate 12 refine ⟨⟨rfl,rfl,rfl, fun _=>rfl⟩, ?_⟩); refine ⟨⟨rfl,rfl,rfl, fun ρ => (show cellsL ρ (bxC (bx) ++ [.int 0 (by decide)]) = cellsL ρ (bxC (boxL b0 (tq.take (k + 1))) ++ [.int 0 (by decide)]) by rw [hfin])⟩, ?_⟩; exact trivial)
                     ·conv => whnf
                      refine ⟨[0,1,2,3,4,5,6,7,8,9,10,11,12], [5,6,7,8,9,56,57,58], [0,1,2,6,7], fun vs7 => ?_⟩
                      conv => whnf
                      refine ⟨cusC_pure CL, gusC_pure L, blC_pure CT, rwC_pure intR li, rwC_pure snR ls, ?_⟩
                      conv => whnf
                      have hfin : boxL b0 (tq.take (k + 1)) = addP (bx) tq[k].c := by rw [boxL_succ b0 hlt, ← hbx]; unfold addT; rw [e0, e1]
                      refine ⟨_, _, ?_, ?_, (⟨k + 1, hlt⟩, vs7), (by omega : tq.length - (k + 1) < tq.length - k), rfl, rfl⟩
                      ·exact (by (iterate 58 refine ⟨fun _=>rfl,?_⟩); refine ⟨fun ρ => sint_kV (wrap_add1 (n := tq.length) hlt (by rw [← htn]; exact htr)) ρ, ?_⟩; exact stm _)
                      ·exact (by (iterate 12 refine ⟨⟨rfl,rfl,rfl, fun _=>rfl⟩, ?_⟩); refine ⟨⟨rfl,rfl,rfl, fun ρ => (show cellsL ρ (bxC (addP (bx) tq[k].c) ++ [.int 0 (by decide)]) = cellsL ρ (bxC (boxL b0 (tq.take (k + 1))) ++ [.int 0 (by decide)]) by rw [hfin])⟩, ?_⟩; exact trivial)
                   ·conv => whnf
                    refine bcase_intro (fun a2 => ?_) (fun a2 => ?_)
                    ·have a2 : eqQ tq[k].c (addP (bx) tq[k].b).lo = true := a2
                     have e2 : addP (addP (bx) tq[k].b) tq[k].c = addP (bx) tq[k].b := addP_lo (addP_le hbl tq[k].b) (eqQ_eq a2)
                     conv => whnf
                     refine ⟨[0,1,2,3,4,5,6,7,8,9,10,11,12], [5,6,7,8,9,56,57,58], [0,1,2,6,7], fun vs7 => ?_⟩
                     conv => whnf
                     refine ⟨cusC_pure CL, gusC_pure L, blC_pure CT, rwC_pure intR li, rwC_pure snR ls, ?_⟩
                     conv => whnf
                     have hfin : boxL b0 (tq.take (k + 1)) = addP (bx) tq[k].b := by rw [boxL_succ b0 hlt, ← hbx]; unfold addT; rw [e0, e2]
                     refine ⟨_, _, ?_, ?_, (⟨k + 1, hlt⟩, vs7), (by omega : tq.length - (k + 1) < tq.length - k), rfl, rfl⟩
                     ·exact (by (iterate 58 refine ⟨fun _=>rfl,?_⟩); refine ⟨fun ρ => sint_kV (wrap_add1 (n := tq.length) hlt (by rw [← htn]; exact htr)) ρ, ?_⟩; exact stm _)
                     ·exact (by (iterate 12 refine ⟨⟨rfl,rfl,rfl, fun _=>rfl⟩, ?_⟩); refine ⟨⟨rfl,rfl,rfl, fun ρ => (show cellsL ρ (bxC (addP (bx) tq[k].b) ++ [.int 0 (by decide)]) = cellsL ρ (bxC (boxL b0 (tq.take (k + 1))) ++ [.int 0 (by decide)]) by rw [hfin])⟩, ?_⟩; exact trivial)
                    ·conv => whnf
                     refine bcase_intro (fun c2 => ?_) (fun c2 => ?_)
                     ·have c2 : eqQ tq[k].c (addP (bx) tq[k].b).hi = true := c2
                      have e2 : addP (addP (bx) tq[k].b) tq[k].c = addP (bx) tq[k].b := addP_hi (addP_le hbl tq[k].b) (eqQ_eq c2)
                      conv => whnf
                      refine ⟨[0,1,2,3,4,5,6,7,8,9,10,11,12], [5,6,7,8,9,56,57,58], [0,1,2,6,7], fun vs7 => ?_⟩
                      conv => whnf
                      refine ⟨cusC_pure CL, gusC_pure L, blC_pure CT, rwC_pure intR li, rwC_pure snR ls, ?_⟩
                      conv => whnf
                      have hfin : boxL b0 (tq.take (k + 1)) = addP (bx) tq[k].b := by rw [boxL_succ b0 hlt, ← hbx]; unfold addT; rw [e0, e2]
                      refine ⟨_, _, ?_, ?_, (⟨k + 1, hlt⟩, vs7), (by omega : tq.length - (k + 1) < tq.length - k), rfl, rfl⟩
                      ·exact (by (iterate 58 refine ⟨fun _=>rfl,?_⟩); refine ⟨fun ρ => sint_kV (wrap_add1 (n := tq.length) hlt (by rw [← htn]; exact htr)) ρ, ?_⟩; exact stm _)
                      ·exact (by (iterate 12 refine ⟨⟨rfl,rfl,rfl, fun _=>rfl⟩, ?_⟩); refine ⟨⟨rfl,rfl,rfl, fun ρ => (show cellsL ρ (bxC (addP (bx) tq[k].b) ++ [.int 0 (by decide)]) = cellsL ρ (bxC (boxL b0 (tq.take (k + 1))) ++ [.int 0 (by decide)]) by rw [hfin])⟩, ?_⟩; exact trivial)
                     ·conv => whnf
                      refine ⟨[0,1,2,3,4,5,6,7,8,9,10,11,12], [5,6,7,8,9,56,57,58], [0,1,2,6,7], fun vs7 => ?_⟩
                      conv => whnf
                      refine ⟨cusC_pure CL, gusC_pure L, blC_pure CT, rwC_pure intR li, rwC_pure snR ls, ?_⟩
                      conv => whnf
                      have hfin : boxL b0 (tq.take (k + 1)) = addP (addP (bx) tq[k].b) tq[k].c := by rw [boxL_succ b0 hlt, ← hbx]; unfold addT; rw [e0]
                      refine ⟨_, _, ?_, ?_, (⟨k + 1, hlt⟩, vs7), (by omega : tq.length - (k + 1) < tq.length - k), rfl, rfl⟩
                      ·exact (by (iterate 58 refine ⟨fun _=>rfl,?_⟩); refine ⟨fun ρ => sint_kV (wrap_add1 (n := tq.length) hlt (by rw [← htn]; exact htr)) ρ, ?_⟩; exact stm _)
                      ·exact (by (iterate 12 refine ⟨⟨rfl,rfl,rfl, fun _=>rfl⟩, ?_⟩); refine ⟨⟨rfl,rfl,rfl, fun ρ => (show cellsL ρ (bxC (addP (addP (bx) tq[k].b) tq[k].c) ++ [.int 0 (by decide)]) = cellsL ρ (bxC (boxL b0 (tq.take (k + 1))) ++ [.int 0 (by decide)]) by rw [hfin])⟩, ?_⟩; exact trivial)
                 ·conv => whnf
                  refine bcase_intro (fun a1 => ?_) (fun a1 => ?_)
                  ·have a1 : eqQ tq[k].b (addP (bx) tq[k].a).lo = true := a1
                   have e1 : addP (addP (bx) tq[k].a) tq[k].b = addP (bx) tq[k].a := addP_lo (addP_le hbl tq[k].a) (eqQ_eq a1)
                   conv => whnf
                   refine bcase_intro (fun a2 => ?_) (fun a2 => ?_)
                   ·have a2 : eqQ tq[k].c (addP (bx) tq[k].a).lo = true := a2
                    have e2 : addP (addP (bx) tq[k].a) tq[k].c = addP (bx) tq[k].a := addP_lo (addP_le hbl tq[k].a) (eqQ_eq a2)
                    conv => whnf
                    refine ⟨[0,1,2,3,4,5,6,7,8,9,10,11,12], [5,6,7,8,9,56,57,58], [0,1,2,6,7], fun vs7 => ?_⟩
                    conv => whnf
                    refine ⟨cusC_pure CL, gusC_pure L, blC_pure CT, rwC_pure intR li, rwC_pure snR ls, ?_⟩
                    conv => whnf
                    have hfin : boxL b0 (tq.take (k + 1)) = addP (bx) tq[k].a := by rw [boxL_succ b0 hlt, ← hbx]; unfold addT; rw [e1, e2]
                    refine ⟨_, _, ?_, ?_, (⟨k + 1, hlt⟩, vs7), (by omega : tq.length - (k + 1) < tq.length - k), rfl, rfl⟩
                    ·exact (by (iterate 58 refine ⟨fun _=>rfl,?_⟩); refine ⟨fun ρ => sint_kV (wrap_add1 (n := tq.length) hlt (by rw [← htn]; exact htr)) ρ, ?_⟩; exact stm _)
                    ·exact (by (iterate 12 refine ⟨⟨rfl,rfl,rfl, fun _=>rfl⟩, ?_⟩); refine ⟨⟨rfl,rfl,rfl, fun ρ => (show cellsL ρ (bxC (addP (bx) tq[k].a) ++ [.int 0 (by decide)]) = cellsL ρ (bxC (boxL b0 (tq.take (k + 1))) ++ [.int 0 (by decide)]) by rw [hfin])⟩, ?_⟩; exact trivial)
                   ·conv => whnf
                    refine bcase_intro (fun c2 => ?_) (fun c2 => ?_)
                    ·have c2 : eqQ tq[k].c (addP (bx) tq[k].a).hi = true := c2
                     have e2 : addP (addP (bx) tq[k].a) tq[k].c = addP (bx) tq[k].a := addP_hi (addP_le hbl tq[k].a) (eqQ_eq c2)
                     conv => whnf
                     refine ⟨[0,1,2,3,4,5,6,7,8,9,10,11,12], [5,6,7,8,9,56,57,58], [0,1,2,6,7], fun vs7 => ?_⟩
                     conv => whnf
                     refine ⟨cusC_pure CL, gusC_pure L, blC_pure CT, rwC_pure intR li, rwC_pure snR ls, ?_⟩
                     conv => whnf
                     have hfin : boxL b0 (tq.take (k + 1)) = addP (bx) tq[k].a := by rw [boxL_succ b0 hlt, ← hbx]; unfold addT; rw [e1, e2]
                     refine ⟨_, _, ?_, ?_, (⟨k + 1, hlt⟩, vs7), (by omega : tq.length - (k + 1) < tq.length - k), rfl, rfl⟩
                     ·exact (by (iterate 58 refine ⟨fun _=>rfl,?_⟩); refine ⟨fun ρ => sint_kV (wrap_add1 (n := tq.length) hlt (by rw [← htn]; exact htr)) ρ, ?_⟩; exact stm _)
                     ·exact (by (iterate 12 refine ⟨⟨rfl,rfl,rfl, fun _=>rfl⟩, ?_⟩); refine ⟨⟨rfl,rfl,rfl, fun ρ => (show cellsL ρ (bxC (addP (bx) tq[k].a) ++ [.int 0 (by decide)]) = cellsL ρ (bxC (boxL b0 (tq.take (k + 1))) ++ [.int 0 (by decide)]) by rw [hfin])⟩, ?_⟩; exact trivial)
                    ·conv => whnf
                     refine ⟨[0,1,2,3,4,5,6,7,8,9,10,11,12], [5,6,7,8,9,56,57,58], [0,1,2,6,7], fun vs7 => ?_⟩
                     conv => whnf
                     refine ⟨cusC_pure CL, gusC_pure L, blC_pure CT, rwC_pure intR li, rwC_pure snR ls, ?_⟩
                     conv => whnf
                     have hfin : boxL b0 (tq.take (k + 1)) = addP (addP (bx) tq[k].a) tq[k].c := by rw [boxL_succ b0 hlt, ← hbx]; unfold addT; rw [e1]
                     refine ⟨_, _, ?_, ?_, (⟨k + 1, hlt⟩, vs7), (by omega : tq.length - (k + 1) < tq.length - k), rfl, rfl⟩
                     ·exact (by (iterate 58 refine ⟨fun _=>rfl,?_⟩); refine ⟨fun ρ => sint_kV (wrap_add1 (n := tq.length) hlt (by rw [← htn]; exact htr)) ρ, ?_⟩; exact stm _)
                     ·exact (by (iterate 12 refine ⟨⟨rfl,rfl,rfl, fun _=>rfl⟩, ?_⟩); refine ⟨⟨rfl,rfl,rfl, fun ρ => (show cellsL ρ (bxC (addP (addP (bx) tq[k].a) tq[k].c) ++ [.int 0 (by decide)]) = cellsL ρ (bxC (boxL b0 (tq.take (k + 1))) ++ [.int 0 (by decide)]) by rw [hfin])⟩, ?_⟩; exact trivial)
                  ·conv => whnf
                   refine bcase_intro (fun c1 => ?_) (fun c1 => ?_)
                   ·have c1 : eqQ tq[k].b (addP (bx) tq[k].a).hi = true := c1
                    have e1 : addP (addP (bx) tq[k].a) tq[k].b = addP (bx) tq[k].a := addP_hi (addP_le hbl tq[k].a) (eqQ_eq c1)
                    conv => whnf
                    refine bcase_intro (fun a2 => ?_) (fun a2 => ?_)
                    ·have a2 : eqQ tq[k].c (addP (bx) tq[k].a).lo = true := a2
                     have e2 : addP (addP (bx) tq[k].a) tq[k].c = addP (bx) tq[k].a := addP_lo (addP_le hbl tq[k].a) (eqQ_eq a2)
                     conv => whnf
                     refine ⟨[0,1,2,3,4,5,6,7,8,9,10,11,12], [5,6,7,8,9,56,57,58], [0,1,2,6,7], fun vs7 => ?_⟩
                     conv => whnf
                     refine ⟨cusC_pure CL, gusC_pure L, blC_pure CT, rwC_pure intR li, rwC_pure snR ls, ?_⟩
                     conv => whnf
                     have hfin : boxL b0 (tq.take (k + 1)) = addP (bx) tq[k].a := by rw [boxL_succ b0 hlt, ← hbx]; unfold addT; rw [e1, e2]
                     refine ⟨_, _, ?_, ?_, (⟨k + 1, hlt⟩, vs7), (by omega : tq.length - (k + 1) < tq.length - k), rfl, rfl⟩
                     ·exact (by (iterate 58 refine ⟨fun _=>rfl,?_⟩); refine ⟨fun ρ => sint_kV (wrap_add1 (n := tq.length) hlt (by rw [← htn]; exact htr)) ρ, ?_⟩; exact stm _)
                     ·exact (by (iterate 12 refine ⟨⟨rfl,rfl,rfl, fun _=>rfl⟩, ?_⟩); refine ⟨⟨rfl,rfl,rfl, fun ρ => (show cellsL ρ (bxC (addP (bx) tq[k].a) ++ [.int 0 (by decide)]) = cellsL ρ (bxC (boxL b0 (tq.take (k + 1))) ++ [.int 0 (by decide)]) by rw [hfin])⟩, ?_⟩; exact trivial)
                    ·conv => whnf
                     refine bcase_intro (fun c2 => ?_) (fun c2 => ?_)
                     ·have c2 : eqQ tq[k].c (addP (bx) tq[k].a).hi = true := c2
                      have e2 : addP (addP (bx) tq[k].a) tq[k].c = addP (bx) tq[k].a := addP_hi (addP_le hbl tq[k].a) (eqQ_eq c2)
                      conv => whnf
                      refine ⟨[0,1,2,3,4,5,6,7,8,9,10,11,12], [5,6,7,8,9,56,57,58], [0,1,2,6,7], fun vs7 => ?_⟩
                      conv => whnf
                      refine ⟨cusC_pure CL, gusC_pure L, blC_pure CT, rwC_pure intR li, rwC_pure snR ls, ?_⟩
                      conv => whnf
                      have hfin : boxL b0 (tq.take (k + 1)) = addP (bx) tq[k].a := by rw [boxL_succ b0 hlt, ← hbx]; unfold addT; rw [e1, e2]
                      refine ⟨_, _, ?_, ?_, (⟨k + 1, hlt⟩, vs7), (by omega : tq.length - (k + 1) < tq.length - k), rfl, rfl⟩
                      ·exact (by (iterate 58 refine ⟨fun _=>rfl,?_⟩); refine ⟨fun ρ => sint_kV (wrap_add1 (n := tq.length) hlt (by rw [← htn]; exact htr)) ρ, ?_⟩; exact stm _)
                      ·exact (by (iterate 12 refine ⟨⟨rfl,rfl,rfl, fun _=>rfl⟩, ?_⟩); refine ⟨⟨rfl,rfl,rfl, fun ρ => (show cellsL ρ (bxC (addP (bx) tq[k].a) ++ [.int 0 (by decide)]) = cellsL ρ (bxC (boxL b0 (tq.take (k + 1))) ++ [.int 0 (by decide)]) by rw [hfin])⟩, ?_⟩; exact trivial)
                     ·conv => whnf
                      refine ⟨[0,1,2,3,4,5,6,7,8,9,10,11,12], [5,6,7,8,9,56,57,58], [0,1,2,6,7], fun vs7 => ?_⟩
                      conv => whnf
                      refine ⟨cusC_pure CL, gusC_pure L, blC_pure CT, rwC_pure intR li, rwC_pure snR ls, ?_⟩
                      conv => whnf
                      have hfin : boxL b0 (tq.take (k + 1)) = addP (addP (bx) tq[k].a) tq[k].c := by rw [boxL_succ b0 hlt, ← hbx]; unfold addT; rw [e1]
                      refine ⟨_, _, ?_, ?_, (⟨k + 1, hlt⟩, vs7), (by omega : tq.length - (k + 1) < tq.length - k), rfl, rfl⟩
                      ·exact (by (iterate 58 refine ⟨fun _=>rfl,?_⟩); refine ⟨fun ρ => sint_kV (wrap_add1 (n := tq.length) hlt (by rw [← htn]; exact htr)) ρ, ?_⟩; exact stm _)
                      ·exact (by (iterate 12 refine ⟨⟨rfl,rfl,rfl, fun _=>rfl⟩, ?_⟩); refine ⟨⟨rfl,rfl,rfl, fun ρ => (show cellsL ρ (bxC (addP (addP (bx) tq[k].a) tq[k].c) ++ [.int 0 (by decide)]) = cellsL ρ (bxC (boxL b0 (tq.take (k + 1))) ++ [.int 0 (by decide)]) by rw [hfin])⟩, ?_⟩; exact trivial)
                   ·conv => whnf
                    refine bcase_intro (fun a2 => ?_) (fun a2 => ?_)
                    ·have a2 : eqQ tq[k].c (addP (addP (bx) tq[k].a) tq[k].b).lo = true := a2
                     have e2 : addP (addP (addP (bx) tq[k].a) tq[k].b) tq[k].c = addP (addP (bx) tq[k].a) tq[k].b := addP_lo (addP_le (addP_le hbl tq[k].a) tq[k].b) (eqQ_eq a2)
                     conv => whnf
                     refine ⟨[0,1,2,3,4,5,6,7,8,9,10,11,12], [5,6,7,8,9,56,57,58], [0,1,2,6,7], fun vs7 => ?_⟩
                     conv => whnf
                     refine ⟨cusC_pure CL, gusC_pure L, blC_pure CT, rwC_pure intR li, rwC_pure snR ls, ?_⟩
                     conv => whnf
                     have hfin : boxL b0 (tq.take (k + 1)) = addP (addP (bx) tq[k].a) tq[k].b := by rw [boxL_succ b0 hlt, ← hbx]; unfold addT; rw [e2]
                     refine ⟨_, _, ?_, ?_, (⟨k + 1, hlt⟩, vs7), (by omega : tq.length - (k + 1) < tq.length - k), rfl, rfl⟩
                     ·exact (by (iterate 58 refine ⟨fun _=>rfl,?_⟩); refine ⟨fun ρ => sint_kV (wrap_add1 (n := tq.length) hlt (by rw [← htn]; exact htr)) ρ, ?_⟩; exact stm _)
                     ·exact (by (iterate 12 refine ⟨⟨rfl,rfl,rfl, fun _=>rfl⟩, ?_⟩); refine ⟨⟨rfl,rfl,rfl, fun ρ => (show cellsL ρ (bxC (addP (addP (bx) tq[k].a) tq[k].b) ++ [.int 0 (by decide)]) = cellsL ρ (bxC (boxL b0 (tq.take (k + 1))) ++ [.int 0 (by decide)]) by rw [hfin])⟩, ?_⟩; exact trivial)
                    ·conv => whnf
                     refine bcase_intro (fun c2 => ?_) (fun c2 => ?_)
                     ·have c2 : eqQ tq[k].c (addP (addP (bx) tq[k].a) tq[k].b).hi = true := c2
                      have e2 : addP (addP (addP (bx) tq[k].a) tq[k].b) tq[k].c = addP (addP (bx) tq[k].a) tq[k].b := addP_hi (addP_le (addP_le hbl tq[k].a) tq[k].b) (eqQ_eq c2)
                      conv => whnf
                      refine ⟨[0,1,2,3,4,5,6,7,8,9,10,11,12], [5,6,7,8,9,56,57,58], [0,1,2,6,7], fun vs7 => ?_⟩
                      conv => whnf
                      refine ⟨cusC_pure CL, gusC_pure L, blC_pure CT, rwC_pure intR li, rwC_pure snR ls, ?_⟩
                      conv => whnf
                      have hfin : boxL b0 (tq.take (k + 1)) = addP (addP (bx) tq[k].a) tq[k].b := by rw [boxL_succ b0 hlt, ← hbx]; unfold addT; rw [e2]
                      refine ⟨_, _, ?_, ?_, (⟨k + 1, hlt⟩, vs7), (by omega : tq.length - (k + 1) < tq.length - k), rfl, rfl⟩
                      ·exact (by (iterate 58 refine ⟨fun _=>rfl,?_⟩); refine ⟨fun ρ => sint_kV (wrap_add1 (n := tq.length) hlt (by rw [← htn]; exact htr)) ρ, ?_⟩; exact stm _)
                      ·exact (by (iterate 12 refine ⟨⟨rfl,rfl,rfl, fun _=>rfl⟩, ?_⟩); refine ⟨⟨rfl,rfl,rfl, fun ρ => (show cellsL ρ (bxC (addP (addP (bx) tq[k].a) tq[k].b) ++ [.int 0 (by decide)]) = cellsL ρ (bxC (boxL b0 (tq.take (k + 1))) ++ [.int 0 (by decide)]) by rw [hfin])⟩, ?_⟩; exact trivial)
                     ·conv => whnf
                      refine ⟨[0,1,2,3,4,5,6,7,8,9,10,11,12], [5,6,7,8,9,56,57,58], [0,1,2,6,7], fun vs7 => ?_⟩
                      conv => whnf
                      refine ⟨cusC_pure CL, gusC_pure L, blC_pure CT, rwC_pure intR li, rwC_pure snR ls, ?_⟩
                      conv => whnf
                      have hfin : boxL b0 (tq.take (k + 1)) = addP (addP (addP (bx) tq[k].a) tq[k].b) tq[k].c := by rw [boxL_succ b0 hlt, ← hbx]; rfl
                      refine ⟨_, _, ?_, ?_, (⟨k + 1, hlt⟩, vs7), (by omega : tq.length - (k + 1) < tq.length - k), rfl, rfl⟩
                      ·exact (by (iterate 58 refine ⟨fun _=>rfl,?_⟩); refine ⟨fun ρ => sint_kV (wrap_add1 (n := tq.length) hlt (by rw [← htn]; exact htr)) ρ, ?_⟩; exact stm _)
                      ·exact (by (iterate 12 refine ⟨⟨rfl,rfl,rfl, fun _=>rfl⟩, ?_⟩); refine ⟨⟨rfl,rfl,rfl, fun ρ => (show cellsL ρ (bxC (addP (addP (addP (bx) tq[k].a) tq[k].b) tq[k].c) ++ [.int 0 (by decide)]) = cellsL ρ (bxC (boxL b0 (tq.take (k + 1))) ++ [.int 0 (by decide)]) by rw [hfin])⟩, ?_⟩; exact trivial)
               ·have hge : tq.length ≤ k := by rw [← htn]; exact n_ge hlt
                obtain rfl : k = tq.length := Nat.le_antisymm hk hge
                rw [List.take_length] at hbx
                rw [← hbx] at hK
                conv => whnf
                exact hK _ _ _
end Go.Proofs.YthmdmbpecgakkaaDoor
