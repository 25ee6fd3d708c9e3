/- lod.indices, by the reckoner. lod.makers, by the reckoner. lod.Valid: whether a cut is one of a sound graph. lod.Shown: the clusters that a cut shows. lod.changed: a copy of a valid cut. lod.Refine: a group taken back. -/
import Derived.Test.YthmdmbpecgakkaaDoorVga
import Derived.Test.YthmdmbpecgakkaaDoorIta
import Derived.Test.YthmdmbpecgakkaaDoorOL
namespace Go.Proofs.YthmdmbpecgakkaaDoor
open Go.RowKit
set_option maxRecDepth 100000

def blC : List Bool → List C
 | [] => []
 | b :: l => .val (.bool b) :: blC l
theorem blC_pure : ∀ l : List Bool, PureL (blC l)
 | [] => fun _ _=>rfl
 | b :: l => fun ρ ρ' => by
  have h := blC_pure l ρ ρ'
  rw [blC, List.flatMap_cons, List.flatMap_cons, h]; rfl
def envV (un : Nat) : Env := { env un base with O := oAdr tyT (oMap Tryd.prog tyT), R := lodR }
theorem envV_ok (un : Nat) : EOk Tryd.prog (envV un) := ⟨(env_ok base_ok un).T, (env_ok base_ok un).D, oAdr_ok tyT_ok (oMap_ok tyT_ok), lodR_ok⟩
noncomputable def lodF : FuncId → Option Func := lk [(37, Tryd.f37), (38, Tryd.f38), (60, Tryd.f60), (39, Tryd.f39), (62, Tryd.f62), (61, Tryd.f61), (70, Tryd.f70)]
theorem lodF_ok : ∀ f fn, lodF f = some fn → FnOk Tryd.prog f fn := lkF_ok fun x hx => by
 simp only [List.mem_cons, List.not_mem_nil, or_false] at hx
 rcases hx with rfl | rfl | rfl | rfl | rfl | rfl | rfl
 ·exact ⟨Tryd.func37, by kernel_rfl, by kernel_rfl⟩
 ·exact ⟨Tryd.func38, by kernel_rfl, by kernel_rfl⟩
 ·exact ⟨Tryd.func60, by kernel_rfl, by kernel_rfl⟩
 ·exact ⟨Tryd.func39, by kernel_rfl, by kernel_rfl⟩
 ·exact ⟨Tryd.func62, by kernel_rfl, by kernel_rfl⟩
 ·exact ⟨Tryd.func61, by kernel_rfl, by kernel_rfl⟩
 ·exact ⟨Tryd.func70, by kernel_rfl, by kernel_rfl⟩
theorem q_ir {n m q : Nat} (h : IR (n : Nat)) (e : n = m) (hq : q ≤ m) : IR (q : Nat) := by unfold IR at *; omega
theorem inR_step {l : List ZV} {n q : Nat} (hq : q < l.length) (h : (l.take q).all (inR n) = true) (h1 : decide (l[q].x < 0) = false) (h2 : decide ((n : Int) ≤ l[q].x) = false) : (l.take (q + 1)).all (inR n) = true := by
 rw [List.take_add_one, List.getElem?_eq_getElem hq, Option.toList_some, List.all_append, h]
 have h3 : l[q].x < (n : Int) := by have := of_decide_eq_false h2; omega
 simp only [List.all_cons, List.all_nil, inR, h1, decide_eq_true h3]
 rfl
theorem idxg_step {L : List GU} {n j : Nat} (hj : j < L.length) (h : (L.take j).all (idxGu n) = true) (h1 : L[j].il.all (inR n) = true) (h2 : L[j].ol.all (inR n) = true) : (L.take (j + 1)).all (idxGu n) = true := by
 rw [List.take_add_one, List.getElem?_eq_getElem hj, Option.toList_some, List.all_append, h]
 simp only [List.all_cons, List.all_nil, idxGu, h1, h2]
 rfl
theorem idx_step {CL : List CU} {m k : Nat} (hk : k < CL.length) (h : (CL.take k).all (idxCu m) = true) (h1 : decide (minI CL[k].made CL[k].used < -1) = false) (h2 : decide ((m : Int) ≤ maxI CL[k].made CL[k].used) = false) : (CL.take (k + 1)).all (idxCu m) = true := by
 rw [List.take_add_one, List.getElem?_eq_getElem hk, Option.toList_some, List.all_append, h]
 simp only [List.all_cons, List.all_nil, idxCu, h1, h2]
 rfl
theorem no_cu {CL : List CU} {L : List GU} {k : Nat} (hk : k < CL.length) (h : idxCu L.length CL[k] = false) : idxG CL L = false := by
 unfold idxG
 rw [Bool.and_eq_false_iff]
 left
 rw [List.all_eq_false]
 exact ⟨_, List.getElem_mem hk, by rw [h]; decide⟩
theorem no_gu {CL : List CU} {L : List GU} {j : Nat} (hj : j < L.length) (h : L[j].il.all (inR CL.length) = false ∨ L[j].ol.all (inR CL.length) = false) : idxG CL L = false := by
 unfold idxG
 rw [Bool.and_eq_false_iff]
 right
 rw [List.all_eq_false]
 refine ⟨_, List.getElem_mem hj, ?_⟩
 unfold idxGu
 rcases h with h | h
 ·rw [h, Bool.false_and]; decide
 ·rw [h, Bool.and_false]; decide
theorem inR_hi {z : ZV} {n : Nat} (h : decide ((n : Int) ≤ z.x) = true) : inR n z = false := by
 have h9 : ¬ (z.x < (n : Int)) := by have := of_decide_eq_true h; omega
 unfold inR; rw [decide_eq_false h9, Bool.and_false]
theorem no_inR {l : List ZV} {n q : Nat} (hq : q < l.length) (h : inR n l[q] = false) : l.all (inR n) = false := by
 rw [List.all_eq_false]
 exact ⟨_, List.getElem_mem hq, by rw [h]; decide⟩
set_option maxHeartbeats 16000000 in
theorem indices_vc {n1 : Bool} {CL : List CU} {c1 : Nat} {h1 : SliOk n1 CL.length c1} {n2 : Bool} {L : List GU} {c2 : Nat} {h2 : SliOk n2 L.length c2} {n3 : Bool} {CT : List Bool} {c3 : Nat} {h3 : SliOk n3 CT.length c3} {fam : List Ent} {tc td tt : TypeId} (hL : ∀ g ∈ L, g.Ok fam) {K : SV → List Blk → Prop}
  (hF : idxG CL L = false → ∀ ex, K (.c (.val (.bool false))) (⟨.t tc, true, cusC CL, 0⟩ :: ⟨.t td, true, gusC L, 0⟩ :: ⟨.t tt, true, blC CT, 0⟩ :: ⟨.x fam, true, [], 3⟩ :: ⟨53, false, [.sli n1 0 0 CL.length c1 h1, .sli n2 1 0 L.length c2 h2], 0⟩ :: ⟨57, false, [.sli n3 2 0 CT.length c3 h3], 0⟩ :: ⟨4, false, [.val (.bool false)], 0⟩ :: ex)) (hT : idxG CL L = true → ∀ ex, K (.c (.val (.bool true))) (⟨.t tc, true, cusC CL, 0⟩ :: ⟨.t td, true, gusC L, 0⟩ :: ⟨.t tt, true, blC CT, 0⟩ :: ⟨.x fam, true, [], 3⟩ :: ⟨53, false, [.sli n1 0 0 CL.length c1 h1, .sli n2 1 0 L.length c2 h2], 0⟩ :: ⟨57, false, [.sli n3 2 0 CT.length c3 h3], 0⟩ :: ⟨4, false, [.val (.bool false)], 0⟩ :: ex)) :
  inl (envV 0) lodF 6 37 [.c (.ptr 4 0)] [⟨.t tc, true, cusC CL, 0⟩, ⟨.t td, true, gusC L, 0⟩, ⟨.t tt, true, blC CT, 0⟩, ⟨.x fam, true, [], 3⟩, ⟨53, false, [.sli n1 0 0 CL.length c1 h1, .sli n2 1 0 L.length c2 h2], 0⟩, ⟨57, false, [.sli n3 2 0 CT.length c3 h3], 0⟩, ⟨4, false, [.val (.bool false)], 0⟩] K := by
 conv => whnf
 refine loop_st (G := {k : Nat // k ≤ CL.length ∧ (CL.take k).all (idxCu L.length) = true} × (Nat → Value)) (fun g => (.c (.val (g.2 0)) :: .c (.ptr 7 0) :: .c (.ptr 8 0) :: .c (.val (g.2 3)) :: .c (.val (g.2 4)) :: .c (.val (g.2 5)) :: .c (.val (g.2 6)) :: .c (.val (g.2 7)) :: .c (.val (g.2 8)) :: .c (.val (g.2 9)) :: .c (.val (g.2 10)) :: .c (.val (g.2 11)) :: .c (.sli n1 0 0 CL.length c1 h1) :: .c (.int (CL.length : Nat) (lt_irV h1 (Nat.le_refl _))) :: .c (.int (g.1.1 : Nat) (lt_irV h1 g.1.2.1)) :: .c (.val (g.2 15)) :: .c (.val (g.2 16)) :: .c (.val (g.2 17)) :: .c (.val (g.2 18)) :: .c (.val (g.2 19)) :: .c (.val (g.2 20)) :: .c (.val (g.2 21)) :: .c (.val (g.2 22)) :: .c (.val (g.2 23)) :: .c (.val (g.2 24)) :: .c (.val (g.2 25)) :: .c (.val (g.2 26)) :: .c (.val (g.2 27)) :: .c (.val (g.2 28)) :: .c (.val (g.2 29)) :: .c (.val (g.2 30)) :: .c (.val (g.2 31)) :: .c (.val (g.2 32)) :: .c (.val (g.2 33)) :: .c (.val (g.2 34)) :: .c (.val (g.2 35)) :: .c (.val (g.2 36)) :: .c (.val (g.2 37)) :: .c (.val (g.2 38)) :: .c (.val (g.2 39)) :: .c (.val (g.2 40)) :: .c (.val (g.2 41)) :: .c (.val (g.2 42)) :: .c (.val (g.2 43)) :: .c (.val (g.2 44)) :: .c (.val (g.2 45)) :: .c (.val (g.2 46)) :: .c (.val (g.2 47)) :: .c (.val (g.2 48)) :: .c (.val (g.2 49)) :: [])) (fun g => [⟨.t tc, true, cusC CL, 0⟩, ⟨.t td, true, gusC L, 0⟩, ⟨.t tt, true, blC CT, 0⟩, ⟨.x fam, true, [], 3⟩, ⟨53, false, [.sli n1 0 0 CL.length c1 h1, .sli n2 1 0 L.length c2 h2], 0⟩, ⟨57, false, [.sli n3 2 0 CT.length c3 h3], 0⟩, ⟨4, false, [.val (.bool false)], 0⟩, ⟨69, false, [.ptr 4 0], 0⟩, ⟨4, false, [.val (.bool false)], 0⟩]) (fun g => CL.length - g.1.1) ?_ ?_
 ·refine ⟨[0,1,2,3,4,5,6,7,8], [1,2,12,13,14], [0,1,2], fun vs => ?_⟩
  conv => whnf
  refine ⟨cusC_pure CL, gusC_pure L, blC_pure CT, ?_⟩
  conv => whnf
  refine ⟨_, _, ?_, ?_, (⟨0, Nat.zero_le _, rfl⟩, vs), rfl, rfl⟩
  ·exact (by (iterate 15 refine ⟨fun _=>rfl,?_⟩); exact stm _)
  ·exact ⟨⟨rfl,rfl,rfl, fun _=>rfl⟩, ⟨rfl,rfl,rfl, fun _=>rfl⟩, ⟨rfl,rfl,rfl, fun _=>rfl⟩, ⟨rfl,rfl,rfl, fun _=>rfl⟩, ⟨rfl,rfl,rfl, fun _=>rfl⟩, ⟨rfl,rfl,rfl, fun _=>rfl⟩, ⟨rfl,rfl,rfl, fun _=>rfl⟩, ⟨rfl,rfl,rfl, fun _=>rfl⟩, ⟨rfl,rfl,rfl, fun _=>rfl⟩, trivial⟩
 ·rintro ⟨⟨k, hk, hall⟩, vs⟩
  have hk : k ≤ CL.length := hk
  have hall : (CL.take k).all (idxCu L.length) = true := hall
  dsimp only
  conv => whnf
  refine bcase_intro (fun hlt => ?_) (fun hlt => ?_)
  ·have hlt : k < CL.length := n_lt hlt
   conv => whnf
   conv =>
    arg 2
    tactic' =>
     apply eff_index_sli (k := k) (hi := lt_irV h1 hk) (ho := ?how3) (hT := ?hTw3) (hx := ?hxw3) (hk := ?hkw3) (hlt := ?hltw3)
     case how3 => rfl
     case hTw3 => rfl
     case hxw3 => rfl
     case hkw3 => rfl
     case hltw3 => exact hlt
   conv => whnf
   conv =>
    arg 2
    tactic' =>
     apply eff_load_sub (ho := ?how4) (hT := ?hTw4) (hx := ?hxw4) (hb := ?hbw4) (hm := ?hmw4) (hv := ?hvw4)
     case how4 => rfl
     case hTw4 => rfl
     case hxw4 => rfl
     case hbw4 => rfl
     case hmw4 => exact subC_cus CL hlt
     case hvw4 => rfl
   conv => whnf
   generalize hba : decide (minI CL[k].made CL[k].used < -1) = ba
   cases ba
   ·conv => whnf
    refine bcase_intro (fun hbb => ?_) (fun hbb => ?_)
    ·have hbb : decide ((L.length : Int) ≤ maxI CL[k].made CL[k].used) = true := hbb
     conv => whnf
     exact hF (no_cu hlt (by unfold idxCu; rw [hbb, Bool.not_true, Bool.and_false])) _
    ·have hbb : decide ((L.length : Int) ≤ maxI CL[k].made CL[k].used) = false := hbb
     conv => whnf
     refine ⟨[0,1,2,3,4,5,6,7,8], [1,2,12,13,14], [0,1,2], fun vs2 => ?_⟩
     conv => whnf
     refine ⟨cusC_pure CL, gusC_pure L, blC_pure CT, ?_⟩
     conv => whnf
     refine ⟨_, _, ?_, ?_, (⟨k + 1, hlt, idx_step hlt hall hba hbb⟩, vs2), (by omega : CL.length - (k + 1) < CL.length - k), rfl, rfl⟩
     ·exact (by (iterate 14 refine ⟨fun _=>rfl,?_⟩); refine ⟨fun ρ => sint_kV (wrap_add1 hlt h1.ir) ρ, ?_⟩; exact stm _)
     ·exact ⟨⟨rfl,rfl,rfl, fun _=>rfl⟩, ⟨rfl,rfl,rfl, fun _=>rfl⟩, ⟨rfl,rfl,rfl, fun _=>rfl⟩, ⟨rfl,rfl,rfl, fun _=>rfl⟩, ⟨rfl,rfl,rfl, fun _=>rfl⟩, ⟨rfl,rfl,rfl, fun _=>rfl⟩, ⟨rfl,rfl,rfl, fun _=>rfl⟩, ⟨rfl,rfl,rfl, fun _=>rfl⟩, ⟨rfl,rfl,rfl, fun _=>rfl⟩, trivial⟩
   ·conv => whnf
    exact hF (no_cu hlt (by unfold idxCu; rw [hba]; rfl)) _
  ·have hge : CL.length ≤ k := n_ge hlt
   obtain rfl : k = CL.length := Nat.le_antisymm hk hge
   rw [List.take_length] at hall
   conv => whnf
   refine .inl ⟨rfl, 9, 4, 1, 0, _, _, _, _, _, _, _, _, _, _, _, _, n1, _, c1, h1, n2, L, c2, h2, CL, rfl,rfl,rfl,rfl,rfl, ?_⟩
   refine ⟨keepR_one rfl rfl (fun _=>rfl) (keepR_one rfl rfl (fun _=>rfl) (keepR_one rfl rfl (fun _=>rfl) (keepR_one rfl rfl (fun _=>rfl) trivial))), ?_⟩
   refine rangeK_ind (G := Unit) (fun j _ => (L.take j).all (idxGu CL.length) = true) (fun _ _ => [⟨.t tc, true, cusC CL, 0⟩, ⟨.t td, true, gusC L, 0⟩, ⟨.t tt, true, blC CT, 0⟩, ⟨.x fam, true, [], 3⟩, ⟨53, false, [.sli n1 0 0 CL.length c1 h1, .sli n2 1 0 L.length c2 h2], 0⟩, ⟨57, false, [.sli n3 2 0 CT.length c3 h3], 0⟩, ⟨4, false, [.val (.bool false)], 0⟩, ⟨69, false, [.ptr 4 0], 0⟩, ⟨4, false, [.val (.bool false)], 0⟩, ⟨69, false, [.ptr 4 0], 0⟩]) ?_ ?_ () rfl
   ·rintro j hj _ hP R hR
    have hjl : j < L.length := by rw [listsX_len] at hj; exact hj
    have hji : IR (j : Nat) := lt_irV h2 (Nat.le_of_lt hjl)
    rw [listsX_get hj hjl hji]
    conv => whnf
    obtain ⟨⟨gi1, gi2⟩, ⟨go1, go2⟩, gi3, go3⟩ := hL L[j] (List.getElem_mem hjl)
    refine .inl ⟨3, ?_⟩
    conv => whnf
    conv =>
     arg 2
     tactic' =>
      apply eff_len_val (hi := gi3) (ho := ?how5) (hc := ?hcw5) (ha := ?haw5) (ht := ?htw5) (hT := ?hTw5) (hx := ?hxw5)
      case how5 => rfl
      case hcw5 => rfl
      case haw5 => rfl
      case htw5 => rfl
      case hTw5 => rfl
      case hxw5 => rfl
    conv => whnf
    refine loop_st (G := {q : Nat // q ≤ L[j].il.length ∧ (L[j].il.take q).all (inR CL.length) = true} × (Nat → Value)) (fun g => (.c L[j].i.v :: .c (.fn 62 [] [(7, 0)]) :: .c (.val (g.2 2)) :: .c (.val (g.2 3)) :: .c (.val (g.2 4)) :: .c (.val (g.2 5)) :: .c (.val (g.2 6)) :: .c (.int (L[j].i.n : Nat) gi3) :: .c (.int (g.1.1 : Nat) (q_ir gi3 gi1 g.1.2.1)) :: .c (.val (g.2 9)) :: .c (.val (g.2 10)) :: .c (.val (g.2 11)) :: .c (.val (g.2 12)) :: .c (.val (g.2 13)) :: .c (.val (g.2 14)) :: .c (.val (g.2 15)) :: .c (.val (g.2 16)) :: .c (.val (g.2 17)) :: .c (.val (g.2 18)) :: [])) (fun g => [⟨.t tc, true, cusC CL, 0⟩, ⟨.t td, true, gusC L, 0⟩, ⟨.t tt, true, blC CT, 0⟩, ⟨.x fam, true, [], 3⟩, ⟨53, false, [.sli n1 0 0 CL.length c1 h1, .sli n2 1 0 L.length c2 h2], 0⟩, ⟨57, false, [.sli n3 2 0 CT.length c3 h3], 0⟩, ⟨4, false, [.val (.bool false)], 0⟩, ⟨69, false, [.ptr 4 0], 0⟩, ⟨4, false, [.val (.bool false)], 0⟩, ⟨69, false, [.ptr 4 0], 0⟩, ⟨107, false, [L[j].i.v, L[j].o.v], 0⟩]) (fun g => L[j].il.length - g.1.1) ?_ ?_
    ·refine ⟨[0,1,2,3,4,5,6,7,8,9,10], [0,1,7,8], [0,1,2], fun vs3 => ?_⟩
     conv => whnf
     refine ⟨cusC_pure CL, gusC_pure L, blC_pure CT, ?_⟩
     conv => whnf
     refine ⟨_, _, ?_, ?_, (⟨0, Nat.zero_le _, rfl⟩, vs3), rfl, rfl⟩
     ·exact (by (iterate 9 refine ⟨fun _=>rfl,?_⟩); exact stm _)
     ·exact ⟨⟨rfl,rfl,rfl, fun _=>rfl⟩, ⟨rfl,rfl,rfl, fun _=>rfl⟩, ⟨rfl,rfl,rfl, fun _=>rfl⟩, ⟨rfl,rfl,rfl, fun _=>rfl⟩, ⟨rfl,rfl,rfl, fun _=>rfl⟩, ⟨rfl,rfl,rfl, fun _=>rfl⟩, ⟨rfl,rfl,rfl, fun _=>rfl⟩, ⟨rfl,rfl,rfl, fun _=>rfl⟩, ⟨rfl,rfl,rfl, fun _=>rfl⟩, ⟨rfl,rfl,rfl, fun _=>rfl⟩, ⟨rfl,rfl,rfl, fun _=>rfl⟩, trivial⟩
    ·rintro ⟨⟨q, hq, hqa⟩, vs3⟩
     have hq : q ≤ L[j].il.length := hq
     have hqa : (L[j].il.take q).all (inR CL.length) = true := hqa
     dsimp only
     conv => whnf
     refine bcase_intro (fun hql => ?_) (fun hql => ?_)
     ·have hql : q < L[j].il.length := by rw [← gi1]; exact n_lt hql
      obtain ⟨r, w, ha, hfm⟩ : ∃ r w, L[j].i.a = some ⟨r, w, none⟩ ∧ InF fam (r, w) (zvC L[j].il) := gi2.resolve_left fun e => by rw [e] at hql; cases hql
      conv => whnf
      refine .inr ⟨r, w, L[j].i.n, L[j].i.c, q, by show SV.c (.val (.slice L[j].i.a _ _)) = _; rw [ha], rfl, by rw [gi1]; exact hql, ?_⟩
      conv => whnf
      refine .inr ⟨r, w, q * 1, 3, zvC L[j].il, .c (.int L[j].il[q].x L[j].il[q].hx), rfl, ⟨_, _, _, rfl,rfl,hfm⟩, ⟨partC_zv L[j].il hql, fun _ _=>rfl⟩, ?_⟩
      conv => whnf
      generalize hna : decide (L[j].il[q].x < 0) = na
      cases na
      ·conv => whnf
       refine bcase_intro (fun hnb => ?_) (fun hnb => ?_)
       ·have hnb : decide ((CL.length : Int) ≤ L[j].il[q].x) = true := hnb
        conv => whnf
        exact hF (no_gu hjl (.inl (no_inR hql (inR_hi hnb)))) _
       ·have hnb : decide ((CL.length : Int) ≤ L[j].il[q].x) = false := hnb
        conv => whnf
        refine ⟨[0,1,2,3,4,5,6,7,8,9,10], [0,1,7,8], [0,1,2], fun vs4 => ?_⟩
        conv => whnf
        refine ⟨cusC_pure CL, gusC_pure L, blC_pure CT, ?_⟩
        conv => whnf
        refine ⟨_, _, ?_, ?_, (⟨q + 1, hql, inR_step hql hqa hna hnb⟩, vs4), (by omega : L[j].il.length - (q + 1) < L[j].il.length - q), rfl, rfl⟩
        ·exact (by (iterate 8 refine ⟨fun _=>rfl,?_⟩); refine ⟨fun ρ => sint_kV (wrap_add1 (n := L[j].il.length) hql (by rw [← gi1]; exact gi3)) ρ, ?_⟩; exact stm _)
        ·exact ⟨⟨rfl,rfl,rfl, fun _=>rfl⟩, ⟨rfl,rfl,rfl, fun _=>rfl⟩, ⟨rfl,rfl,rfl, fun _=>rfl⟩, ⟨rfl,rfl,rfl, fun _=>rfl⟩, ⟨rfl,rfl,rfl, fun _=>rfl⟩, ⟨rfl,rfl,rfl, fun _=>rfl⟩, ⟨rfl,rfl,rfl, fun _=>rfl⟩, ⟨rfl,rfl,rfl, fun _=>rfl⟩, ⟨rfl,rfl,rfl, fun _=>rfl⟩, ⟨rfl,rfl,rfl, fun _=>rfl⟩, ⟨rfl,rfl,rfl, fun _=>rfl⟩, trivial⟩
      ·conv => whnf
       exact hF (no_gu hjl (.inl (no_inR hql (by unfold inR; rw [hna]; rfl)))) _
     ·have hge : L[j].il.length ≤ q := by rw [← gi1]; exact n_ge hql
      obtain rfl : q = L[j].il.length := Nat.le_antisymm hq hge
      rw [List.take_length] at hqa
      have hqi := hqa
      conv => whnf
      conv =>
       arg 2
       tactic' =>
        apply eff_len_val (hi := go3) (ho := ?how6) (hc := ?hcw6) (ha := ?haw6) (ht := ?htw6) (hT := ?hTw6) (hx := ?hxw6)
        case how6 => rfl
        case hcw6 => rfl
        case haw6 => rfl
        case htw6 => rfl
        case hTw6 => rfl
        case hxw6 => rfl
      conv => whnf
      refine loop_st (G := {q : Nat // q ≤ L[j].ol.length ∧ (L[j].ol.take q).all (inR CL.length) = true} × (Nat → Value)) (fun g => (.c L[j].o.v :: .c (.fn 62 [] [(7, 0)]) :: .c (.val (g.2 2)) :: .c (.val (g.2 3)) :: .c (.val (g.2 4)) :: .c (.val (g.2 5)) :: .c (.val (g.2 6)) :: .c (.int (L[j].o.n : Nat) go3) :: .c (.int (g.1.1 : Nat) (q_ir go3 go1 g.1.2.1)) :: .c (.val (g.2 9)) :: .c (.val (g.2 10)) :: .c (.val (g.2 11)) :: .c (.val (g.2 12)) :: .c (.val (g.2 13)) :: .c (.val (g.2 14)) :: .c (.val (g.2 15)) :: .c (.val (g.2 16)) :: .c (.val (g.2 17)) :: .c (.val (g.2 18)) :: [])) (fun g => [⟨.t tc, true, cusC CL, 0⟩, ⟨.t td, true, gusC L, 0⟩, ⟨.t tt, true, blC CT, 0⟩, ⟨.x fam, true, [], 3⟩, ⟨53, false, [.sli n1 0 0 CL.length c1 h1, .sli n2 1 0 L.length c2 h2], 0⟩, ⟨57, false, [.sli n3 2 0 CT.length c3 h3], 0⟩, ⟨4, false, [.val (.bool false)], 0⟩, ⟨69, false, [.ptr 4 0], 0⟩, ⟨4, false, [.val (.bool false)], 0⟩, ⟨69, false, [.ptr 4 0], 0⟩, ⟨107, false, [L[j].i.v, L[j].o.v], 0⟩]) (fun g => L[j].ol.length - g.1.1) ?_ ?_
      ·refine ⟨[0,1,2,3,4,5,6,7,8,9,10], [0,1,7,8], [0,1,2], fun vs3 => ?_⟩
       conv => whnf
       refine ⟨cusC_pure CL, gusC_pure L, blC_pure CT, ?_⟩
       conv => whnf
       refine ⟨_, _, ?_, ?_, (⟨0, Nat.zero_le _, rfl⟩, vs3), rfl, rfl⟩
       ·exact (by (iterate 9 refine ⟨fun _=>rfl,?_⟩); exact stm _)
       ·exact ⟨⟨rfl,rfl,rfl, fun _=>rfl⟩, ⟨rfl,rfl,rfl, fun _=>rfl⟩, ⟨rfl,rfl,rfl, fun _=>rfl⟩, ⟨rfl,rfl,rfl, fun _=>rfl⟩, ⟨rfl,rfl,rfl, fun _=>rfl⟩, ⟨rfl,rfl,rfl, fun _=>rfl⟩, ⟨rfl,rfl,rfl, fun _=>rfl⟩, ⟨rfl,rfl,rfl, fun _=>rfl⟩, ⟨rfl,rfl,rfl, fun _=>rfl⟩, ⟨rfl,rfl,rfl, fun _=>rfl⟩, ⟨rfl,rfl,rfl, fun _=>rfl⟩, trivial⟩
      ·rintro ⟨⟨q, hq, hqa⟩, vs3⟩
       have hq : q ≤ L[j].ol.length := hq
       have hqa : (L[j].ol.take q).all (inR CL.length) = true := hqa
       dsimp only
       conv => whnf
       refine bcase_intro (fun hql => ?_) (fun hql => ?_)
       ·have hql : q < L[j].ol.length := by rw [← go1]; exact n_lt hql
        obtain ⟨r, w, ha, hfm⟩ : ∃ r w, L[j].o.a = some ⟨r, w, none⟩ ∧ InF fam (r, w) (zvC L[j].ol) := go2.resolve_left fun e => by rw [e] at hql; cases hql
        conv => whnf
        refine .inr ⟨r, w, L[j].o.n, L[j].o.c, q, by show SV.c (.val (.slice L[j].o.a _ _)) = _; rw [ha], rfl, by rw [go1]; exact hql, ?_⟩
        conv => whnf
        refine .inr ⟨r, w, q * 1, 3, zvC L[j].ol, .c (.int L[j].ol[q].x L[j].ol[q].hx), rfl, ⟨_, _, _, rfl,rfl,hfm⟩, ⟨partC_zv L[j].ol hql, fun _ _=>rfl⟩, ?_⟩
        conv => whnf
        generalize hna : decide (L[j].ol[q].x < 0) = na
        cases na
        ·conv => whnf
         refine bcase_intro (fun hnb => ?_) (fun hnb => ?_)
         ·have hnb : decide ((CL.length : Int) ≤ L[j].ol[q].x) = true := hnb
          conv => whnf
          exact hF (no_gu hjl (.inr (no_inR hql (inR_hi hnb)))) _
         ·have hnb : decide ((CL.length : Int) ≤ L[j].ol[q].x) = false := hnb
          conv => whnf
          refine ⟨[0,1,2,3,4,5,6,7,8,9,10], [0,1,7,8], [0,1,2], fun vs4 => ?_⟩
          conv => whnf
          refine ⟨cusC_pure CL, gusC_pure L, blC_pure CT, ?_⟩
          conv => whnf
          refine ⟨_, _, ?_, ?_, (⟨q + 1, hql, inR_step hql hqa hna hnb⟩, vs4), (by omega : L[j].ol.length - (q + 1) < L[j].ol.length - q), rfl, rfl⟩
          ·exact (by (iterate 8 refine ⟨fun _=>rfl,?_⟩); refine ⟨fun ρ => sint_kV (wrap_add1 (n := L[j].ol.length) hql (by rw [← go1]; exact go3)) ρ, ?_⟩; exact stm _)
          ·exact ⟨⟨rfl,rfl,rfl, fun _=>rfl⟩, ⟨rfl,rfl,rfl, fun _=>rfl⟩, ⟨rfl,rfl,rfl, fun _=>rfl⟩, ⟨rfl,rfl,rfl, fun _=>rfl⟩, ⟨rfl,rfl,rfl, fun _=>rfl⟩, ⟨rfl,rfl,rfl, fun _=>rfl⟩, ⟨rfl,rfl,rfl, fun _=>rfl⟩, ⟨rfl,rfl,rfl, fun _=>rfl⟩, ⟨rfl,rfl,rfl, fun _=>rfl⟩, ⟨rfl,rfl,rfl, fun _=>rfl⟩, ⟨rfl,rfl,rfl, fun _=>rfl⟩, trivial⟩
        ·conv => whnf
         exact hF (no_gu hjl (.inr (no_inR hql (by unfold inR; rw [hna]; rfl)))) _
       ·have hge : L[j].ol.length ≤ q := by rw [← go1]; exact n_ge hql
        obtain rfl : q = L[j].ol.length := Nat.le_antisymm hq hge
        rw [List.take_length] at hqa
        have hqo := hqa
        conv => whnf
        refine .inr ⟨[0,1,2,3,4,5,6,7,8,9], [], [0,1,2], fun vs5 => ?_⟩
        conv => whnf
        refine ⟨cusC_pure CL, gusC_pure L, blC_pure CT, ?_⟩
        conv => whnf
        refine ⟨[], [⟨.t tc, true, cusC CL, 0⟩, ⟨.t td, true, gusC L, 0⟩, ⟨.t tt, true, blC CT, 0⟩, ⟨.x fam, true, [], 3⟩, ⟨53, false, [.sli n1 0 0 CL.length c1 h1, .sli n2 1 0 L.length c2 h2], 0⟩, ⟨57, false, [.sli n3 2 0 CT.length c3 h3], 0⟩, ⟨4, false, [.val (.bool false)], 0⟩, ⟨69, false, [.ptr 4 0], 0⟩, ⟨4, false, [.val (.bool false)], 0⟩, ⟨69, false, [.ptr 4 0], 0⟩], trivial, ⟨⟨rfl,rfl,rfl, fun _=>rfl⟩, ⟨rfl,rfl,rfl, fun _=>rfl⟩, ⟨rfl,rfl,rfl, fun _=>rfl⟩, ⟨rfl,rfl,rfl, fun _=>rfl⟩, ⟨rfl,rfl,rfl, fun _=>rfl⟩, ⟨rfl,rfl,rfl, fun _=>rfl⟩, ⟨rfl,rfl,rfl, fun _=>rfl⟩, ⟨rfl,rfl,rfl, fun _=>rfl⟩, ⟨rfl,rfl,rfl, fun _=>rfl⟩, ⟨rfl,rfl,rfl, fun _=>rfl⟩, trivial⟩, keepR_one rfl rfl (fun _=>rfl) (keepR_one rfl rfl (fun _=>rfl) (keepR_one rfl rfl (fun _=>rfl) (keepR_one rfl rfl (fun _=>rfl) trivial))), hR () (idxg_step hjl hP hqi hqo)⟩
   ·rintro _ hP
    conv => whnf
    rw [listsX_len, List.take_length] at hP
    exact hT (by unfold idxG; rw [hall, hP]; rfl) _
end Go.Proofs.YthmdmbpecgakkaaDoor

namespace Go.Proofs.YthmdmbpecgakkaaDoor
open Go.RowKit
set_option maxRecDepth 100000

def mBlk (E : List (ZV × ZV)) : Blk := ⟨.m 110 (mEs E) (mEs E).length, true, [], 1⟩
theorem mB_ty (E : List (ZV × ZV)) (a : ZV) {j : Nat} (hj : IR (j : Int)) : TyX.m 110 (mEs E ++ [(.c (.int a.x a.hx), .c (.int (j : Int) hj))]) ((mEs E).length + 1) = TyX.m 110 (mEs (E ++ [(a, zN j)])) (mEs (E ++ [(a, zN j)])).length := by
 rw [mEs_app, List.length_append, zN_eq hj]; rfl
def EQ (f : GU → List ZV) (L : List GU) (g : GU) (j q : Nat) : List (ZV × ZV) := entsG f 0 (L.take j) ++ ((f g).take q).map fun z => (z, zN j)
theorem EQ_zero (f : GU → List ZV) (L : List GU) (g : GU) (j : Nat) : EQ f L g j 0 = entsG f 0 (L.take j) := by unfold EQ; rw [List.take_zero, List.map_nil, List.append_nil]
theorem EQ_succ (f : GU → List ZV) (L : List GU) (g : GU) (j : Nat) {q : Nat} (hq : q < (f g).length) : EQ f L g j (q + 1) = EQ f L g j q ++ [((f g)[q], zN j)] := by
 unfold EQ
 rw [List.take_add_one, List.getElem?_eq_getElem hq, Option.toList_some, List.map_append, ← List.append_assoc]; rfl
theorem EQ_full (f : GU → List ZV) {L : List GU} {j : Nat} (hj : j < L.length) : EQ f L L[j] j (f L[j]).length = entsG f 0 (L.take (j + 1)) := by
 unfold EQ; rw [List.take_length, entsG_take f hj]
theorem mdK_step {CL : List CU} (f : GU → List ZV) {L : List GU} {g : GU} {j q : Nat} (hq : q < (f g).length) (hji : IR (j : Int)) {i : Nat} (hi : i < CL.length) (hx : (f g)[q].x = (i : Int)) (hm : ¬ (j : Int) ≤ CL[i].made) (h : MdK CL (EQ f L g j q)) : MdK CL (EQ f L g j (q + 1)) := by
 rw [EQ_succ f L g j hq]
 intro e he c hc
 rcases List.mem_append.1 he with he | he
 ·exact h e he c hc
 ·rw [List.mem_singleton] at he
  subst he
  simp only at hc ⊢
  unfold cuAt at hc
  rw [hx, Int.toNat_natCast, List.getElem?_eq_getElem hi] at hc
  cases hc
  rw [zN_x hji]
  omega
theorem ndK_step (f : GU → List ZV) {L : List GU} {g : GU} {j q : Nat} (hq : q < (f g).length) (hn : ∀ e ∈ EQ f L g j q, e.1.x ≠ (f g)[q].x) (h : NdK (EQ f L g j q)) : NdK (EQ f L g j (q + 1)) := by
 rw [EQ_succ f L g j hq]
 exact h.snoc hn
theorem idx_il {CL : List CU} {L : List GU} (h : idxG CL L = true) {j : Nat} (hj : j < L.length) {z : ZV} (hz : z ∈ L[j].il) : ∃ i : Nat, z.x = i ∧ i < CL.length := by
 unfold idxG at h
 rw [Bool.and_eq_true] at h
 have h1 := List.all_eq_true.1 h.2 _ (List.getElem_mem hj)
 unfold idxGu at h1
 rw [Bool.and_eq_true] at h1
 have h2 := List.all_eq_true.1 h1.1 _ hz
 unfold inR at h2
 simp only [Bool.and_eq_true, Bool.not_eq_true', decide_eq_false_iff_not, decide_eq_true_eq] at h2
 exact ⟨z.x.toNat, by omega, by omega⟩
section
variable {p : Prop} [Decidable p]
theorem bo1 (h : (!(false == decide p)) = true) : p := by cases hd : decide p <;> simp_all
theorem bo2 (h : (!(false == decide p)) = false) : ¬ p := by cases hd : decide p <;> simp_all
theorem bo3 (h : (!(true == decide p)) = true) : ¬ p := by cases hd : decide p <;> simp_all
theorem bo4 (h : (!(true == decide p)) = false) : p := by cases hd : decide p <;> simp_all
theorem bo5 (h : (!decide p) = true) : ¬ p := by cases hd : decide p <;> simp_all
theorem bo6 (h : (!decide p) = false) : p := by cases hd : decide p <;> simp_all
end
theorem okM_n1 {E : List (ZV × ZV)} {i : Nat} {w : Int} (h : ∀ e ∈ E, e.1.x ≠ (i : Int)) (hw : 0 ≤ w) : ¬ okM E i w := by
 rintro (⟨_, e, he, h1, _⟩ | ⟨h1, _⟩)
 ·exact h e he h1
 ·omega
theorem okM_n2 {E : List (ZV × ZV)} {i : Nat} {w : Int} {e : ZV × ZV} (he : e ∈ E) (hx : e.1.x = (i : Int)) (hw : ¬ 0 ≤ w) : ¬ okM E i w := by
 rintro (⟨h1, _⟩ | ⟨_, h1⟩)
 ·exact hw h1
 ·exact h1 e he hx
theorem okM_n3 {E : List (ZV × ZV)} (hE : NdK E) {i : Nat} {w : Int} {e : ZV × ZV} (he : e ∈ E) (hx : e.1.x = (i : Int)) (hw : ¬ e.2.x = w) : ¬ okM E i w := by
 rintro (⟨_, e2, he2, h1, h2⟩ | ⟨_, h1⟩)
 ·rw [hE.uniq he he2 (hx.trans h1.symm)] at hw
  exact hw h2
 ·exact h1 e he hx
theorem okM_step {CL : List CU} {A B : List (ZV × ZV)} {k : Nat} {hk : k < CL.length} (h : ∀ i (h : i < CL.length), i < k → okM A i CL[i].used ∧ okM B i CL[i].made) (h0 : okM A k CL[k].used) (h1 : okM B k CL[k].made) : ∀ i (h : i < CL.length), i < k + 1 → okM A i CL[i].used ∧ okM B i CL[i].made := fun i hi hik => by
 rcases Nat.lt_or_ge i k with h9 | h9
 ·exact h i hi h9
 ·obtain rfl : i = k := by omega
  exact ⟨h0, h1⟩
set_option maxHeartbeats 16000000 in
theorem makers_vc {n1 : Bool} {CL : List CU} {c1 : Nat} {h1 : SliOk n1 CL.length c1} {n2 : Bool} {L : List GU} {c2 : Nat} {h2 : SliOk n2 L.length c2} {n3 : Bool} {CT : List Bool} {c3 : Nat} {h3 : SliOk n3 CT.length c3} {fam : List Ent} {tc td tt : TypeId} (hL : ∀ g ∈ L, g.Ok fam) (hidx : idxG CL L = true) {K : SV → List Blk → Prop}
  (hF : ¬ MkP CL L → ∀ ex, K (.c (.val (.bool false))) (⟨.t tc, true, cusC CL, 0⟩ :: ⟨.t td, true, gusC L, 0⟩ :: ⟨.t tt, true, blC CT, 0⟩ :: ⟨.x fam, true, [], 3⟩ :: ⟨53, false, [.sli n1 0 0 CL.length c1 h1, .sli n2 1 0 L.length c2 h2], 0⟩ :: ⟨57, false, [.sli n3 2 0 CT.length c3 h3], 0⟩ :: ⟨4, false, [.val (.bool false)], 0⟩ :: ex)) (hT : MkP CL L → ∀ ex, K (.c (.val (.bool true))) (⟨.t tc, true, cusC CL, 0⟩ :: ⟨.t td, true, gusC L, 0⟩ :: ⟨.t tt, true, blC CT, 0⟩ :: ⟨.x fam, true, [], 3⟩ :: ⟨53, false, [.sli n1 0 0 CL.length c1 h1, .sli n2 1 0 L.length c2 h2], 0⟩ :: ⟨57, false, [.sli n3 2 0 CT.length c3 h3], 0⟩ :: ⟨4, false, [.val (.bool false)], 0⟩ :: ex)) :
  inl (envV 0) lodF 6 38 [.c (.ptr 4 0)] [⟨.t tc, true, cusC CL, 0⟩, ⟨.t td, true, gusC L, 0⟩, ⟨.t tt, true, blC CT, 0⟩, ⟨.x fam, true, [], 3⟩, ⟨53, false, [.sli n1 0 0 CL.length c1 h1, .sli n2 1 0 L.length c2 h2], 0⟩, ⟨57, false, [.sli n3 2 0 CT.length c3 h3], 0⟩, ⟨4, false, [.val (.bool false)], 0⟩] K := by
 conv => whnf
 refine .inl ?_
 conv => whnf
 refine .inl ?_
 conv => whnf
 refine .inl ⟨rfl, 12, 4, 1, 0, _, _, _, _, _, _, _, _, _, _, _, _, n1, _, c1, h1, n2, L, c2, h2, CL, rfl,rfl,rfl,rfl,rfl, ?_⟩
 refine ⟨keepR_one rfl rfl (fun _=>rfl) (keepR_one rfl rfl (fun _=>rfl) (keepR_one rfl rfl (fun _=>rfl) (keepR_one rfl rfl (fun _=>rfl) trivial))), ?_⟩
 refine rangeK_ind (G := Unit) (fun j _ => NdK (entsG GU.il 0 (L.take j)) ∧ MdK CL (entsG GU.il 0 (L.take j)) ∧ NdK (entsG GU.ol 0 (L.take j))) (fun j _ => [⟨.t tc, true, cusC CL, 0⟩, ⟨.t td, true, gusC L, 0⟩, ⟨.t tt, true, blC CT, 0⟩, ⟨.x fam, true, [], 3⟩, ⟨53, false, [.sli n1 0 0 CL.length c1 h1, .sli n2 1 0 L.length c2 h2], 0⟩, ⟨57, false, [.sli n3 2 0 CT.length c3 h3], 0⟩, ⟨4, false, [.val (.bool false)], 0⟩, ⟨69, false, [.ptr 4 0], 0⟩, ⟨4, false, [.val (.bool false)], 0⟩, mBlk (entsG GU.il 0 (L.take j)), mBlk (entsG GU.ol 0 (L.take j)), ⟨111, false, [.mp 9, .mp 10], 0⟩, ⟨69, false, [.ptr 4 0], 0⟩]) ?_ ?_ () ⟨List.nodup_nil, (fun e he => by cases he), List.nodup_nil⟩
 ·rintro j hj _ ⟨hd0, hmd, hd1⟩ R hR
  have hjl : j < L.length := by rw [listsX_len] at hj; exact hj
  have hji : IR (j : Nat) := lt_irV h2 (Nat.le_of_lt hjl)
  rw [listsX_get hj hjl hji]
  conv => whnf
  obtain ⟨⟨gi1, gi2⟩, ⟨go1, go2⟩, gi3, go3⟩ := hL L[j] (List.getElem_mem hjl)
  refine .inl ⟨3, ?_⟩
  conv => whnf
  conv =>
   arg 2
   tactic' =>
    apply eff_len_val (hi := gi3) (ho := ?how7) (hc := ?hcw7) (ha := ?haw7) (ht := ?htw7) (hT := ?hTw7) (hx := ?hxw7)
    case how7 => rfl
    case hcw7 => rfl
    case haw7 => rfl
    case htw7 => rfl
    case hTw7 => rfl
    case hxw7 => rfl
  conv => whnf
  refine loop_st (G := {q : Nat // q ≤ L[j].il.length ∧ NdK (EQ GU.il L L[j] j q) ∧ MdK CL (EQ GU.il L L[j] j q)} × (Nat → Value)) (fun g => (.c (.val (g.2 0)) :: .c (.ptr 7 0) :: .c (.ptr 8 0) :: .c (.ptr 11 0) :: .c (.int (j : Nat) hji) :: .c (.val (g.2 5)) :: .c (.int 0 (by decide)) :: .c (.val (g.2 7)) :: .c (.val (g.2 8)) :: .c (.val (g.2 9)) :: .c (.val (g.2 10)) :: .c (.val (g.2 11)) :: .c (.val (g.2 12)) :: .c (.val (g.2 13)) :: .c (.val (g.2 14)) :: .c (.val (g.2 15)) :: .c (.val (g.2 16)) :: .c (.val (g.2 17)) :: .c (.val (g.2 18)) :: .c (.val (g.2 19)) :: .c (.val (g.2 20)) :: .c (.val (g.2 21)) :: .c (.val (g.2 22)) :: .c (.val (g.2 23)) :: .c (.val (g.2 24)) :: .agg [L[j].i.v, L[j].o.v] :: .c (.int 0 (by decide)) :: .c (.val (g.2 27)) :: .c (.val (g.2 28)) :: .c (.val (g.2 29)) :: .c L[j].i.v :: .c (.int (L[j].i.n : Nat) gi3) :: .c (.int (g.1.1 : Nat) (q_ir gi3 gi1 g.1.2.1)) :: .c (.val (g.2 33)) :: .c (.val (g.2 34)) :: .c (.val (g.2 35)) :: .c (.val (g.2 36)) :: .c (.val (g.2 37)) :: .c (.val (g.2 38)) :: .c (.val (g.2 39)) :: .c (.val (g.2 40)) :: .c (.val (g.2 41)) :: .c (.val (g.2 42)) :: .c (.val (g.2 43)) :: .c (.val (g.2 44)) :: .c (.val (g.2 45)) :: .c (.val (g.2 46)) :: .c (.val (g.2 47)) :: .c (.val (g.2 48)) :: .c (.val (g.2 49)) :: .c (.val (g.2 50)) :: .c (.val (g.2 51)) :: .c (.val (g.2 52)) :: .c (.val (g.2 53)) :: .c (.val (g.2 54)) :: .c (.val (g.2 55)) :: .c (.val (g.2 56)) :: .c (.val (g.2 57)) :: .c (.val (g.2 58)) :: .c (.val (g.2 59)) :: .c (.val (g.2 60)) :: .c (.val (g.2 61)) :: .c (.val (g.2 62)) :: .c (.val (g.2 63)) :: .c (.val (g.2 64)) :: .c (.val (g.2 65)) :: .c (.val (g.2 66)) :: .c (.val (g.2 67)) :: .c (.val (g.2 68)) :: .c (.val (g.2 69)) :: .c (.val (g.2 70)) :: .c (.val (g.2 71)) :: .c (.val (g.2 72)) :: .c (.val (g.2 73)) :: .c (.val (g.2 74)) :: .c (.val (g.2 75)) :: .c (.val (g.2 76)) :: .c (.val (g.2 77)) :: .c (.val (g.2 78)) :: .c (.val (g.2 79)) :: .c (.val (g.2 80)) :: .c (.val (g.2 81)) :: .c (.val (g.2 82)) :: .c (.val (g.2 83)) :: .c (.val (g.2 84)) :: .c (.val (g.2 85)) :: .c (.val (g.2 86)) :: .c (.val (g.2 87)) :: .c (.val (g.2 88)) :: .c (.val (g.2 89)) :: .c (.val (g.2 90)) :: .c (.val (g.2 91)) :: .c (.val (g.2 92)) :: .c (.val (g.2 93)) :: .c (.val (g.2 94)) :: .c (.val (g.2 95)) :: .c (.val (g.2 96)) :: .c (.val (g.2 97)) :: .c (.val (g.2 98)) :: .c (.val (g.2 99)) :: .c (.val (g.2 100)) :: .c (.val (g.2 101)) :: .c (.val (g.2 102)) :: .c (.val (g.2 103)) :: .c (.val (g.2 104)) :: .c (.val (g.2 105)) :: .c (.val (g.2 106)) :: .c (.val (g.2 107)) :: .c (.val (g.2 108)) :: [])) (fun g => [⟨.t tc, true, cusC CL, 0⟩, ⟨.t td, true, gusC L, 0⟩, ⟨.t tt, true, blC CT, 0⟩, ⟨.x fam, true, [], 3⟩, ⟨53, false, [.sli n1 0 0 CL.length c1 h1, .sli n2 1 0 L.length c2 h2], 0⟩, ⟨57, false, [.sli n3 2 0 CT.length c3 h3], 0⟩, ⟨4, false, [.val (.bool false)], 0⟩, ⟨69, false, [.ptr 4 0], 0⟩, ⟨4, false, [.val (.bool false)], 0⟩, mBlk (EQ GU.il L L[j] j g.1.1), mBlk (entsG GU.ol 0 (L.take j)), ⟨111, false, [.mp 9, .mp 10], 0⟩, ⟨69, false, [.ptr 4 0], 0⟩, ⟨107, false, [L[j].i.v, L[j].o.v], 0⟩]) (fun g => L[j].il.length - g.1.1) ?_ ?_
  ·refine ⟨[0,1,2,3,4,5,6,7,8,9,10,11,12,13], [1,2,3,4,6,25,26,30,31,32], [0,1,2], fun vs3 => ?_⟩
   conv => whnf
   refine ⟨cusC_pure CL, gusC_pure L, blC_pure CT, ?_⟩
   conv => whnf
   refine ⟨_, _, ?_, ?_, (⟨0, Nat.zero_le _, by rw [EQ_zero]; exact ⟨hd0, hmd⟩⟩, vs3), rfl, rfl⟩
   ·exact (by (iterate 33 refine ⟨fun _=>rfl,?_⟩); exact stm _)
   ·exact (by (iterate 9 refine ⟨⟨rfl,rfl,rfl, fun _=>rfl⟩, ?_⟩); refine ⟨⟨congrArg (fun E => TyX.m 110 (mEs E) (mEs E).length) (EQ_zero GU.il L L[j] j).symm, rfl,rfl,fun _=>rfl⟩, ?_⟩; (iterate 4 refine ⟨⟨rfl,rfl,rfl, fun _=>rfl⟩, ?_⟩); exact trivial)
  ·rintro ⟨⟨q, hq, hnd, hm⟩, vs3⟩
   have hq : q ≤ L[j].il.length := hq
   have hnd : NdK (EQ GU.il L L[j] j q) := hnd
   have hm : MdK CL (EQ GU.il L L[j] j q) := hm
   dsimp only
   conv => whnf
   refine bcase_intro (fun hql => ?_) (fun hql => ?_)
   ·have hql : q < L[j].il.length := by rw [← gi1]; exact n_lt hql
    obtain ⟨r, w, ha, hfm⟩ : ∃ r w, L[j].i.a = some ⟨r, w, none⟩ ∧ InF fam (r, w) (zvC L[j].il) := gi2.resolve_left fun e => by rw [e] at hql; cases hql
    conv => whnf
    refine .inr ⟨r, w, L[j].i.n, L[j].i.c, q, by show SV.c (.val (.slice L[j].i.a _ _)) = _; rw [ha], rfl, by rw [gi1]; exact hql, ?_⟩
    conv => whnf
    refine .inr ⟨r, w, q * 1, 3, zvC L[j].il, .c (.int L[j].il[q].x L[j].il[q].hx), rfl, ⟨_, _, _, rfl,rfl,hfm⟩, ⟨partC_zv L[j].il hql, fun _ _=>rfl⟩, ?_⟩
    conv => whnf
    refine .inl ⟨3, 3, .c (.int L[j].il[q].x L[j].il[q].hx), .c (.int 0 (by decide)), ki_map, keyedI, fun _=>rfl,keyI _, mEs_keys _, ki_zero, fun hno => ?_, fun e he hk => ?_⟩
    ·have hno2 := mEs_no hno
     conv => whnf
     obtain ⟨i, hix, hil⟩ := idx_il hidx hjl (List.getElem_mem hql)
     have hii : IR (i : Int) := by rw [← hix]; exact L[j].il[q].hx
     conv =>
      arg 2
      tactic' =>
       apply eff_index_sli (k := i) (hi := hii) (ho := ?how8) (hT := ?hTw8) (hx := ?hxw8) (hk := ?hkw8) (hlt := ?hltw8)
       case how8 => rfl
       case hTw8 => rfl
       case hxw8 => rfl
       case hkw8 => exact int_svV hix
       case hltw8 => exact hil
     conv => whnf
     conv =>
      arg 2
      tactic' =>
       apply eff_load_sub (ho := ?how9) (hT := ?hTw9) (hx := ?hxw9) (hb := ?hbw9) (hm := ?hmw9) (hv := ?hvw9)
       case how9 => rfl
       case hTw9 => rfl
       case hxw9 => rfl
       case hbw9 => rfl
       case hmw9 => exact subC_cu CL hil 1 1 (r := [.int CL[i].made CL[i].hm]) rfl
       case hvw9 => rfl
     conv => whnf
     refine bcase_intro (fun hlate => ?_) (fun hlate => ?_)
     ·have hlate : decide ((j : Int) ≤ CL[i].made) = true := hlate
      conv => whnf
      exact hF (fun h => late_no GU.il hjl hql hji hil hix (of_decide_eq_true hlate) h.1.2.1) _
     ·have hlate : decide ((j : Int) ≤ CL[i].made) = false := hlate
      conv => whnf
      refine .inl ⟨3, 3, .c (.int L[j].il[q].x L[j].il[q].hx), .c (.int (j : Nat) hji), ki_map, keyedI, fun _=>rfl,fun _=>rfl,keyI _, mEs_keys _, rfl, hno, ?_⟩
      conv => whnf
      refine ⟨[0,1,2,3,4,5,6,7,8,9,10,11,12,13], [1,2,3,4,6,25,26,30,31,32], [0,1,2], fun vs4 => ?_⟩
      conv => whnf
      refine ⟨cusC_pure CL, gusC_pure L, blC_pure CT, ?_⟩
      conv => whnf
      refine ⟨_, _, ?_, ?_, (⟨q + 1, hql, ndK_step GU.il hql hno2 hnd, mdK_step GU.il hql hji hil hix (of_decide_eq_false hlate) hm⟩, vs4), (by omega : L[j].il.length - (q + 1) < L[j].il.length - q), rfl, rfl⟩
      ·exact (by (iterate 32 refine ⟨fun _=>rfl,?_⟩); refine ⟨fun ρ => sint_kV (wrap_add1 (n := L[j].il.length) hql (by rw [← gi1]; exact gi3)) ρ, ?_⟩; exact stm _)
      ·exact (by (iterate 9 refine ⟨⟨rfl,rfl,rfl, fun _=>rfl⟩, ?_⟩); refine ⟨⟨(mB_ty _ L[j].il[q] hji).trans (congrArg (fun E => TyX.m 110 (mEs E) (mEs E).length) (EQ_succ GU.il L L[j] j hql).symm), rfl,rfl,fun _=>rfl⟩, ?_⟩; (iterate 4 refine ⟨⟨rfl,rfl,rfl, fun _=>rfl⟩, ?_⟩); exact trivial)
    ·obtain ⟨p, hp, rfl⟩ := mEs_mem he
     conv => whnf
     exact hF (fun h => dup_no GU.il hjl hql (e := p) hp (denB_int hk) h.1.1) _
   ·have hge : L[j].il.length ≤ q := by rw [← gi1]; exact n_ge hql
    obtain rfl : q = L[j].il.length := Nat.le_antisymm hq hge
    have hd0f : NdK (entsG GU.il 0 (L.take (j + 1))) := by rw [← EQ_full GU.il hjl]; exact hnd
    have hmf : MdK CL (entsG GU.il 0 (L.take (j + 1))) := by rw [← EQ_full GU.il hjl]; exact hm
    conv => whnf
    conv =>
     arg 2
     tactic' =>
      apply eff_len_val (hi := go3) (ho := ?how10) (hc := ?hcw10) (ha := ?haw10) (ht := ?htw10) (hT := ?hTw10) (hx := ?hxw10)
      case how10 => rfl
      case hcw10 => rfl
      case haw10 => rfl
      case htw10 => rfl
      case hTw10 => rfl
      case hxw10 => rfl
    conv => whnf
    refine loop_st (G := {q : Nat // q ≤ L[j].ol.length ∧ NdK (EQ GU.ol L L[j] j q)} × (Nat → Value)) (fun g => (.c (.val (g.2 0)) :: .c (.ptr 7 0) :: .c (.ptr 8 0) :: .c (.ptr 11 0) :: .c (.int (j : Nat) hji) :: .c (.val (g.2 5)) :: .c (.int 1 (by decide)) :: .c (.val (g.2 7)) :: .c (.val (g.2 8)) :: .c (.val (g.2 9)) :: .c (.val (g.2 10)) :: .c (.val (g.2 11)) :: .c (.val (g.2 12)) :: .c (.val (g.2 13)) :: .c (.val (g.2 14)) :: .c (.val (g.2 15)) :: .c (.val (g.2 16)) :: .c (.val (g.2 17)) :: .c (.val (g.2 18)) :: .c (.val (g.2 19)) :: .c (.val (g.2 20)) :: .c (.val (g.2 21)) :: .c (.val (g.2 22)) :: .c (.val (g.2 23)) :: .c (.val (g.2 24)) :: .agg [L[j].i.v, L[j].o.v] :: .c (.int 1 (by decide)) :: .c (.val (g.2 27)) :: .c (.val (g.2 28)) :: .c (.val (g.2 29)) :: .c L[j].o.v :: .c (.int (L[j].o.n : Nat) go3) :: .c (.int (g.1.1 : Nat) (q_ir go3 go1 g.1.2.1)) :: .c (.val (g.2 33)) :: .c (.val (g.2 34)) :: .c (.val (g.2 35)) :: .c (.val (g.2 36)) :: .c (.val (g.2 37)) :: .c (.val (g.2 38)) :: .c (.val (g.2 39)) :: .c (.val (g.2 40)) :: .c (.val (g.2 41)) :: .c (.val (g.2 42)) :: .c (.val (g.2 43)) :: .c (.val (g.2 44)) :: .c (.val (g.2 45)) :: .c (.val (g.2 46)) :: .c (.val (g.2 47)) :: .c (.val (g.2 48)) :: .c (.val (g.2 49)) :: .c (.val (g.2 50)) :: .c (.val (g.2 51)) :: .c (.val (g.2 52)) :: .c (.val (g.2 53)) :: .c (.val (g.2 54)) :: .c (.val (g.2 55)) :: .c (.val (g.2 56)) :: .c (.val (g.2 57)) :: .c (.val (g.2 58)) :: .c (.val (g.2 59)) :: .c (.val (g.2 60)) :: .c (.val (g.2 61)) :: .c (.val (g.2 62)) :: .c (.val (g.2 63)) :: .c (.val (g.2 64)) :: .c (.val (g.2 65)) :: .c (.val (g.2 66)) :: .c (.val (g.2 67)) :: .c (.val (g.2 68)) :: .c (.val (g.2 69)) :: .c (.val (g.2 70)) :: .c (.val (g.2 71)) :: .c (.val (g.2 72)) :: .c (.val (g.2 73)) :: .c (.val (g.2 74)) :: .c (.val (g.2 75)) :: .c (.val (g.2 76)) :: .c (.val (g.2 77)) :: .c (.val (g.2 78)) :: .c (.val (g.2 79)) :: .c (.val (g.2 80)) :: .c (.val (g.2 81)) :: .c (.val (g.2 82)) :: .c (.val (g.2 83)) :: .c (.val (g.2 84)) :: .c (.val (g.2 85)) :: .c (.val (g.2 86)) :: .c (.val (g.2 87)) :: .c (.val (g.2 88)) :: .c (.val (g.2 89)) :: .c (.val (g.2 90)) :: .c (.val (g.2 91)) :: .c (.val (g.2 92)) :: .c (.val (g.2 93)) :: .c (.val (g.2 94)) :: .c (.val (g.2 95)) :: .c (.val (g.2 96)) :: .c (.val (g.2 97)) :: .c (.val (g.2 98)) :: .c (.val (g.2 99)) :: .c (.val (g.2 100)) :: .c (.val (g.2 101)) :: .c (.val (g.2 102)) :: .c (.val (g.2 103)) :: .c (.val (g.2 104)) :: .c (.val (g.2 105)) :: .c (.val (g.2 106)) :: .c (.val (g.2 107)) :: .c (.val (g.2 108)) :: [])) (fun g => [⟨.t tc, true, cusC CL, 0⟩, ⟨.t td, true, gusC L, 0⟩, ⟨.t tt, true, blC CT, 0⟩, ⟨.x fam, true, [], 3⟩, ⟨53, false, [.sli n1 0 0 CL.length c1 h1, .sli n2 1 0 L.length c2 h2], 0⟩, ⟨57, false, [.sli n3 2 0 CT.length c3 h3], 0⟩, ⟨4, false, [.val (.bool false)], 0⟩, ⟨69, false, [.ptr 4 0], 0⟩, ⟨4, false, [.val (.bool false)], 0⟩, mBlk (entsG GU.il 0 (L.take (j + 1))), mBlk (EQ GU.ol L L[j] j g.1.1), ⟨111, false, [.mp 9, .mp 10], 0⟩, ⟨69, false, [.ptr 4 0], 0⟩, ⟨107, false, [L[j].i.v, L[j].o.v], 0⟩]) (fun g => L[j].ol.length - g.1.1) ?_ ?_
    ·refine ⟨[0,1,2,3,4,5,6,7,8,9,10,11,12,13], [1,2,3,4,6,25,26,30,31,32], [0,1,2], fun vs3 => ?_⟩
     conv => whnf
     refine ⟨cusC_pure CL, gusC_pure L, blC_pure CT, ?_⟩
     conv => whnf
     refine ⟨_, _, ?_, ?_, (⟨0, Nat.zero_le _, by rw [EQ_zero]; exact hd1⟩, vs3), rfl, rfl⟩
     ·exact (by (iterate 33 refine ⟨fun _=>rfl,?_⟩); exact stm _)
     ·exact (by (iterate 9 refine ⟨⟨rfl,rfl,rfl, fun _=>rfl⟩, ?_⟩); refine ⟨⟨congrArg (fun E => TyX.m 110 (mEs E) (mEs E).length) (EQ_full GU.il hjl), rfl,rfl,fun _=>rfl⟩, ?_⟩; refine ⟨⟨congrArg (fun E => TyX.m 110 (mEs E) (mEs E).length) (EQ_zero GU.ol L L[j] j).symm, rfl,rfl,fun _=>rfl⟩, ?_⟩; (iterate 3 refine ⟨⟨rfl,rfl,rfl, fun _=>rfl⟩, ?_⟩); exact trivial)
    ·rintro ⟨⟨q, hq, hnd⟩, vs3⟩
     have hq : q ≤ L[j].ol.length := hq
     have hnd : NdK (EQ GU.ol L L[j] j q) := hnd
     dsimp only
     conv => whnf
     refine bcase_intro (fun hql => ?_) (fun hql => ?_)
     ·have hql : q < L[j].ol.length := by rw [← go1]; exact n_lt hql
      obtain ⟨r, w, ha, hfm⟩ : ∃ r w, L[j].o.a = some ⟨r, w, none⟩ ∧ InF fam (r, w) (zvC L[j].ol) := go2.resolve_left fun e => by rw [e] at hql; cases hql
      conv => whnf
      refine .inr ⟨r, w, L[j].o.n, L[j].o.c, q, by show SV.c (.val (.slice L[j].o.a _ _)) = _; rw [ha], rfl, by rw [go1]; exact hql, ?_⟩
      conv => whnf
      refine .inr ⟨r, w, q * 1, 3, zvC L[j].ol, .c (.int L[j].ol[q].x L[j].ol[q].hx), rfl, ⟨_, _, _, rfl,rfl,hfm⟩, ⟨partC_zv L[j].ol hql, fun _ _=>rfl⟩, ?_⟩
      conv => whnf
      refine .inl ⟨3, 3, .c (.int L[j].ol[q].x L[j].ol[q].hx), .c (.int 0 (by decide)), ki_map, keyedI, fun _=>rfl,keyI _, mEs_keys _, ki_zero, fun hno => ?_, fun e he hk => ?_⟩
      ·have hno2 := mEs_no hno
       conv => whnf
       refine .inl ⟨3, 3, .c (.int L[j].ol[q].x L[j].ol[q].hx), .c (.int (j : Nat) hji), ki_map, keyedI, fun _=>rfl,fun _=>rfl,keyI _, mEs_keys _, rfl, hno, ?_⟩
       conv => whnf
       refine ⟨[0,1,2,3,4,5,6,7,8,9,10,11,12,13], [1,2,3,4,6,25,26,30,31,32], [0,1,2], fun vs4 => ?_⟩
       conv => whnf
       refine ⟨cusC_pure CL, gusC_pure L, blC_pure CT, ?_⟩
       conv => whnf
       refine ⟨_, _, ?_, ?_, (⟨q + 1, hql, ndK_step GU.ol hql hno2 hnd⟩, vs4), (by omega : L[j].ol.length - (q + 1) < L[j].ol.length - q), rfl, rfl⟩
       ·exact (by (iterate 32 refine ⟨fun _=>rfl,?_⟩); refine ⟨fun ρ => sint_kV (wrap_add1 (n := L[j].ol.length) hql (by rw [← go1]; exact go3)) ρ, ?_⟩; exact stm _)
       ·exact (by (iterate 10 refine ⟨⟨rfl,rfl,rfl, fun _=>rfl⟩, ?_⟩); refine ⟨⟨(mB_ty _ L[j].ol[q] hji).trans (congrArg (fun E => TyX.m 110 (mEs E) (mEs E).length) (EQ_succ GU.ol L L[j] j hql).symm), rfl,rfl,fun _=>rfl⟩, ?_⟩; (iterate 3 refine ⟨⟨rfl,rfl,rfl, fun _=>rfl⟩, ?_⟩); exact trivial)
      ·obtain ⟨p, hp, rfl⟩ := mEs_mem he
       conv => whnf
       exact hF (fun h => dup_no GU.ol hjl hql (e := p) hp (denB_int hk) h.1.2.2) _
     ·have hge : L[j].ol.length ≤ q := by rw [← go1]; exact n_ge hql
      obtain rfl : q = L[j].ol.length := Nat.le_antisymm hq hge
      have hd1f : NdK (entsG GU.ol 0 (L.take (j + 1))) := by rw [← EQ_full GU.ol hjl]; exact hnd
      conv => whnf
      refine .inr ⟨[0,1,2,3,4,5,6,7,8,9,10,11,12], [], [0,1,2], fun vs5 => ?_⟩
      conv => whnf
      refine ⟨cusC_pure CL, gusC_pure L, blC_pure CT, ?_⟩
      conv => whnf
      refine ⟨[], [⟨.t tc, true, cusC CL, 0⟩, ⟨.t td, true, gusC L, 0⟩, ⟨.t tt, true, blC CT, 0⟩, ⟨.x fam, true, [], 3⟩, ⟨53, false, [.sli n1 0 0 CL.length c1 h1, .sli n2 1 0 L.length c2 h2], 0⟩, ⟨57, false, [.sli n3 2 0 CT.length c3 h3], 0⟩, ⟨4, false, [.val (.bool false)], 0⟩, ⟨69, false, [.ptr 4 0], 0⟩, ⟨4, false, [.val (.bool false)], 0⟩, mBlk (entsG GU.il 0 (L.take (j + 1))), mBlk (entsG GU.ol 0 (L.take (j + 1))), ⟨111, false, [.mp 9, .mp 10], 0⟩, ⟨69, false, [.ptr 4 0], 0⟩], trivial, (by (iterate 10 refine ⟨⟨rfl,rfl,rfl, fun _=>rfl⟩, ?_⟩); refine ⟨⟨congrArg (fun E => TyX.m 110 (mEs E) (mEs E).length) (EQ_full GU.ol hjl), rfl,rfl,fun _=>rfl⟩, ?_⟩; (iterate 2 refine ⟨⟨rfl,rfl,rfl, fun _=>rfl⟩, ?_⟩); exact trivial), keepR_one rfl rfl (fun _=>rfl) (keepR_one rfl rfl (fun _=>rfl) (keepR_one rfl rfl (fun _=>rfl) (keepR_one rfl rfl (fun _=>rfl) trivial))), hR () ⟨hd0f, hmf, hd1f⟩⟩
 ·rintro _ ⟨hd0, hmd, hd1⟩
  rw [listsX_len, List.take_length] at hd0 hmd hd1
  conv => whnf
  refine loop_st (G := {k : Nat // k ≤ CL.length ∧ ∀ i (h : i < CL.length), i < k → okM (entsG GU.il 0 L) i CL[i].used ∧ okM (entsG GU.ol 0 L) i CL[i].made} × (Nat → Value)) (fun g => (.c (.val (g.2 0)) :: .c (.val (g.2 1)) :: .c (.ptr 8 0) :: .c (.ptr 11 0) :: .c (.val (g.2 4)) :: .c (.val (g.2 5)) :: .c (.val (g.2 6)) :: .c (.val (g.2 7)) :: .c (.val (g.2 8)) :: .c (.val (g.2 9)) :: .c (.val (g.2 10)) :: .c (.val (g.2 11)) :: .c (.val (g.2 12)) :: .c (.val (g.2 13)) :: .c (.val (g.2 14)) :: .c (.val (g.2 15)) :: .c (.val (g.2 16)) :: .c (.val (g.2 17)) :: .c (.val (g.2 18)) :: .c (.val (g.2 19)) :: .c (.val (g.2 20)) :: .c (.val (g.2 21)) :: .c (.val (g.2 22)) :: .c (.val (g.2 23)) :: .c (.val (g.2 24)) :: .c (.val (g.2 25)) :: .c (.val (g.2 26)) :: .c (.val (g.2 27)) :: .c (.val (g.2 28)) :: .c (.val (g.2 29)) :: .c (.val (g.2 30)) :: .c (.val (g.2 31)) :: .c (.val (g.2 32)) :: .c (.val (g.2 33)) :: .c (.val (g.2 34)) :: .c (.val (g.2 35)) :: .c (.val (g.2 36)) :: .c (.val (g.2 37)) :: .c (.val (g.2 38)) :: .c (.val (g.2 39)) :: .c (.val (g.2 40)) :: .c (.val (g.2 41)) :: .c (.val (g.2 42)) :: .c (.val (g.2 43)) :: .c (.val (g.2 44)) :: .c (.val (g.2 45)) :: .c (.val (g.2 46)) :: .c (.val (g.2 47)) :: .c (.val (g.2 48)) :: .c (.val (g.2 49)) :: .c (.val (g.2 50)) :: .c (.val (g.2 51)) :: .c (.val (g.2 52)) :: .c (.val (g.2 53)) :: .c (.val (g.2 54)) :: .c (.val (g.2 55)) :: .c (.val (g.2 56)) :: .c (.val (g.2 57)) :: .c (.val (g.2 58)) :: .c (.val (g.2 59)) :: .c (.val (g.2 60)) :: .c (.val (g.2 61)) :: .c (.val (g.2 62)) :: .c (.val (g.2 63)) :: .c (.val (g.2 64)) :: .c (.val (g.2 65)) :: .c (.val (g.2 66)) :: .c (.val (g.2 67)) :: .c (.val (g.2 68)) :: .c (.val (g.2 69)) :: .c (.val (g.2 70)) :: .c (.sli n1 0 0 CL.length c1 h1) :: .c (.int (CL.length : Nat) (lt_irV h1 (Nat.le_refl _))) :: .c (.int (g.1.1 : Nat) (lt_irV h1 g.1.2.1)) :: .c (.val (g.2 74)) :: .c (.val (g.2 75)) :: .c (.val (g.2 76)) :: .c (.val (g.2 77)) :: .c (.val (g.2 78)) :: .c (.val (g.2 79)) :: .c (.val (g.2 80)) :: .c (.val (g.2 81)) :: .c (.val (g.2 82)) :: .c (.val (g.2 83)) :: .c (.val (g.2 84)) :: .c (.val (g.2 85)) :: .c (.val (g.2 86)) :: .c (.val (g.2 87)) :: .c (.val (g.2 88)) :: .c (.val (g.2 89)) :: .c (.val (g.2 90)) :: .c (.val (g.2 91)) :: .c (.val (g.2 92)) :: .c (.val (g.2 93)) :: .c (.val (g.2 94)) :: .c (.val (g.2 95)) :: .c (.val (g.2 96)) :: .c (.val (g.2 97)) :: .c (.val (g.2 98)) :: .c (.val (g.2 99)) :: .c (.val (g.2 100)) :: .c (.val (g.2 101)) :: .c (.val (g.2 102)) :: .c (.val (g.2 103)) :: .c (.val (g.2 104)) :: .c (.val (g.2 105)) :: .c (.val (g.2 106)) :: .c (.val (g.2 107)) :: .c (.val (g.2 108)) :: [])) (fun g => [⟨.t tc, true, cusC CL, 0⟩, ⟨.t td, true, gusC L, 0⟩, ⟨.t tt, true, blC CT, 0⟩, ⟨.x fam, true, [], 3⟩, ⟨53, false, [.sli n1 0 0 CL.length c1 h1, .sli n2 1 0 L.length c2 h2], 0⟩, ⟨57, false, [.sli n3 2 0 CT.length c3 h3], 0⟩, ⟨4, false, [.val (.bool false)], 0⟩, ⟨69, false, [.ptr 4 0], 0⟩, ⟨4, false, [.val (.bool false)], 0⟩, mBlk (entsG GU.il 0 L), mBlk (entsG GU.ol 0 L), ⟨111, false, [.mp 9, .mp 10], 0⟩, ⟨69, false, [.ptr 4 0], 0⟩]) (fun g => CL.length - g.1.1) ?_ ?_
  ·refine ⟨[0,1,2,3,4,5,6,7,8,9,10,11,12], [2,3,71,72,73], [0,1,2], fun vs6 => ?_⟩
   conv => whnf
   refine ⟨cusC_pure CL, gusC_pure L, blC_pure CT, ?_⟩
   conv => whnf
   refine ⟨_, _, ?_, ?_, (⟨0, Nat.zero_le _, fun i _ h => absurd h (Nat.not_lt_zero _)⟩, vs6), rfl, rfl⟩
   ·exact (by (iterate 74 refine ⟨fun _=>rfl,?_⟩); exact stm _)
   ·exact (by (iterate 9 refine ⟨⟨rfl,rfl,rfl, fun _=>rfl⟩, ?_⟩); refine ⟨⟨congrArg (fun E => TyX.m 110 (mEs E) (mEs E).length) (show entsG GU.il 0 (L.take (listsX 0 L).length) = entsG GU.il 0 L by rw [listsX_len, List.take_length]), rfl,rfl,fun _=>rfl⟩, ?_⟩; refine ⟨⟨congrArg (fun E => TyX.m 110 (mEs E) (mEs E).length) (show entsG GU.ol 0 (L.take (listsX 0 L).length) = entsG GU.ol 0 L by rw [listsX_len, List.take_length]), rfl,rfl,fun _=>rfl⟩, ?_⟩; (iterate 2 refine ⟨⟨rfl,rfl,rfl, fun _=>rfl⟩, ?_⟩); exact trivial)
  ·rintro ⟨⟨k, hk, hok⟩, vs6⟩
   have hk : k ≤ CL.length := hk
   have hok : ∀ i (h : i < CL.length), i < k → okM (entsG GU.il 0 L) i CL[i].used ∧ okM (entsG GU.ol 0 L) i CL[i].made := hok
   dsimp only
   conv => whnf
   refine bcase_intro (fun hlt => ?_) (fun hlt => ?_)
   ·have hlt : k < CL.length := n_lt hlt
    have hki : IR (k : Int) := lt_irV h1 hk
    conv => whnf
    conv =>
     arg 2
     tactic' =>
      apply eff_index_sli (k := k) (hi := hki) (ho := ?how11) (hT := ?hTw11) (hx := ?hxw11) (hk := ?hkw11) (hlt := ?hltw11)
      case how11 => rfl
      case hTw11 => rfl
      case hxw11 => rfl
      case hkw11 => rfl
      case hltw11 => exact hlt
    conv => whnf
    conv =>
     arg 2
     tactic' =>
      apply eff_load_sub (ho := ?how12) (hT := ?hTw12) (hx := ?hxw12) (hb := ?hbw12) (hm := ?hmw12) (hv := ?hvw12)
      case how12 => rfl
      case hTw12 => rfl
      case hxw12 => rfl
      case hbw12 => rfl
      case hmw12 => exact subC_cus CL hlt
      case hvw12 => rfl
    conv => whnf
    refine .inl ⟨3, ?_⟩
    conv => whnf
    refine .inl ⟨3, 3, .c (.int (k : Int) hki), .c (.int 0 (by decide)), ki_map, keyedI, fun _=>rfl,keyI _, mEs_keys _, ki_zero, fun hno => ?_, fun e he hk => ?_⟩
    ·have hno2 := mEs_no hno
     conv => whnf
     refine bcase_intro (fun hb => ?_) (fun hb => ?_)
     ·have hb := bo1 (p := (0 : Int) ≤ CL[k].used) hb
      conv => whnf
      exact hF (fun h => okM_n1 hno2 hb (h.2 k hlt).1) _
     ·have hb := bo2 (p := (0 : Int) ≤ CL[k].used) hb
      have hm0 : okM (entsG GU.il 0 L) k CL[k].used := .inr ⟨by omega, hno2⟩
      conv => whnf
      refine .inl ⟨3, 3, .c (.int (k : Int) hki), .c (.int 0 (by decide)), ki_map, keyedI, fun _=>rfl,keyI _, mEs_keys _, ki_zero, fun hno => ?_, fun e he hk => ?_⟩
      ·have hno2 := mEs_no hno
       conv => whnf
       refine bcase_intro (fun hb => ?_) (fun hb => ?_)
       ·have hb := bo1 (p := (0 : Int) ≤ CL[k].made) hb
        conv => whnf
        exact hF (fun h => okM_n1 hno2 hb (h.2 k hlt).2) _
       ·have hb := bo2 (p := (0 : Int) ≤ CL[k].made) hb
        have hm1 : okM (entsG GU.ol 0 L) k CL[k].made := .inr ⟨by omega, hno2⟩
        conv => whnf
        refine ⟨[0,1,2,3,4,5,6,7,8,9,10,11,12], [2,3,71,72,73], [0,1,2], fun vs7 => ?_⟩
        conv => whnf
        refine ⟨cusC_pure CL, gusC_pure L, blC_pure CT, ?_⟩
        conv => whnf
        refine ⟨_, _, ?_, ?_, (⟨k + 1, hlt, okM_step hok hm0 hm1⟩, vs7), (by omega : CL.length - (k + 1) < CL.length - k), rfl, rfl⟩
        ·exact (by (iterate 73 refine ⟨fun _=>rfl,?_⟩); refine ⟨fun ρ => sint_kV (wrap_add1 (n := CL.length) hlt h1.ir) ρ, ?_⟩; exact stm _)
        ·exact (by (iterate 13 refine ⟨⟨rfl,rfl,rfl, fun _=>rfl⟩, ?_⟩); exact trivial)
      ·obtain ⟨p, hp, rfl⟩ := mEs_mem he
       have hpx : p.1.x = (k : Int) := denB_int hk
       conv => whnf
       refine bcase_intro (fun hb => ?_) (fun hb => ?_)
       ·have hb := bo3 (p := (0 : Int) ≤ CL[k].made) hb
        conv => whnf
        exact hF (fun h => okM_n2 hp hpx hb (h.2 k hlt).2) _
       ·have hb := bo4 (p := (0 : Int) ≤ CL[k].made) hb
        conv => whnf
        refine bcase_intro (fun hc => ?_) (fun hc => ?_)
        ·have hc := bo5 (p := p.2.x = CL[k].made) hc
         conv => whnf
         exact hF (fun h => okM_n3 hd1 hp hpx hc (h.2 k hlt).2) _
        ·have hc := bo6 (p := p.2.x = CL[k].made) hc
         have hm1 : okM (entsG GU.ol 0 L) k CL[k].made := .inl ⟨hb, p, hp, hpx, hc⟩
         conv => whnf
         refine ⟨[0,1,2,3,4,5,6,7,8,9,10,11,12], [2,3,71,72,73], [0,1,2], fun vs7 => ?_⟩
         conv => whnf
         refine ⟨cusC_pure CL, gusC_pure L, blC_pure CT, ?_⟩
         conv => whnf
         refine ⟨_, _, ?_, ?_, (⟨k + 1, hlt, okM_step hok hm0 hm1⟩, vs7), (by omega : CL.length - (k + 1) < CL.length - k), rfl, rfl⟩
         ·exact (by (iterate 73 refine ⟨fun _=>rfl,?_⟩); refine ⟨fun ρ => sint_kV (wrap_add1 (n := CL.length) hlt h1.ir) ρ, ?_⟩; exact stm _)
         ·exact (by (iterate 13 refine ⟨⟨rfl,rfl,rfl, fun _=>rfl⟩, ?_⟩); exact trivial)
    ·obtain ⟨p, hp, rfl⟩ := mEs_mem he
     have hpx : p.1.x = (k : Int) := denB_int hk
     conv => whnf
     refine bcase_intro (fun hb => ?_) (fun hb => ?_)
     ·have hb := bo3 (p := (0 : Int) ≤ CL[k].used) hb
      conv => whnf
      exact hF (fun h => okM_n2 hp hpx hb (h.2 k hlt).1) _
     ·have hb := bo4 (p := (0 : Int) ≤ CL[k].used) hb
      conv => whnf
      refine bcase_intro (fun hc => ?_) (fun hc => ?_)
      ·have hc := bo5 (p := p.2.x = CL[k].used) hc
       conv => whnf
       exact hF (fun h => okM_n3 hd0 hp hpx hc (h.2 k hlt).1) _
      ·have hc := bo6 (p := p.2.x = CL[k].used) hc
       have hm0 : okM (entsG GU.il 0 L) k CL[k].used := .inl ⟨hb, p, hp, hpx, hc⟩
       conv => whnf
       refine .inl ⟨3, 3, .c (.int (k : Int) hki), .c (.int 0 (by decide)), ki_map, keyedI, fun _=>rfl,keyI _, mEs_keys _, ki_zero, fun hno => ?_, fun e he hk => ?_⟩
       ·have hno2 := mEs_no hno
        conv => whnf
        refine bcase_intro (fun hb => ?_) (fun hb => ?_)
        ·have hb := bo1 (p := (0 : Int) ≤ CL[k].made) hb
         conv => whnf
         exact hF (fun h => okM_n1 hno2 hb (h.2 k hlt).2) _
        ·have hb := bo2 (p := (0 : Int) ≤ CL[k].made) hb
         have hm1 : okM (entsG GU.ol 0 L) k CL[k].made := .inr ⟨by omega, hno2⟩
         conv => whnf
         refine ⟨[0,1,2,3,4,5,6,7,8,9,10,11,12], [2,3,71,72,73], [0,1,2], fun vs7 => ?_⟩
         conv => whnf
         refine ⟨cusC_pure CL, gusC_pure L, blC_pure CT, ?_⟩
         conv => whnf
         refine ⟨_, _, ?_, ?_, (⟨k + 1, hlt, okM_step hok hm0 hm1⟩, vs7), (by omega : CL.length - (k + 1) < CL.length - k), rfl, rfl⟩
         ·exact (by (iterate 73 refine ⟨fun _=>rfl,?_⟩); refine ⟨fun ρ => sint_kV (wrap_add1 (n := CL.length) hlt h1.ir) ρ, ?_⟩; exact stm _)
         ·exact (by (iterate 13 refine ⟨⟨rfl,rfl,rfl, fun _=>rfl⟩, ?_⟩); exact trivial)
       ·obtain ⟨p, hp, rfl⟩ := mEs_mem he
        have hpx : p.1.x = (k : Int) := denB_int hk
        conv => whnf
        refine bcase_intro (fun hb => ?_) (fun hb => ?_)
        ·have hb := bo3 (p := (0 : Int) ≤ CL[k].made) hb
         conv => whnf
         exact hF (fun h => okM_n2 hp hpx hb (h.2 k hlt).2) _
        ·have hb := bo4 (p := (0 : Int) ≤ CL[k].made) hb
         conv => whnf
         refine bcase_intro (fun hc => ?_) (fun hc => ?_)
         ·have hc := bo5 (p := p.2.x = CL[k].made) hc
          conv => whnf
          exact hF (fun h => okM_n3 hd1 hp hpx hc (h.2 k hlt).2) _
         ·have hc := bo6 (p := p.2.x = CL[k].made) hc
          have hm1 : okM (entsG GU.ol 0 L) k CL[k].made := .inl ⟨hb, p, hp, hpx, hc⟩
          conv => whnf
          refine ⟨[0,1,2,3,4,5,6,7,8,9,10,11,12], [2,3,71,72,73], [0,1,2], fun vs7 => ?_⟩
          conv => whnf
          refine ⟨cusC_pure CL, gusC_pure L, blC_pure CT, ?_⟩
          conv => whnf
          refine ⟨_, _, ?_, ?_, (⟨k + 1, hlt, okM_step hok hm0 hm1⟩, vs7), (by omega : CL.length - (k + 1) < CL.length - k), rfl, rfl⟩
          ·exact (by (iterate 73 refine ⟨fun _=>rfl,?_⟩); refine ⟨fun ρ => sint_kV (wrap_add1 (n := CL.length) hlt h1.ir) ρ, ?_⟩; exact stm _)
          ·exact (by (iterate 13 refine ⟨⟨rfl,rfl,rfl, fun _=>rfl⟩, ?_⟩); exact trivial)
   ·have hge : CL.length ≤ k := n_ge hlt
    conv => whnf
    exact hT ⟨⟨hd0, hmd, hd1⟩, fun i h => hok i h (by omega)⟩ _
end Go.Proofs.YthmdmbpecgakkaaDoor

namespace Go.Proofs.YthmdmbpecgakkaaDoor
open Go.RowKit
set_option maxRecDepth 100000

def madeL (CL : List CU) : List ZV → List ZV
 | [] => []
 | z :: l => (match cuAt CL z with | some c => if 0 ≤ c.made then [⟨c.made, c.hm⟩] else [] | none => []) ++ madeL CL l
theorem needsX_map (CL : List CU) : ∀ l : List ZV, needsX CL l = (madeL CL l).map fun z => [SV.c (.int z.x z.hx)]
 | [] => rfl
 | z :: l => by
  rw [needsX, madeL, List.map_append, needsX_map CL l]
  congr 1
  cases cuAt CL z with
  | none => rfl
  | some c =>
   simp only
   split <;> rfl
theorem madeL_mem (CL : List CU) : ∀ {l : List ZV} {z : ZV}, z ∈ madeL CL l ↔ ∃ y ∈ l, ∃ c, cuAt CL y = some c ∧ 0 ≤ c.made ∧ z = ⟨c.made, c.hm⟩
 | [], z => ⟨fun h => (by cases h), fun ⟨y, h, _⟩ => (by cases h)⟩
 | y :: l, z => by
  rw [madeL, List.mem_append, madeL_mem CL]
  constructor
  ·rintro (h | ⟨y', h1, h2⟩)
   ·split at h
    ·rename_i c hc
     split at h
     ·rename_i h0
      rw [List.mem_singleton] at h
      exact ⟨y, List.mem_cons_self, c, hc, h0, h⟩
     ·cases h
    ·cases h
   ·exact ⟨y', List.mem_cons_of_mem _ h1, h2⟩
  ·rintro ⟨y', h1, c, h2, h3, h4⟩
   rcases List.mem_cons.1 h1 with e | h1
   ·subst e
    left
    rw [h2]
    simp only
    rw [if_pos h3]
    exact List.mem_singleton.2 h4
   ·exact .inr ⟨y', h1, c, h2, h3, h4⟩
theorem cuAt_mem {CL : List CU} {z : ZV} {c : CU} (h : cuAt CL z = some c) : c ∈ CL := List.mem_of_getElem? h
theorem made_lt {CL : List CU} {L : List GU} (h : idxG CL L = true) {c : CU} (hc : c ∈ CL) : c.made < (L.length : Nat) ∧ c.used < (L.length : Nat) := by
 unfold idxG at h
 rw [Bool.and_eq_true] at h
 have h1 := List.all_eq_true.1 h.1 _ hc
 unfold idxCu at h1
 simp only [Bool.and_eq_true, Bool.not_eq_true', decide_eq_false_iff_not] at h1
 obtain ⟨-, h1⟩ := h1
 unfold maxI at h1
 split at h1 <;> omega
theorem subC_bl (l : List Bool) {k : Nat} (hk : k < l.length) : subC (blC l) (0 + k * 1) 1 = some [.val (.bool l[k])] := by
 have app : ∀ a b : List Bool, blC (a ++ b) = blC a ++ blC b := fun a b => by
  induction a with
  | nil => rfl
  | cons x a ih => rw [List.cons_append, blC, ih]; rfl
 have siz : ∀ a : List Bool, sizeC (blC a) = a.length := fun a => by
  induction a with
  | nil => rfl
  | cons x a ih => rw [blC, List.length_cons, ← ih]; show 1 + _ = _; omega
 have e : blC l = blC (l.take k) ++ ([.val (.bool l[k])] ++ blC (l.drop (k + 1))) := by
  have h : l = l.take k ++ (l[k] :: l.drop (k + 1)) := by rw [← List.drop_eq_getElem_cons hk, List.take_append_drop]
  rw [show blC l = blC (l.take k ++ (l[k] :: l.drop (k + 1))) by rw [← h], app]
  rfl
 have s : sizeC (blC (l.take k)) = 0 + k * 1 := by rw [siz, List.length_take, Nat.min_eq_left (Nat.le_of_lt hk)]; omega
 rw [e, ← s]
 exact subC_app _ [.val (.bool l[k])] _
def ClQ (CL : List CU) (L : List GU) (CT : List Bool) (n : Nat) : Prop := ∀ k (h : k < L.length), k < n → CT[k]? = some true → ∀ z ∈ madeL CL L[k].il, CT[z.x.toNat]? = some true
theorem ClQ_iff {CL : List CU} {L : List GU} {CT : List Bool} : ClQ CL L CT L.length ↔ ClP CL L CT := by
 constructor
 ·intro h k hk ht z hz c hc h0
  exact h k hk hk ht ⟨c.made, c.hm⟩ ((madeL_mem CL).2 ⟨z, hz, c, hc, h0, rfl⟩)
 ·intro h k hk _ ht z hz
  obtain ⟨y, hy, c, hc, h0, rfl⟩ := (madeL_mem CL).1 hz
  exact h k hk ht y hy c hc h0
theorem ClQ_step {CL : List CU} {L : List GU} {CT : List Bool} {n : Nat} (hn : n < L.length) (h : ClQ CL L CT n) (hs : CT[n]? = some true → ∀ z ∈ madeL CL L[n].il, CT[z.x.toNat]? = some true) : ClQ CL L CT (n + 1) := fun k hk hkn => by
 rcases Nat.lt_or_ge k n with h9 | h9
 ·exact h k hk h9
 ·obtain rfl : k = n := by omega
  exact hs
def cValid : NewC := fun args ros K => ∃ n1 CL c1 h1 n2 L c2 h2 n3 CT c3 h3 fam tc td tt, args = [.agg [.sli n1 0 0 CL.length c1 h1, .sli n2 1 0 L.length c2 h2], .c (.sli n3 2 0 (List.length CT) c3 h3)] ∧ ros = [⟨.t tc, true, cusC CL, 0⟩, ⟨.t td, true, gusC L, 0⟩, ⟨.t tt, true, blC CT, 0⟩, ⟨.x fam, true, [], 3⟩] ∧ (∀ g ∈ L, g.Ok fam) ∧ ∀ b, (b = true ↔ VldP CL L CT) → K (.c (.val (.bool b))) []
set_option maxHeartbeats 16000000 in
theorem csValid : CSpX Tryd.prog 21 cValid := csp_ofX (envV_ok 0) mixed (hat_ok (l := [37, 38]) (inl_ok (envV_ok 0) mixed lodF_ok 6)) ⟨Tryd.func21, by kernel_rfl, by kernel_rfl⟩ fun args ros K hc => by
 obtain ⟨n1, CL, c1, h1, n2, L, c2, h2, n3, CT, c3, h3, fam, tc, td, tt, rfl,rfl,hL, hc⟩ := hc
 refine ⟨fun ρ ρ' e => ?_, ?_⟩
 ·have e0 := e 0 (Nat.zero_lt_succ _)
  have e1 := e 1 (by decide : 1 < 4)
  have e2 := e 2 (by decide : 2 < 4)
  simp only [List.map, SV.den, C.den, C.cells, e0, e1, e2, List.flatMap_cons, List.flatMap_nil, cellsL]
 conv => whnf
 refine .mk (indices_vc (fam := fam) hL (fun hi ex => ?_) (fun hi ex => ?_))
 ·refine .inr ⟨[0,1,2,3,4,5,6], [0], [0,1,2], fun vs => ?_⟩
  conv => whnf
  refine ⟨cusC_pure CL, gusC_pure L, blC_pure CT, ?_⟩
  conv => whnf
  refine ⟨[.c (.val (.bool false))], [⟨.t tc, true, cusC CL, 0⟩, ⟨.t td, true, gusC L, 0⟩, ⟨.t tt, true, blC CT, 0⟩, ⟨.x fam, true, [], 3⟩, ⟨53, false, [.sli n1 0 0 CL.length c1 h1, .sli n2 1 0 L.length c2 h2], 0⟩, ⟨57, false, [.sli n3 2 0 CT.length c3 h3], 0⟩, ⟨4, false, [.val (.bool false)], 0⟩], ⟨fun _=>rfl,trivial⟩, (by (iterate 7 refine ⟨⟨rfl,rfl,rfl, fun _=>rfl⟩, ?_⟩); exact trivial), ?_⟩
  conv => whnf
  refine ⟨[0,1,2,3], [0,1,2], fun vs9 => ?_⟩
  conv => whnf
  refine ⟨cusC_pure CL, gusC_pure L, blC_pure CT, ?_⟩
  conv => whnf
  exact ⟨_, [], rfl, ⟨⟨rfl,rfl,rfl, fun _=>rfl⟩, ⟨rfl,rfl,rfl, fun _=>rfl⟩, ⟨rfl,rfl,rfl, fun _=>rfl⟩, ⟨rfl,rfl,rfl, fun _=>rfl⟩, trivial⟩, trivial, _, fun _=>rfl,hc _ ⟨fun h => (by cases h), fun h => absurd (show idxG CL L = true from h.1.1) (by rw [hi]; decide)⟩⟩
 ·refine .inr ⟨[0,1,2,3,4,5,6], [0], [0,1,2], fun vs => ?_⟩
  conv => whnf
  refine ⟨cusC_pure CL, gusC_pure L, blC_pure CT, ?_⟩
  conv => whnf
  refine ⟨[.c (.val (.bool true))], [⟨.t tc, true, cusC CL, 0⟩, ⟨.t td, true, gusC L, 0⟩, ⟨.t tt, true, blC CT, 0⟩, ⟨.x fam, true, [], 3⟩, ⟨53, false, [.sli n1 0 0 CL.length c1 h1, .sli n2 1 0 L.length c2 h2], 0⟩, ⟨57, false, [.sli n3 2 0 CT.length c3 h3], 0⟩, ⟨4, false, [.val (.bool false)], 0⟩], ⟨fun _=>rfl,trivial⟩, (by (iterate 7 refine ⟨⟨rfl,rfl,rfl, fun _=>rfl⟩, ?_⟩); exact trivial), ?_⟩
  conv => whnf
  refine .mk (makers_vc (fam := fam) hL hi (fun hm ex => ?_) (fun hm ex => ?_))
  ·refine .inr ⟨[0,1,2,3,4,5,6], [0], [0,1,2], fun vs => ?_⟩
   conv => whnf
   refine ⟨cusC_pure CL, gusC_pure L, blC_pure CT, ?_⟩
   conv => whnf
   refine ⟨[.c (.val (.bool false))], [⟨.t tc, true, cusC CL, 0⟩, ⟨.t td, true, gusC L, 0⟩, ⟨.t tt, true, blC CT, 0⟩, ⟨.x fam, true, [], 3⟩, ⟨53, false, [.sli n1 0 0 CL.length c1 h1, .sli n2 1 0 L.length c2 h2], 0⟩, ⟨57, false, [.sli n3 2 0 CT.length c3 h3], 0⟩, ⟨4, false, [.val (.bool false)], 0⟩], ⟨fun _=>rfl,trivial⟩, (by (iterate 7 refine ⟨⟨rfl,rfl,rfl, fun _=>rfl⟩, ?_⟩); exact trivial), ?_⟩
   conv => whnf
   refine ⟨[0,1,2,3], [0,1,2], fun vs9 => ?_⟩
   conv => whnf
   refine ⟨cusC_pure CL, gusC_pure L, blC_pure CT, ?_⟩
   conv => whnf
   exact ⟨_, [], rfl, ⟨⟨rfl,rfl,rfl, fun _=>rfl⟩, ⟨rfl,rfl,rfl, fun _=>rfl⟩, ⟨rfl,rfl,rfl, fun _=>rfl⟩, ⟨rfl,rfl,rfl, fun _=>rfl⟩, trivial⟩, trivial, _, fun _=>rfl,hc _ ⟨fun h => (by cases h), fun h => absurd (show MkP CL L from h.1.2) hm⟩⟩
  ·refine .inr ⟨[0,1,2,3,4,5,6], [0], [0,1,2], fun vs => ?_⟩
   conv => whnf
   refine ⟨cusC_pure CL, gusC_pure L, blC_pure CT, ?_⟩
   conv => whnf
   refine ⟨[.c (.val (.bool true))], [⟨.t tc, true, cusC CL, 0⟩, ⟨.t td, true, gusC L, 0⟩, ⟨.t tt, true, blC CT, 0⟩, ⟨.x fam, true, [], 3⟩, ⟨53, false, [.sli n1 0 0 CL.length c1 h1, .sli n2 1 0 L.length c2 h2], 0⟩, ⟨57, false, [.sli n3 2 0 CT.length c3 h3], 0⟩, ⟨4, false, [.val (.bool false)], 0⟩], ⟨fun _=>rfl,trivial⟩, (by (iterate 7 refine ⟨⟨rfl,rfl,rfl, fun _=>rfl⟩, ?_⟩); exact trivial), ?_⟩
   conv => whnf
   refine bcase_intro (fun hn => ?_) (fun hn => ?_)
   ·have hn : (!decide ((CT.length : Int) = (L.length : Nat))) = true := hn
    have hn := bo5 hn
    conv => whnf
    refine ⟨[0,1,2,3], [0,1,2], fun vs9 => ?_⟩
    conv => whnf
    refine ⟨cusC_pure CL, gusC_pure L, blC_pure CT, ?_⟩
    conv => whnf
    exact ⟨_, [], rfl, ⟨⟨rfl,rfl,rfl, fun _=>rfl⟩, ⟨rfl,rfl,rfl, fun _=>rfl⟩, ⟨rfl,rfl,rfl, fun _=>rfl⟩, ⟨rfl,rfl,rfl, fun _=>rfl⟩, trivial⟩, trivial, _, fun _=>rfl,hc _ ⟨fun h => (by cases h), fun h => absurd (show CT.length = L.length from h.2.1) (fun e => hn (by rw [e]))⟩⟩
   ·have hn : (!decide ((CT.length : Int) = (L.length : Nat))) = false := hn
    have hn : CT.length = L.length := Int.ofNat.inj (bo6 hn)
    conv => whnf
    refine loop_st (G := {k : Nat // k ≤ CT.length ∧ ClQ CL L CT k} × (Nat → Value)) (fun g => (.c (.val (g.2 0)) :: .c (.val (g.2 1)) :: .c (.ptr 4 0) :: .c (.ptr 5 0) :: .c (.ptr 6 0) :: .c (.val (g.2 5)) :: .c (.val (g.2 6)) :: .c (.val (g.2 7)) :: .c (.val (g.2 8)) :: .c (.val (g.2 9)) :: .c (.val (g.2 10)) :: .c (.val (g.2 11)) :: .c (.val (g.2 12)) :: .c (.val (g.2 13)) :: .c (.val (g.2 14)) :: .c (.val (g.2 15)) :: .c (.val (g.2 16)) :: .c (.val (g.2 17)) :: .c (.val (g.2 18)) :: .c (.val (g.2 19)) :: .c (.val (g.2 20)) :: .c (.val (g.2 21)) :: .c (.sli n3 2 0 CT.length c3 h3) :: .c (.int (CT.length : Nat) (lt_irV h3 (Nat.le_refl _))) :: .c (.int (g.1.1 : Nat) (lt_irV h3 g.1.2.1)) :: .c (.val (g.2 25)) :: .c (.val (g.2 26)) :: .c (.val (g.2 27)) :: .c (.val (g.2 28)) :: .c (.val (g.2 29)) :: .c (.val (g.2 30)) :: .c (.val (g.2 31)) :: .c (.val (g.2 32)) :: .c (.val (g.2 33)) :: .c (.val (g.2 34)) :: .c (.val (g.2 35)) :: .c (.val (g.2 36)) :: .c (.val (g.2 37)) :: .c (.val (g.2 38)) :: .c (.val (g.2 39)) :: .c (.val (g.2 40)) :: [])) (fun g => [⟨.t tc, true, cusC CL, 0⟩, ⟨.t td, true, gusC L, 0⟩, ⟨.t tt, true, blC CT, 0⟩, ⟨.x fam, true, [], 3⟩, ⟨53, false, [.sli n1 0 0 CL.length c1 h1, .sli n2 1 0 L.length c2 h2], 0⟩, ⟨57, false, [.sli n3 2 0 CT.length c3 h3], 0⟩, ⟨4, false, [.val (.bool false)], 0⟩]) (fun g => CT.length - g.1.1) ?_ ?_
    ·refine ⟨[0,1,2,3,4,5,6], [2,3,4,22,23,24], [0,1,2], fun vs6 => ?_⟩
     conv => whnf
     refine ⟨cusC_pure CL, gusC_pure L, blC_pure CT, ?_⟩
     conv => whnf
     refine ⟨_, _, ?_, ?_, (⟨0, Nat.zero_le _, fun k hk h => absurd h (Nat.not_lt_zero _)⟩, vs6), rfl, rfl⟩
     ·exact (by (iterate 25 refine ⟨fun _=>rfl,?_⟩); exact stm _)
     ·exact (by (iterate 7 refine ⟨⟨rfl,rfl,rfl, fun _=>rfl⟩, ?_⟩); exact trivial)
    ·rintro ⟨⟨k, hk, hcl⟩, vs6⟩
     have hk : k ≤ CT.length := hk
     have hcl : ClQ CL L CT k := hcl
     dsimp only
     conv => whnf
     refine bcase_intro (fun hlt => ?_) (fun hlt => ?_)
     ·have hlt : k < CT.length := n_lt hlt
      have hki : IR (k : Int) := lt_irV h3 hk
      have hkl : k < L.length := by rw [← hn]; exact hlt
      conv => whnf
      conv =>
       arg 2
       tactic' =>
        apply eff_index_sli (k := k) (hi := hki) (ho := ?how13) (hT := ?hTw13) (hx := ?hxw13) (hk := ?hkw13) (hlt := ?hltw13)
        case how13 => rfl
        case hTw13 => rfl
        case hxw13 => rfl
        case hkw13 => rfl
        case hltw13 => exact hlt
      conv => whnf
      conv =>
       arg 2
       tactic' =>
        apply eff_load_sub (ho := ?how14) (hT := ?hTw14) (hx := ?hxw14) (hb := ?hbw14) (hm := ?hmw14) (hv := ?hvw14)
        case how14 => rfl
        case hTw14 => rfl
        case hxw14 => rfl
        case hbw14 => rfl
        case hmw14 => exact subC_bl CT hlt
        case hvw14 => rfl
      conv => whnf
      obtain ⟨hgi, -, hgr, -⟩ := hL L[k] (List.getElem_mem hkl)
      refine .inr ⟨rfl, 8, 9, 4, 1, 0, 3, _, _, _, _, _, _, _, _, _, _, _, _, _, _, _, _, k, hki, n1, CL, c1, h1, n2, L, c2, h2, fam, L[k].il, hkl, rfl,rfl,rfl,rfl,rfl,rfl,rfl, .inr rfl, ⟨hgi, hgr, fun z hz => ?_⟩, ?_⟩
      ·obtain ⟨i, e1, e2⟩ := idx_il hi hkl hz
       omega
      rw [needsX_map]
      refine ⟨keepR_one rfl rfl (fun _=>rfl) (keepR_one rfl rfl (fun _=>rfl) (keepR_one rfl rfl (fun _=>rfl) (keepR_one rfl rfl (fun _=>rfl) (keepR_one rfl rfl (fun _=>rfl) (keepR_fam rfl rfl ⟨[], (List.append_nil _).symm⟩ trivial))))), ?_⟩
      refine rangeK_ind (G := Unit) (fun q _ => CT[k] = true → ∀ z ∈ (madeL CL L[k].il).take q, CT[z.x.toNat]? = some true) (fun _ _ => [⟨.t tc, true, cusC CL, 0⟩, ⟨.t td, true, gusC L, 0⟩, ⟨.t tt, true, blC CT, 0⟩, ⟨.x fam, true, [], 3⟩, ⟨53, false, [.sli n1 0 0 CL.length c1 h1, .sli n2 1 0 L.length c2 h2], 0⟩, ⟨57, false, [.sli n3 2 0 CT.length c3 h3], 0⟩, ⟨4, false, [.val (.bool false)], 0⟩, ⟨4, false, [.val (.bool CT[k])], 0⟩, ⟨69, false, [.ptr 4 0], 0⟩, ⟨3, false, [.int (k : Int) hki], 0⟩]) ?_ ?_ () (fun _ z hz => by rw [List.take_zero] at hz; cases hz)
      ·rintro q hq _ hP R hR
       have hql : q < (madeL CL L[k].il).length := by rw [List.length_map] at hq; exact hq
       rw [List.getElem_map]
       obtain ⟨yy, hy, cc, hc1, hc2, hc3⟩ := (madeL_mem CL).1 (List.getElem_mem hql)
       obtain ⟨zz, hzz⟩ : ∃ zz, zz = (madeL CL L[k].il)[q] := ⟨_, rfl⟩
       rw [← hzz] at hc3 ⊢
       have hml := (made_lt hi (cuAt_mem hc1)).1
       obtain ⟨m, hm1⟩ : ∃ m : Nat, zz.x = m := ⟨zz.x.toNat, by rw [hc3]; simp only; omega⟩
       have hm2 : m < CT.length := by rw [hc3] at hm1; simp only at hm1; omega
       have hmi : IR (m : Int) := by rw [← hm1]; exact zz.hx
       have stp : (CT[k] = true → CT[m] = true) → CT[k] = true → ∀ z ∈ (madeL CL L[k].il).take (q + 1), CT[z.x.toNat]? = some true := fun h9 hk9 z hz => by
        rw [List.take_add_one, List.getElem?_eq_getElem hql, Option.toList_some, List.mem_append, List.mem_singleton] at hz
        rcases hz with hz | hz
        ·exact hP hk9 z hz
        ·rw [hz, ← hzz, hm1, Int.toNat_natCast, List.getElem?_eq_getElem hm2, h9 hk9]
       conv => whnf
       refine bcase_intro (fun ha => ?_) (fun ha => ?_)
       ·have ha : CT[k] = true := ha
        conv => whnf
        conv =>
         arg 2
         tactic' =>
          apply eff_index_sli (k := m) (hi := hmi) (ho := ?how15) (hT := ?hTw15) (hx := ?hxw15) (hk := ?hkw15) (hlt := ?hltw15)
          case how15 => rfl
          case hTw15 => rfl
          case hxw15 => rfl
          case hkw15 => exact int_svV hm1
          case hltw15 => exact hm2
        conv => whnf
        conv =>
         arg 2
         tactic' =>
          apply eff_load_sub (ho := ?how16) (hT := ?hTw16) (hx := ?hxw16) (hb := ?hbw16) (hm := ?hmw16) (hv := ?hvw16)
          case how16 => rfl
          case hTw16 => rfl
          case hxw16 => rfl
          case hbw16 => rfl
          case hmw16 => exact subC_bl CT hm2
          case hvw16 => rfl
        conv => whnf
        refine bcase_intro (fun hb => ?_) (fun hb => ?_)
        ·have hb : (!CT[m]) = true := hb
         conv => whnf
         refine ⟨[0,1,2,3], [0,1,2], fun vs9 => ?_⟩
         conv => whnf
         refine ⟨cusC_pure CL, gusC_pure L, blC_pure CT, ?_⟩
         conv => whnf
         exact ⟨_, [], rfl, ⟨⟨rfl,rfl,rfl, fun _=>rfl⟩, ⟨rfl,rfl,rfl, fun _=>rfl⟩, ⟨rfl,rfl,rfl, fun _=>rfl⟩, ⟨rfl,rfl,rfl, fun _=>rfl⟩, trivial⟩, trivial, _, fun _=>rfl,hc _ ⟨fun h => (by cases h), fun h => absurd ((ClQ_iff.2 h.2.2) k hkl hkl (by rw [List.getElem?_eq_getElem hlt, ha]) zz (by rw [hzz]; exact List.getElem_mem hql)) (by rw [hm1, Int.toNat_natCast, List.getElem?_eq_getElem hm2]; intro e; rw [Option.some.inj e] at hb; cases hb)⟩⟩
        ·have hb : (!CT[m]) = false := hb
         have hb : CT[m] = true := by cases hx : CT[m] <;> simp_all
         conv => whnf
         exact .inl ⟨(keepR_one rfl rfl (fun _=>rfl) (keepR_one rfl rfl (fun _=>rfl) (keepR_one rfl rfl (fun _=>rfl) (keepR_one rfl rfl (fun _=>rfl) (keepR_one rfl rfl (fun _=>rfl) (keepR_fam rfl rfl ⟨[], (List.append_nil _).symm⟩ trivial)))))), hR () (stp fun _ => hb)⟩
       ·have ha : CT[k] = false := ha
        conv => whnf
        exact .inl ⟨(keepR_one rfl rfl (fun _=>rfl) (keepR_one rfl rfl (fun _=>rfl) (keepR_one rfl rfl (fun _=>rfl) (keepR_one rfl rfl (fun _=>rfl) (keepR_one rfl rfl (fun _=>rfl) (keepR_fam rfl rfl ⟨[], (List.append_nil _).symm⟩ trivial)))))), hR () (stp fun h => absurd h (by rw [ha]; decide))⟩
      ·rintro _ hP
       rw [List.length_map, List.take_length] at hP
       conv => whnf
       refine ⟨[0,1,2,3,4,5,6], [2,3,4,22,23,24], [0,1,2], fun vs7 => ?_⟩
       conv => whnf
       refine ⟨cusC_pure CL, gusC_pure L, blC_pure CT, ?_⟩
       conv => whnf
       refine ⟨_, _, ?_, ?_, (⟨k + 1, hlt, ClQ_step hkl hcl (fun h9 => hP (by rw [List.getElem?_eq_getElem hlt] at h9; exact Option.some.inj h9))⟩, vs7), (by omega : CT.length - (k + 1) < CT.length - k), rfl, rfl⟩
       ·exact (by (iterate 24 refine ⟨fun _=>rfl,?_⟩); refine ⟨fun ρ => sint_kV (wrap_add1 (n := CT.length) hlt h3.ir) ρ, ?_⟩; exact stm _)
       ·exact (by (iterate 7 refine ⟨⟨rfl,rfl,rfl, fun _=>rfl⟩, ?_⟩); exact trivial)
     ·have hge : CT.length ≤ k := n_ge hlt
      obtain rfl : k = CT.length := Nat.le_antisymm hk hge
      rw [hn] at hcl
      conv => whnf
      refine ⟨[0,1,2,3], [0,1,2], fun vs9 => ?_⟩
      conv => whnf
      refine ⟨cusC_pure CL, gusC_pure L, blC_pure CT, ?_⟩
      conv => whnf
      exact ⟨_, [], rfl, ⟨⟨rfl,rfl,rfl, fun _=>rfl⟩, ⟨rfl,rfl,rfl, fun _=>rfl⟩, ⟨rfl,rfl,rfl, fun _=>rfl⟩, ⟨rfl,rfl,rfl, fun _=>rfl⟩, trivial⟩, trivial, _, fun _=>rfl,hc _ ⟨fun _ => ⟨⟨hi, hm⟩, hn, ClQ_iff.1 hcl⟩, fun _=>rfl⟩⟩
end Go.Proofs.YthmdmbpecgakkaaDoor

namespace Go.Proofs.YthmdmbpecgakkaaDoor
open Go.RowKit
set_option maxRecDepth 100000

def intR : RW ZV := ⟨fun z => [.int z.x z.hx], 1, fun _=>rfl,fun _ _ _ => rfl, fun _=>rfl⟩
def ctAt (CT : List Bool) (x : Int) : Bool := CT[x.toNat]?.getD false
def showB (CT : List Bool) (c : CU) : Bool := (decide (c.made < 0) || ctAt CT c.made) && (decide (c.used < 0) || !ctAt CT c.used)
def shwL (CL : List CU) (CT : List Bool) : Nat → List Nat
 | 0 => []
 | k + 1 => shwL CL CT k ++ (match CL[k]? with | some c => if showB CT c = true then [k] else [] | none => [])
theorem shwL_len (CL : List CU) (CT : List Bool) : ∀ k, (shwL CL CT k).length ≤ k
 | 0 => Nat.le_refl _
 | k + 1 => by
  have := shwL_len CL CT k
  rw [shwL, List.length_append]
  split
  ·split <;> simp <;> omega
  ·simp; omega
theorem shwL_yes {CL : List CU} {CT : List Bool} {k : Nat} (hk : k < CL.length) (h : showB CT CL[k] = true) : shwL CL CT (k + 1) = shwL CL CT k ++ [k] := by
 rw [shwL, List.getElem?_eq_getElem hk]; simp only [h, if_true]
theorem shwL_no {CL : List CU} {CT : List Bool} {k : Nat} (hk : k < CL.length) (h : showB CT CL[k] = false) : shwL CL CT (k + 1) = shwL CL CT k := by
 rw [shwL, List.getElem?_eq_getElem hk]; simp [h]
theorem ctAt_nat {CT : List Bool} {x : Int} {m : Nat} (hx : x = m) (hm : m < CT.length) : ctAt CT x = CT[m] := by
 unfold ctAt; rw [hx, Int.toNat_natCast, List.getElem?_eq_getElem hm]; rfl
def cShown : NewC := fun args ros K => ∃ n1 CL c1 h1 n2 L c2 h2 n3 CT c3 h3 fam tc td tt, args = [.agg [.sli n1 0 0 CL.length c1 h1, .sli n2 1 0 L.length c2 h2], .c (.sli n3 2 0 (List.length CT) c3 h3)] ∧ ros = [⟨.t tc, true, cusC CL, 0⟩, ⟨.t td, true, gusC L, 0⟩, ⟨.t tt, true, blC CT, 0⟩, ⟨.x fam, true, [], 3⟩] ∧ (∀ g ∈ L, g.Ok fam) ∧ CL.length ≤ 1099511627776 ∧ ∀ o : OL ZV, (VldP CL L CT → o.l = (shwL CL CT CL.length).map zN) → (¬ VldP CL L CT → o.l = []) → K (o.sl 4) [o.blk intR 3]
theorem showB_y {CT : List Bool} {c : CU} (h1 : decide (c.made < 0) = true ∨ ctAt CT c.made = true) (h2 : decide (c.used < 0) = true ∨ ctAt CT c.used = false) : showB CT c = true := by
 unfold showB
 rcases h1 with h1 | h1 <;> rcases h2 with h2 | h2 <;> simp [h1, h2]
theorem showB_n1 {CT : List Bool} {c : CU} (h1 : decide (c.made < 0) = false) (h2 : ctAt CT c.made = false) : showB CT c = false := by
 unfold showB; rw [h1, h2]; rfl
theorem showB_n2 {CT : List Bool} {c : CU} (h1 : decide (c.used < 0) = false) (h2 : ctAt CT c.used = true) : showB CT c = false := by
 unfold showB; rw [h1, h2]; exact Bool.and_false _
set_option maxHeartbeats 16000000 in
theorem csShown : CSpX Tryd.prog 17 cShown := csp_ofX (envV_ok 0) mixed (hnewG_ok (.cons csValid .nil) (inl_ok (envV_ok 0) mixed noF_ok 0)) ⟨Tryd.func17, by kernel_rfl, by kernel_rfl⟩ fun args ros K hc => by
 obtain ⟨n1, CL, c1, h1, n2, L, c2, h2, n3, CT, c3, h3, fam, tc, td, tt, rfl,rfl,hL, hCLn, hc⟩ := hc
 refine ⟨fun ρ ρ' e => ?_, ?_⟩
 ·have e0 := e 0 (Nat.zero_lt_succ _)
  have e1 := e 1 (by decide : 1 < 4)
  have e2 := e 2 (by decide : 2 < 4)
  simp only [List.map, SV.den, C.den, C.cells, e0, e1, e2, List.flatMap_cons, List.flatMap_nil, cellsL]
 conv => whnf
 refine ⟨3, [0,1,2], [.agg [.sli n1 0 0 CL.length c1 h1, .sli n2 1 0 L.length c2 h2], .c (.sli n3 2 0 CT.length c3 h3)], (fun ρ ρ' e => by
  show List.map (SV.den ρ) [.agg [.sli n1 0 0 CL.length c1 h1, .sli n2 1 0 L.length c2 h2], .c (.sli n3 2 0 CT.length c3 h3)] = _
  have e0 := e 0 _ rfl
  have e1 := e 1 _ rfl
  have e2 := e 2 _ rfl
  simp only [List.map, SV.den, C.den, C.cells, e0, e1, e2, List.flatMap_cons, List.flatMap_nil, cellsL]), .inr rfl, ⟨cusC_pure CL, gusC_pure L, blC_pure CT, trivial⟩, n1, CL, c1, h1, n2, L, c2, h2, n3, CT, c3, h3, fam, _, _, _, rfl,rfl,hL, fun b hb => ?_⟩
 conv => whnf
 refine bcase_intro (fun hz => ?_) (fun hz => ?_)
 ·have hv : ¬ VldP CL L CT := fun h => by rw [hb.2 h] at hz; cases hz
  conv => whnf
  refine ⟨[0, 1, 2, 3, 1000 + 3], [0,1,2], fun vs9 => ?_⟩
  conv => whnf
  refine ⟨cusC_pure CL, gusC_pure L, blC_pure CT, ?_⟩
  conv => whnf
  exact ⟨_, [OL.none.blk intR 3], rfl, ⟨⟨rfl,rfl,rfl, fun _=>rfl⟩, ⟨rfl,rfl,rfl, fun _=>rfl⟩, ⟨rfl,rfl,rfl, fun _=>rfl⟩, ⟨rfl,rfl,rfl, fun _=>rfl⟩, ⟨rfl,rfl,rfl, fun _=>rfl⟩, trivial⟩, ⟨OL.new OL.none intR _, trivial⟩, OL.none.sl 4, fun _=>rfl,hc OL.none (fun h => absurd h hv) (fun _=>rfl)⟩
 ·have hv : VldP CL L CT := hb.1 (by cases b with | true => rfl | false => cases hz)
  conv => whnf
  obtain ⟨⟨hi, -⟩, hn, -⟩ := id hv
  refine loop_st (G := {p : {k : Nat // k ≤ CL.length} × OL ZV // p.2.l = (shwL CL CT p.1.1).map zN} × (Nat → Value)) (fun g => (.c (.val (g.2 0)) :: .c (.sli n3 2 0 CT.length c3 h3) :: .c (.ptr 4 0) :: .c (.val (g.2 3)) :: .c (.val (g.2 4)) :: g.1.1.2.sl 5 :: .c (.val (g.2 6)) :: .c (.val (g.2 7)) :: .c (.val (g.2 8)) :: .c (.val (g.2 9)) :: .c (.val (g.2 10)) :: .c (.val (g.2 11)) :: .c (.val (g.2 12)) :: .c (.sli n1 0 0 CL.length c1 h1) :: .c (.int (CL.length : Nat) (lt_irV h1 (Nat.le_refl _))) :: .c (.int (g.1.1.1.1 : Nat) (lt_irV h1 g.1.1.1.2)) :: .c (.val (g.2 16)) :: .c (.val (g.2 17)) :: .c (.val (g.2 18)) :: .c (.val (g.2 19)) :: .c (.val (g.2 20)) :: .c (.val (g.2 21)) :: .c (.val (g.2 22)) :: .c (.val (g.2 23)) :: .c (.val (g.2 24)) :: .c (.val (g.2 25)) :: .c (.val (g.2 26)) :: .c (.val (g.2 27)) :: .c (.val (g.2 28)) :: .c (.val (g.2 29)) :: .c (.val (g.2 30)) :: .c (.val (g.2 31)) :: .c (.val (g.2 32)) :: .c (.val (g.2 33)) :: .c (.val (g.2 34)) :: .c (.val (g.2 35)) :: .c (.val (g.2 36)) :: .c (.val (g.2 37)) :: .c (.val (g.2 38)) :: .c (.val (g.2 39)) :: .c (.val (g.2 40)) :: .c (.val (g.2 41)) :: .c (.val (g.2 42)) :: .c (.val (g.2 43)) :: .c (.val (g.2 44)) :: .c (.val (g.2 45)) :: .c (.val (g.2 46)) :: .c (.val (g.2 47)) :: .c (.val (g.2 48)) :: [])) (fun g => [⟨.t tc, true, cusC CL, 0⟩, ⟨.t td, true, gusC L, 0⟩, ⟨.t tt, true, blC CT, 0⟩, ⟨.x fam, true, [], 3⟩, ⟨53, false, [.sli n1 0 0 CL.length c1 h1, .sli n2 1 0 L.length c2 h2], 0⟩, g.1.1.2.blk intR 3]) (fun g => CL.length - g.1.1.1.1) ?_ ?_
  ·refine ⟨[0, 1, 2, 3, 4, 1000 + 3], [1,2,5,13,14,15], [0,1,2], fun vs6 => ?_⟩
   conv => whnf
   refine ⟨cusC_pure CL, gusC_pure L, blC_pure CT, ?_⟩
   conv => whnf
   refine ⟨_, _, ?_, ?_, (⟨(⟨0, Nat.zero_le _⟩, OL.none), rfl⟩, vs6), rfl, rfl⟩
   ·exact (by (iterate 16 refine ⟨fun _=>rfl,?_⟩); exact stm _)
   ·exact (by (iterate 6 refine ⟨⟨rfl,rfl,rfl, fun _=>rfl⟩, ?_⟩); exact trivial)
  ·rintro ⟨⟨⟨⟨k, hk⟩, o⟩, ho⟩, vs6⟩
   have ho : o.l = (shwL CL CT k).map zN := ho
   have hk : k ≤ CL.length := hk
   have hol : o.l.length ≤ k := by rw [ho, List.length_map]; exact shwL_len CL CT k
   dsimp only
   conv => whnf
   refine bcase_intro (fun hlt => ?_) (fun hlt => ?_)
   ·have hlt : k < CL.length := n_lt hlt
    have hki : IR (k : Int) := lt_irV h1 hk
    conv => whnf
    conv =>
     arg 2
     tactic' =>
      apply eff_index_sli (k := k) (hi := hki) (ho := ?how17) (hT := ?hTw17) (hx := ?hxw17) (hk := ?hkw17) (hlt := ?hltw17)
      case how17 => rfl
      case hTw17 => rfl
      case hxw17 => rfl
      case hkw17 => rfl
      case hltw17 => exact hlt
    conv => whnf
    conv =>
     arg 2
     tactic' =>
      apply eff_load_sub (ho := ?how18) (hT := ?hTw18) (hx := ?hxw18) (hb := ?hbw18) (hm := ?hmw18) (hv := ?hvw18)
      case how18 => rfl
      case hTw18 => rfl
      case hxw18 => rfl
      case hbw18 => rfl
      case hmw18 => exact subC_cus CL hlt
      case hvw18 => rfl
    conv => whnf
    obtain ⟨hml, hul⟩ := made_lt hi (List.getElem_mem hlt)
    refine bcase_intro (fun mz => ?_) (fun mz => ?_)
    ·have mz : decide (CL[k].made < 0) = true := mz
     conv => whnf
     refine bcase_intro (fun uz => ?_) (fun uz => ?_)
     ·have uz : decide (CL[k].used < 0) = true := uz
      conv => whnf
      refine .inl ?_
      conv => whnf
      refine .inl ?_
      conv => whnf
      refine ⟨rfl, o.app intR 3 (m := 1) (by show (o.l.length + 1) * 1 ≤ 5000000000000; omega), fun c2 k2 => ?_⟩
      conv => whnf
      refine ⟨[0,1,2,3,4,8], [1,2,5,13,14,15], [0,1,2,5], fun vs7 => ?_⟩
      conv => whnf
      refine ⟨cusC_pure CL, gusC_pure L, blC_pure CT, pureL_apx (rwC_pure intR _) (rwC_pure intR [⟨(k : Int), hki⟩]), ?_⟩
      conv => whnf
      refine ⟨_, _, ?_, ?_, (⟨(⟨k + 1, hlt⟩, o.push [⟨(k : Int), hki⟩] rfl c2 k2), by rw [shwL_yes hlt (showB_y (.inl mz) (.inl uz)), List.map_append, ← ho]; show o.l ++ _ = o.l ++ [zN k]; rw [zN_eq hki]⟩, vs7), (by omega : CL.length - (k + 1) < CL.length - k), rfl, rfl⟩
      ·exact (by (iterate 5 refine ⟨fun _=>rfl,?_⟩); refine ⟨fun ρ => o.push_sl (n := 1) [⟨(k : Int), hki⟩] rfl c2 k2 5 ρ, ?_⟩; (iterate 9 refine ⟨fun _=>rfl,?_⟩); refine ⟨fun ρ => sint_kV (wrap_add1 (n := CL.length) hlt h1.ir) ρ, ?_⟩; exact stm _)
      ·exact (by (iterate 5 refine ⟨⟨rfl,rfl,rfl, fun _=>rfl⟩, ?_⟩); refine ⟨o.push_blk intR 3 (n := 1) [⟨(k : Int), hki⟩] rfl c2 k2 (fun _=>rfl), ?_⟩; exact trivial)
     ·have uz : decide (CL[k].used < 0) = false := uz
      obtain ⟨u, ue⟩ : ∃ m : Nat, CL[k].used = m := ⟨CL[k].used.toNat, (Int.toNat_of_nonneg (by have := of_decide_eq_false uz; omega)).symm⟩
      have ul : u < CT.length := by omega
      have ui : IR (u : Int) := by rw [← ue]; exact CL[k].hu
      conv => whnf
      conv =>
       arg 2
       tactic' =>
        apply eff_index_sli (k := u) (hi := ui) (ho := ?how19) (hT := ?hTw19) (hx := ?hxw19) (hk := ?hkw19) (hlt := ?hltw19)
        case how19 => rfl
        case hTw19 => rfl
        case hxw19 => rfl
        case hkw19 => exact int_svV ue
        case hltw19 => exact ul
      conv => whnf
      conv =>
       arg 2
       tactic' =>
        apply eff_load_sub (ho := ?how20) (hT := ?hTw20) (hx := ?hxw20) (hb := ?hbw20) (hm := ?hmw20) (hv := ?hvw20)
        case how20 => rfl
        case hTw20 => rfl
        case hxw20 => rfl
        case hbw20 => rfl
        case hmw20 => exact subC_bl CT ul
        case hvw20 => rfl
      conv => whnf
      refine bcase_intro (fun ub => ?_) (fun ub => ?_)
      ·have ub : (!CT[u]) = true := ub
       have ub : CT[u] = false := by cases hx : CT[u] <;> simp_all
       conv => whnf
       refine .inl ?_
       conv => whnf
       refine .inl ?_
       conv => whnf
       refine ⟨rfl, o.app intR 3 (m := 1) (by show (o.l.length + 1) * 1 ≤ 5000000000000; omega), fun c2 k2 => ?_⟩
       conv => whnf
       refine ⟨[0,1,2,3,4,8], [1,2,5,13,14,15], [0,1,2,5], fun vs7 => ?_⟩
       conv => whnf
       refine ⟨cusC_pure CL, gusC_pure L, blC_pure CT, pureL_apx (rwC_pure intR _) (rwC_pure intR [⟨(k : Int), hki⟩]), ?_⟩
       conv => whnf
       refine ⟨_, _, ?_, ?_, (⟨(⟨k + 1, hlt⟩, o.push [⟨(k : Int), hki⟩] rfl c2 k2), by rw [shwL_yes hlt (showB_y (.inl mz) (.inr (by rw [ctAt_nat ue ul]; exact ub))), List.map_append, ← ho]; show o.l ++ _ = o.l ++ [zN k]; rw [zN_eq hki]⟩, vs7), (by omega : CL.length - (k + 1) < CL.length - k), rfl, rfl⟩
       ·exact (by (iterate 5 refine ⟨fun _=>rfl,?_⟩); refine ⟨fun ρ => o.push_sl (n := 1) [⟨(k : Int), hki⟩] rfl c2 k2 5 ρ, ?_⟩; (iterate 9 refine ⟨fun _=>rfl,?_⟩); refine ⟨fun ρ => sint_kV (wrap_add1 (n := CL.length) hlt h1.ir) ρ, ?_⟩; exact stm _)
       ·exact (by (iterate 5 refine ⟨⟨rfl,rfl,rfl, fun _=>rfl⟩, ?_⟩); refine ⟨o.push_blk intR 3 (n := 1) [⟨(k : Int), hki⟩] rfl c2 k2 (fun _=>rfl), ?_⟩; exact trivial)
      ·have ub : (!CT[u]) = false := ub
       have ub : CT[u] = true := by cases hx : CT[u] <;> simp_all
       conv => whnf
       refine ⟨[0,1,2,3,4,5], [1,2,5,13,14,15], [0,1,2,5], fun vs7 => ?_⟩
       conv => whnf
       refine ⟨cusC_pure CL, gusC_pure L, blC_pure CT, rwC_pure intR _, ?_⟩
       conv => whnf
       refine ⟨_, _, ?_, ?_, (⟨(⟨k + 1, hlt⟩, o), by rw [shwL_no hlt (showB_n2 uz (by rw [ctAt_nat ue ul]; exact ub))]; exact ho⟩, vs7), (by omega : CL.length - (k + 1) < CL.length - k), rfl, rfl⟩
       ·exact (by (iterate 15 refine ⟨fun _=>rfl,?_⟩); refine ⟨fun ρ => sint_kV (wrap_add1 (n := CL.length) hlt h1.ir) ρ, ?_⟩; exact stm _)
       ·exact (by (iterate 6 refine ⟨⟨rfl,rfl,rfl, fun _=>rfl⟩, ?_⟩); exact trivial)
    ·have mz : decide (CL[k].made < 0) = false := mz
     obtain ⟨m, me⟩ : ∃ m : Nat, CL[k].made = m := ⟨CL[k].made.toNat, (Int.toNat_of_nonneg (by have := of_decide_eq_false mz; omega)).symm⟩
     have ml : m < CT.length := by omega
     have mi : IR (m : Int) := by rw [← me]; exact CL[k].hm
     conv => whnf
     conv =>
      arg 2
      tactic' =>
       apply eff_index_sli (k := m) (hi := mi) (ho := ?how21) (hT := ?hTw21) (hx := ?hxw21) (hk := ?hkw21) (hlt := ?hltw21)
       case how21 => rfl
       case hTw21 => rfl
       case hxw21 => rfl
       case hkw21 => exact int_svV me
       case hltw21 => exact ml
     conv => whnf
     conv =>
      arg 2
      tactic' =>
       apply eff_load_sub (ho := ?how22) (hT := ?hTw22) (hx := ?hxw22) (hb := ?hbw22) (hm := ?hmw22) (hv := ?hvw22)
       case how22 => rfl
       case hTw22 => rfl
       case hxw22 => rfl
       case hbw22 => rfl
       case hmw22 => exact subC_bl CT ml
       case hvw22 => rfl
     conv => whnf
     refine bcase_intro (fun mb => ?_) (fun mb => ?_)
     ·have mb : CT[m] = true := mb
      conv => whnf
      refine bcase_intro (fun uz => ?_) (fun uz => ?_)
      ·have uz : decide (CL[k].used < 0) = true := uz
       conv => whnf
       refine .inl ?_
       conv => whnf
       refine .inl ?_
       conv => whnf
       refine ⟨rfl, o.app intR 3 (m := 1) (by show (o.l.length + 1) * 1 ≤ 5000000000000; omega), fun c2 k2 => ?_⟩
       conv => whnf
       refine ⟨[0,1,2,3,4,8], [1,2,5,13,14,15], [0,1,2,5], fun vs7 => ?_⟩
       conv => whnf
       refine ⟨cusC_pure CL, gusC_pure L, blC_pure CT, pureL_apx (rwC_pure intR _) (rwC_pure intR [⟨(k : Int), hki⟩]), ?_⟩
       conv => whnf
       refine ⟨_, _, ?_, ?_, (⟨(⟨k + 1, hlt⟩, o.push [⟨(k : Int), hki⟩] rfl c2 k2), by rw [shwL_yes hlt (showB_y (.inr (by rw [ctAt_nat me ml]; exact mb)) (.inl uz)), List.map_append, ← ho]; show o.l ++ _ = o.l ++ [zN k]; rw [zN_eq hki]⟩, vs7), (by omega : CL.length - (k + 1) < CL.length - k), rfl, rfl⟩
       ·exact (by (iterate 5 refine ⟨fun _=>rfl,?_⟩); refine ⟨fun ρ => o.push_sl (n := 1) [⟨(k : Int), hki⟩] rfl c2 k2 5 ρ, ?_⟩; (iterate 9 refine ⟨fun _=>rfl,?_⟩); refine ⟨fun ρ => sint_kV (wrap_add1 (n := CL.length) hlt h1.ir) ρ, ?_⟩; exact stm _)
       ·exact (by (iterate 5 refine ⟨⟨rfl,rfl,rfl, fun _=>rfl⟩, ?_⟩); refine ⟨o.push_blk intR 3 (n := 1) [⟨(k : Int), hki⟩] rfl c2 k2 (fun _=>rfl), ?_⟩; exact trivial)
      ·have uz : decide (CL[k].used < 0) = false := uz
       obtain ⟨u, ue⟩ : ∃ m : Nat, CL[k].used = m := ⟨CL[k].used.toNat, (Int.toNat_of_nonneg (by have := of_decide_eq_false uz; omega)).symm⟩
       have ul : u < CT.length := by omega
       have ui : IR (u : Int) := by rw [← ue]; exact CL[k].hu
       conv => whnf
       conv =>
        arg 2
        tactic' =>
         apply eff_index_sli (k := u) (hi := ui) (ho := ?how23) (hT := ?hTw23) (hx := ?hxw23) (hk := ?hkw23) (hlt := ?hltw23)
         case how23 => rfl
         case hTw23 => rfl
         case hxw23 => rfl
         case hkw23 => exact int_svV ue
         case hltw23 => exact ul
       conv => whnf
       conv =>
        arg 2
        tactic' =>
         apply eff_load_sub (ho := ?how24) (hT := ?hTw24) (hx := ?hxw24) (hb := ?hbw24) (hm := ?hmw24) (hv := ?hvw24)
         case how24 => rfl
         case hTw24 => rfl
         case hxw24 => rfl
         case hbw24 => rfl
         case hmw24 => exact subC_bl CT ul
         case hvw24 => rfl
       conv => whnf
       refine bcase_intro (fun ub => ?_) (fun ub => ?_)
       ·have ub : (!CT[u]) = true := ub
        have ub : CT[u] = false := by cases hx : CT[u] <;> simp_all
        conv => whnf
        refine .inl ?_
        conv => whnf
        refine .inl ?_
        conv => whnf
        refine ⟨rfl, o.app intR 3 (m := 1) (by show (o.l.length + 1) * 1 ≤ 5000000000000; omega), fun c2 k2 => ?_⟩
        conv => whnf
        refine ⟨[0,1,2,3,4,8], [1,2,5,13,14,15], [0,1,2,5], fun vs7 => ?_⟩
        conv => whnf
        refine ⟨cusC_pure CL, gusC_pure L, blC_pure CT, pureL_apx (rwC_pure intR _) (rwC_pure intR [⟨(k : Int), hki⟩]), ?_⟩
        conv => whnf
        refine ⟨_, _, ?_, ?_, (⟨(⟨k + 1, hlt⟩, o.push [⟨(k : Int), hki⟩] rfl c2 k2), by rw [shwL_yes hlt (showB_y (.inr (by rw [ctAt_nat me ml]; exact mb)) (.inr (by rw [ctAt_nat ue ul]; exact ub))), List.map_append, ← ho]; show o.l ++ _ = o.l ++ [zN k]; rw [zN_eq hki]⟩, vs7), (by omega : CL.length - (k + 1) < CL.length - k), rfl, rfl⟩
        ·exact (by (iterate 5 refine ⟨fun _=>rfl,?_⟩); refine ⟨fun ρ => o.push_sl (n := 1) [⟨(k : Int), hki⟩] rfl c2 k2 5 ρ, ?_⟩; (iterate 9 refine ⟨fun _=>rfl,?_⟩); refine ⟨fun ρ => sint_kV (wrap_add1 (n := CL.length) hlt h1.ir) ρ, ?_⟩; exact stm _)
        ·exact (by (iterate 5 refine ⟨⟨rfl,rfl,rfl, fun _=>rfl⟩, ?_⟩); refine ⟨o.push_blk intR 3 (n := 1) [⟨(k : Int), hki⟩] rfl c2 k2 (fun _=>rfl), ?_⟩; exact trivial)
       ·have ub : (!CT[u]) = false := ub
        have ub : CT[u] = true := by cases hx : CT[u] <;> simp_all
        conv => whnf
        refine ⟨[0,1,2,3,4,5], [1,2,5,13,14,15], [0,1,2,5], fun vs7 => ?_⟩
        conv => whnf
        refine ⟨cusC_pure CL, gusC_pure L, blC_pure CT, rwC_pure intR _, ?_⟩
        conv => whnf
        refine ⟨_, _, ?_, ?_, (⟨(⟨k + 1, hlt⟩, o), by rw [shwL_no hlt (showB_n2 uz (by rw [ctAt_nat ue ul]; exact ub))]; exact ho⟩, vs7), (by omega : CL.length - (k + 1) < CL.length - k), rfl, rfl⟩
        ·exact (by (iterate 15 refine ⟨fun _=>rfl,?_⟩); refine ⟨fun ρ => sint_kV (wrap_add1 (n := CL.length) hlt h1.ir) ρ, ?_⟩; exact stm _)
        ·exact (by (iterate 6 refine ⟨⟨rfl,rfl,rfl, fun _=>rfl⟩, ?_⟩); exact trivial)
     ·have mb : CT[m] = false := mb
      conv => whnf
      refine ⟨[0,1,2,3,4,5], [1,2,5,13,14,15], [0,1,2,5], fun vs7 => ?_⟩
      conv => whnf
      refine ⟨cusC_pure CL, gusC_pure L, blC_pure CT, rwC_pure intR _, ?_⟩
      conv => whnf
      refine ⟨_, _, ?_, ?_, (⟨(⟨k + 1, hlt⟩, o), by rw [shwL_no hlt (showB_n1 mz (by rw [ctAt_nat me ml]; exact mb))]; exact ho⟩, vs7), (by omega : CL.length - (k + 1) < CL.length - k), rfl, rfl⟩
      ·exact (by (iterate 15 refine ⟨fun _=>rfl,?_⟩); refine ⟨fun ρ => sint_kV (wrap_add1 (n := CL.length) hlt h1.ir) ρ, ?_⟩; exact stm _)
      ·exact (by (iterate 6 refine ⟨⟨rfl,rfl,rfl, fun _=>rfl⟩, ?_⟩); exact trivial)
   ·have hge : CL.length ≤ k := n_ge hlt
    obtain rfl : k = CL.length := Nat.le_antisymm hk hge
    conv => whnf
    refine ⟨[0,1,2,3,5], [0,1,2,4], fun vs9 => ?_⟩
    conv => whnf
    refine ⟨cusC_pure CL, gusC_pure L, blC_pure CT, rwC_pure intR _, ?_⟩
    conv => whnf
    exact ⟨_, [o.blk intR 3], rfl, ⟨⟨rfl,rfl,rfl, fun _=>rfl⟩, ⟨rfl,rfl,rfl, fun _=>rfl⟩, ⟨rfl,rfl,rfl, fun _=>rfl⟩, ⟨rfl,rfl,rfl, fun _=>rfl⟩, ⟨rfl,rfl,rfl, fun _=>rfl⟩, trivial⟩, ⟨OL.new o intR _, trivial⟩, o.sl 4, fun _=>rfl,hc o (fun _ => ho) (fun h => absurd hv h)⟩
end Go.Proofs.YthmdmbpecgakkaaDoor

namespace Go.Proofs.YthmdmbpecgakkaaDoor
open Go.RowKit
set_option maxRecDepth 100000

def boolR : RW Bool := ⟨fun b => [.val (.bool b)], 1, fun _=>rfl,fun _ _ _ => rfl, fun _=>rfl⟩
theorem blC_rw : ∀ l : List Bool, blC l = rwC boolR l
 | [] => rfl
 | b :: l => by rw [blC, blC_rw l]; rfl
noncomputable def fxCl : FuncId → Option Func := lk [(64, Tryd.f64)]
theorem fxCl_ok : ∀ f fn, fxCl f = some fn → FnOk Tryd.prog f fn := lkF_ok fun x hx => by
 simp only [List.mem_cons, List.not_mem_nil, or_false] at hx
 subst hx
 ·exact ⟨Tryd.func64, by kernel_rfl, by kernel_rfl⟩
def cChanged : NewC := fun args ros K => ∃ n1 CL c1 h1 n2 L c2 h2 n3 CT c3 h3 fam tc td tt n hn, args = [.agg [.sli n1 0 0 CL.length c1 h1, .sli n2 1 0 L.length c2 h2], .c (.sli n3 2 0 (List.length CT) c3 h3), .c (.int n hn)] ∧ ros = [⟨.t tc, true, cusC CL, 0⟩, ⟨.t td, true, gusC L, 0⟩, ⟨.t tt, true, blC CT, 0⟩, ⟨.x fam, true, [], 3⟩] ∧ (∀ g ∈ L, g.Ok fam) ∧ CT.length ≤ 1099511627776 ∧
 ∀ (o : OL Bool) b, (b = true → (0 ≤ n ∧ n < (CT.length : Nat) ∧ VldP CL L CT) ∧ o.l = CT ∧ o.nl = false) → (b = false → ¬ (0 ≤ n ∧ n < (CT.length : Nat) ∧ VldP CL L CT) ∧ o.l = []) → K (.tup [o.t 4, .c (.val (.bool b))]) [o.blk boolR 4]
set_option maxHeartbeats 16000000 in
theorem csChanged : CSpX Tryd.prog 40 cChanged := csp_ofX (envV_ok 0) mixed (hnewG_ok (.cons csValid .nil) (inl_ok (envV_ok 0) mixed fxCl_ok 2)) ⟨Tryd.func40, by kernel_rfl, by kernel_rfl⟩ fun args ros K hc => by
 obtain ⟨n1, CL, c1, h1, n2, L, c2, h2, n3, CT, c3, h3, fam, tc, td, tt, n, hn, rfl,rfl,hL, hCTn, hc⟩ := hc
 refine ⟨fun ρ ρ' e => ?_, ?_⟩
 ·have e0 := e 0 (Nat.zero_lt_succ _)
  have e1 := e 1 (by decide : 1 < 4)
  have e2 := e 2 (by decide : 2 < 4)
  simp only [List.map, SV.den, C.den, C.cells, e0, e1, e2, List.flatMap_cons, List.flatMap_nil, cellsL]
 conv => whnf
 refine bcase_intro (fun m1 => ?_) (fun m1 => ?_)
 ·have m1 := of_decide_eq_true m1
  conv => whnf
  refine ⟨[0, 1, 2, 3, 1000 + 4], [0,1,2], fun vs9 => ?_⟩
  conv => whnf
  refine ⟨cusC_pure CL, gusC_pure L, blC_pure CT, ?_⟩
  conv => whnf
  exact ⟨_, [OL.none.blk boolR 4], rfl, ⟨⟨rfl,rfl,rfl, fun _=>rfl⟩, ⟨rfl,rfl,rfl, fun _=>rfl⟩, ⟨rfl,rfl,rfl, fun _=>rfl⟩, ⟨rfl,rfl,rfl, fun _=>rfl⟩, ⟨rfl,rfl,rfl, fun _=>rfl⟩, trivial⟩, ⟨OL.new OL.none boolR _, trivial⟩, .tup [OL.none.t 4, .c (.val (.bool false))], fun _=>rfl,hc OL.none false (fun h => by cases h) (fun _ => ⟨fun h => absurd h.1 (by omega), rfl⟩)⟩
 ·have m1 : ¬ n < 0 := of_decide_eq_false m1
  conv => whnf
  refine bcase_intro (fun m2 => ?_) (fun m2 => ?_)
  ·have m2 : (CT.length : Int) ≤ n := of_decide_eq_true m2
   conv => whnf
   refine ⟨[0, 1, 2, 3, 1000 + 4], [0,1,2], fun vs9 => ?_⟩
   conv => whnf
   refine ⟨cusC_pure CL, gusC_pure L, blC_pure CT, ?_⟩
   conv => whnf
   exact ⟨_, [OL.none.blk boolR 4], rfl, ⟨⟨rfl,rfl,rfl, fun _=>rfl⟩, ⟨rfl,rfl,rfl, fun _=>rfl⟩, ⟨rfl,rfl,rfl, fun _=>rfl⟩, ⟨rfl,rfl,rfl, fun _=>rfl⟩, ⟨rfl,rfl,rfl, fun _=>rfl⟩, trivial⟩, ⟨OL.new OL.none boolR _, trivial⟩, .tup [OL.none.t 4, .c (.val (.bool false))], fun _=>rfl,hc OL.none false (fun h => by cases h) (fun _ => ⟨fun h => absurd h.2.1 (by omega), rfl⟩)⟩
  ·have m2 : ¬ (CT.length : Int) ≤ n := of_decide_eq_false m2
   conv => whnf
   refine ⟨3, [0,1,2], [.agg [.sli n1 0 0 CL.length c1 h1, .sli n2 1 0 L.length c2 h2], .c (.sli n3 2 0 CT.length c3 h3)], (fun ρ ρ' e => by
    show List.map (SV.den ρ) [.agg [.sli n1 0 0 CL.length c1 h1, .sli n2 1 0 L.length c2 h2], .c (.sli n3 2 0 CT.length c3 h3)] = _
    have e0 := e 0 _ rfl
    have e1 := e 1 _ rfl
    have e2 := e 2 _ rfl
    simp only [List.map, SV.den, C.den, C.cells, e0, e1, e2, List.flatMap_cons, List.flatMap_nil, cellsL]), .inr rfl, ⟨cusC_pure CL, gusC_pure L, blC_pure CT, trivial⟩, n1, CL, c1, h1, n2, L, c2, h2, n3, CT, c3, h3, fam, _, _, _, rfl,rfl,hL, fun b hb => ?_⟩
   conv => whnf
   refine bcase_intro (fun hz => ?_) (fun hz => ?_)
   ·have hv : ¬ VldP CL L CT := fun h => by rw [hb.2 h] at hz; cases hz
    conv => whnf
    refine ⟨[0, 1, 2, 3, 1000 + 4], [0,1,2], fun vs9 => ?_⟩
    conv => whnf
    refine ⟨cusC_pure CL, gusC_pure L, blC_pure CT, ?_⟩
    conv => whnf
    exact ⟨_, [OL.none.blk boolR 4], rfl, ⟨⟨rfl,rfl,rfl, fun _=>rfl⟩, ⟨rfl,rfl,rfl, fun _=>rfl⟩, ⟨rfl,rfl,rfl, fun _=>rfl⟩, ⟨rfl,rfl,rfl, fun _=>rfl⟩, ⟨rfl,rfl,rfl, fun _=>rfl⟩, trivial⟩, ⟨OL.new OL.none boolR _, trivial⟩, .tup [OL.none.t 4, .c (.val (.bool false))], fun _=>rfl,hc OL.none false (fun h => by cases h) (fun _ => ⟨fun h => hv h.2.2, rfl⟩)⟩
   ·have hv : VldP CL L CT := hb.1 (by cases b with | true => rfl | false => cases hz)
    have hp0 : 0 < CT.length := by omega
    obtain rfl : n3 = false := h3.pos hp0
    conv => whnf
    refine .inl ?_
    conv => whnf
    refine .inl ?_
    conv => whnf
    refine .inl ?_
    conv => whnf
    rw [show subC (⟨.t tt, true, blC CT, 0⟩ : Blk).cs 0 (CT.length * 1) = some (blC CT) by rw [blC_rw]; exact subC_rw_all boolR CT]
    refine ⟨by rw [blC_rw]; exact rwC_one boolR _, ?_⟩
    conv => whnf
    refine ⟨⟨rfl,rfl,rfl, fun _=>rfl,(by show (0 + CT.length) * 1 ≤ 5000000000000; omega)⟩, fun c9 k9 => ?_⟩
    conv => whnf
    refine ⟨[0,1,2,3,6], [0,1,2,4], fun vs9 => ?_⟩
    conv => whnf
    refine ⟨cusC_pure CL, gusC_pure L, blC_pure CT, blC_pure CT, ?_⟩
    conv => whnf
    refine ⟨_, [(OL.mk CT false c9 (by rw [Nat.zero_add] at k9; exact k9)).blk boolR 4], rfl, ⟨⟨rfl,rfl,rfl, fun _=>rfl⟩, ⟨rfl,rfl,rfl, fun _=>rfl⟩, ⟨rfl,rfl,rfl, fun _=>rfl⟩, ⟨rfl,rfl,rfl, fun _=>rfl⟩, ⟨rfl,rfl,(show (c9 - (0 + CT.length)) * 1 = (c9 - CT.length) * 1 by rw [Nat.zero_add]), fun ρ => (show cellsL ρ (blC CT) = cellsL ρ (rwC boolR CT) by rw [blC_rw])⟩, trivial⟩, ⟨OL.new _ boolR _, trivial⟩, .tup [(OL.mk CT false c9 (by rw [Nat.zero_add] at k9; exact k9)).t 4, .c (.val (.bool true))], fun ρ => ?_, hc _ true (fun _ => ⟨⟨by omega, by omega, hv⟩, rfl, rfl⟩) (fun h => by cases h)⟩
    simp only [OL.t, SV.den, List.map_cons, List.map_nil, T1.den, C.den, C.cells, Nat.zero_add, Bool.false_and]
end Go.Proofs.YthmdmbpecgakkaaDoor

namespace Go.Proofs.YthmdmbpecgakkaaDoor
open Go.RowKit
set_option maxRecDepth 100000

noncomputable def fxNd : FuncId → Option Func := lk [(39, Tryd.f39)]
theorem fxNd_ok : ∀ f fn, fxNd f = some fn → FnOk Tryd.prog f fn := lkF_ok fun x hx => by
 simp only [List.mem_cons, List.not_mem_nil, or_false] at hx
 subst hx
 ·exact ⟨Tryd.func39, by kernel_rfl, by kernel_rfl⟩
def stepZ (k : Nat) (o : List Bool) (z : ZV) : List Bool := o.set k (o.getD k false && o.getD z.x.toNat false)
def stepG (CL : List CU) (L : List GU) (k : Nat) (o : List Bool) : List Bool := match L[k]? with | some g => (madeL CL g.il).foldl (stepZ k) o | none => o
def refUp (CL : List CU) (L : List GU) (CT : List Bool) (m : Nat) : Nat → List Bool
 | 0 => CT.set m false
 | i + 1 => stepG CL L (m + 1 + i) (refUp CL L CT m i)
def refV (CL : List CU) (L : List GU) (CT : List Bool) (m : Nat) : List Bool := refUp CL L CT m (CT.length - (m + 1))
theorem foldZ_len (k : Nat) : ∀ (l : List ZV) (o : List Bool), (l.foldl (stepZ k) o).length = o.length
 | [], _ => rfl
 | z :: l, o => by rw [List.foldl_cons, foldZ_len k l]; unfold stepZ; rw [List.length_set]
theorem refUp_len (CL : List CU) (L : List GU) (CT : List Bool) (m : Nat) : ∀ i, (refUp CL L CT m i).length = CT.length
 | 0 => List.length_set
 | i + 1 => by
  rw [refUp, stepG]
  split
  ·rw [foldZ_len, refUp_len CL L CT m i]
  ·exact refUp_len CL L CT m i
theorem foldZ_succ (k : Nat) {l : List ZV} {q : Nat} (hq : q < l.length) (o : List Bool) : (l.take (q + 1)).foldl (stepZ k) o = stepZ k ((l.take q).foldl (stepZ k) o) l[q] := by
 rw [List.take_add_one, List.getElem?_eq_getElem hq, Option.toList_some, List.foldl_append]; rfl
theorem stepZ_val {k : Nat} {o : List Bool} {z : ZV} {m : Nat} (hk : k < o.length) (hz : z.x = m) (hm : m < o.length) : stepZ k o z = o.set k (o[k] && o[m]) := by
 unfold stepZ
 rw [hz, Int.toNat_natCast, List.getD_eq_getElem?_getD, List.getD_eq_getElem?_getD, List.getElem?_eq_getElem hk, List.getElem?_eq_getElem hm]; rfl
theorem refUp_succ {CL : List CU} {L : List GU} {CT : List Bool} {m i : Nat} (h : m + 1 + i < L.length) : refUp CL L CT m (i + 1) = (madeL CL L[m + 1 + i].il).foldl (stepZ (m + 1 + i)) (refUp CL L CT m i) := by
 rw [refUp, stepG, List.getElem?_eq_getElem h]
def cRefine : NewC := fun args ros K => ∃ n1 CL c1 h1 n2 L c2 h2 n3 CT c3 h3 fam tc td tt n hn, args = [.agg [.sli n1 0 0 CL.length c1 h1, .sli n2 1 0 L.length c2 h2], .c (.sli n3 2 0 (List.length CT) c3 h3), .c (.int n hn)] ∧ ros = [⟨.t tc, true, cusC CL, 0⟩, ⟨.t td, true, gusC L, 0⟩, ⟨.t tt, true, blC CT, 0⟩, ⟨.x fam, true, [], 3⟩] ∧ (∀ g ∈ L, g.Ok fam) ∧ CT.length ≤ 1099511627776 ∧
 ∀ o : OL Bool, ((0 ≤ n ∧ n < (CT.length : Nat) ∧ VldP CL L CT) → o.l = refV CL L CT n.toNat) → (¬ (0 ≤ n ∧ n < (CT.length : Nat) ∧ VldP CL L CT) → o.l = []) → K (o.sl 4) [o.blk boolR 4]
theorem ref_ir {nl : Bool} {len cap k : Nat} (h : SliOk nl len cap) (hk : k ≤ len) : IR ((k : Nat) : Int) := lt_irV h hk
theorem cell_int {a b : Int} {ha : IR a} {hb : IR b} (e : a = b) (ρ : Rho) : cellsL ρ [C.int a ha] = cellsL ρ [C.int b hb] := by subst e; rfl
set_option maxHeartbeats 16000000 in
theorem csRefine : CSpX Tryd.prog 22 cRefine := csp_ofX (envV_ok 0) mixed (hnewG_ok (.cons csChanged .nil) (inl_ok (envV_ok 0) mixed fxNd_ok 2)) ⟨Tryd.func22, by kernel_rfl, by kernel_rfl⟩ fun args ros K hc => by
 obtain ⟨n1, CL, c1, h1, n2, L, c2, h2, n3, CT, c3, h3, fam, tc, td, tt, n, hn, rfl,rfl,hL, hCTn, hc⟩ := hc
 refine ⟨fun ρ ρ' e => ?_, ?_⟩
 ·have e0 := e 0 (Nat.zero_lt_succ _)
  have e1 := e 1 (by decide : 1 < 4)
  have e2 := e 2 (by decide : 2 < 4)
  simp only [List.map, SV.den, C.den, C.cells, e0, e1, e2, List.flatMap_cons, List.flatMap_nil, cellsL]
 conv => whnf
 refine ⟨3, [0,1,2], [.agg [.sli n1 0 0 CL.length c1 h1, .sli n2 1 0 L.length c2 h2], .c (.sli n3 2 0 CT.length c3 h3), .c (.int n hn)], (fun ρ ρ' e => by
  show List.map (SV.den ρ) [.agg [.sli n1 0 0 CL.length c1 h1, .sli n2 1 0 L.length c2 h2], .c (.sli n3 2 0 CT.length c3 h3), .c (.int n hn)] = _
  have e0 := e 0 _ rfl
  have e1 := e 1 _ rfl
  have e2 := e 2 _ rfl
  simp only [List.map, SV.den, C.den, C.cells, e0, e1, e2, List.flatMap_cons, List.flatMap_nil, cellsL]), .inr rfl, ⟨cusC_pure CL, gusC_pure L, blC_pure CT, trivial⟩, n1, CL, c1, h1, n2, L, c2, h2, n3, CT, c3, h3, fam, _, _, _, n, hn, rfl,rfl,hL, hCTn, fun o b hb1 hb0 => ?_⟩
 conv => whnf
 refine bcase_intro (fun hz => ?_) (fun hz => ?_)
 ·have hbf : b = false := by cases b with | true => cases hz | false => rfl
  obtain ⟨hv, -⟩ := hb0 hbf
  conv => whnf
  refine ⟨[0, 1, 2, 3, 1000 + 4], [0,1,2], fun vs9 => ?_⟩
  conv => whnf
  refine ⟨cusC_pure CL, gusC_pure L, blC_pure CT, ?_⟩
  conv => whnf
  exact ⟨_, [OL.none.blk boolR 4], rfl, ⟨⟨rfl,rfl,rfl, fun _=>rfl⟩, ⟨rfl,rfl,rfl, fun _=>rfl⟩, ⟨rfl,rfl,rfl, fun _=>rfl⟩, ⟨rfl,rfl,rfl, fun _=>rfl⟩, ⟨rfl,rfl,rfl, fun _=>rfl⟩, trivial⟩, ⟨OL.new OL.none boolR _, trivial⟩, OL.none.sl 4, fun _=>rfl,hc OL.none (fun h => absurd h hv) (fun _=>rfl)⟩
 ·have hbt : b = true := by cases b with | true => rfl | false => cases hz
  obtain ⟨hv, ho, hnl⟩ := hb1 hbt
  obtain ⟨ol, onl, cap, ok⟩ := o
  dsimp only at ho hnl
  subst ho
  subst hnl
  obtain ⟨m, hm⟩ : ∃ m : Nat, n = m := ⟨n.toNat, (Int.toNat_of_nonneg hv.1).symm⟩
  subst hm
  obtain ⟨⟨hi, hmk⟩, hn2, -⟩ := id hv.2.2
  have hml : m < ol.length := by omega
  conv => whnf
  conv =>
   arg 2
   tactic' =>
    apply eff_index_sli (k := m) (hi := hn) (ho := ?how25) (hT := ?hTw25) (hx := ?hxw25) (hk := ?hkw25) (hlt := ?hltw25)
    case how25 => rfl
    case hTw25 => rfl
    case hxw25 => rfl
    case hkw25 => rfl
    case hltw25 => exact hml
  conv => whnf
  conv =>
   arg 2
   tactic' =>
    apply eff_store_at (l := [.val (.bool false)]) (cs := rwC boolR (ol.set m false)) (ho := ?how26) (hT := ?hTw26) (hx := ?hxw26) (hy := ?hyw26) (hl := ?hlw26) (hb := ?hbw26) (hro := ?hrow26) (hs := ?hsw26)
    case how26 => rfl
    case hTw26 => rfl
    case hxw26 => rfl
    case hyw26 => rfl
    case hlw26 => exact ⟨rfl, rfl⟩
    case hbw26 => rfl
    case hrow26 => rfl
    case hsw26 => exact spliceC_rw boolR ol hml false
  conv => whnf
  rw [forceL_eq]
  conv => whnf
  refine loop_st (G := {i : Nat // m + 1 + i ≤ ol.length} × (Nat → Value)) (fun g => (.c (.val (g.2 0)) :: .c (.val (g.2 1)) :: .c (.int (m : Nat) hn) :: .c (.ptr 4 0) :: .c (.val (g.2 4)) :: .c (.val (g.2 5)) :: .c (.val (g.2 6)) :: .c (.ptr 6 0) :: .c (.val (g.2 8)) :: .c (.ptr 7 0) :: .c (.val (g.2 10)) :: .c (.val (g.2 11)) :: .c (.val (g.2 12)) :: .c (.val (g.2 13)) :: .c (.val (g.2 14)) :: .c (.val (g.2 15)) :: .c (.val (g.2 16)) :: .c (.val (g.2 17)) :: .c (.val (g.2 18)) :: .c (.val (g.2 19)) :: .c (.val (g.2 20)) :: .c (.val (g.2 21)) :: .c (.val (g.2 22)) :: .c (.val (g.2 23)) :: .c (.val (g.2 24)) :: .c (.val (g.2 25)) :: .c (.val (g.2 26)) :: .c (.val (g.2 27)) :: .c (.val (g.2 28)) :: .c (.val (g.2 29)) :: .c (.val (g.2 30)) :: .c (.val (g.2 31)) :: .c (.val (g.2 32)) :: .c (.val (g.2 33)) :: .c (.val (g.2 34)) :: .c (.val (g.2 35)) :: .c (.val (g.2 36)) :: .c (.val (g.2 37)) :: .c (.val (g.2 38)) :: .c (.val (g.2 39)) :: .c (.val (g.2 40)) :: .c (.val (g.2 41)) :: .c (.val (g.2 42)) :: .c (.val (g.2 43)) :: .c (.val (g.2 44)) :: .c (.val (g.2 45)) :: .c (.val (g.2 46)) :: .c (.val (g.2 47)) :: .c (.val (g.2 48)) :: [])) (fun g => [⟨.t tc, true, cusC CL, 0⟩, ⟨.t td, true, gusC L, 0⟩, ⟨.t tt, true, blC ol, 0⟩, ⟨.x fam, true, [], 3⟩, ⟨53, false, [.sli n1 0 0 CL.length c1 h1, .sli n2 1 0 L.length c2 h2], 0⟩, ⟨4, false, rwC boolR (refUp CL L ol m g.1.1), (cap - ol.length) * 1⟩, ⟨57, false, [.sli false 5 0 ol.length cap ok], 0⟩, ⟨3, false, [.int (m + 1 + g.1.1 : Nat) (ref_ir ok g.1.2)], 0⟩]) (fun g => ol.length - g.1.1) ?_ ?_
  ·refine ⟨[0,1,2,3,4,5,6,7], [2,3,7,9], [0,1,2,5], fun vs6 => ?_⟩
   conv => whnf
   refine ⟨cusC_pure CL, gusC_pure L, blC_pure ol, rwC_pure boolR _, ?_⟩
   conv => whnf
   refine ⟨_, _, ?_, ?_, (⟨0, by omega⟩, vs6), rfl, rfl⟩
   ·exact stm _
   ·exact (by (iterate 7 refine ⟨⟨rfl,rfl,rfl, fun _=>rfl⟩, ?_⟩); refine ⟨⟨rfl,rfl,rfl, fun ρ => cell_int (wrap_add1 (n := ol.length) hml ok.ir) ρ⟩, ?_⟩; exact trivial)
  ·rintro ⟨⟨i, hik⟩, vs6⟩
   have hik : m + 1 + i ≤ ol.length := hik
   obtain ⟨l, hl⟩ : ∃ l, l = refUp CL L ol m i := ⟨_, rfl⟩
   have hll : l.length = ol.length := by rw [hl]; exact refUp_len CL L ol m i
   dsimp only
   rw [← hl]
   conv => whnf
   refine bcase_intro (fun hlt => ?_) (fun hlt => ?_)
   ·have hlt : m + 1 + i < ol.length := n_lt hlt
    have hki : IR ((m + 1 + i : Nat) : Int) := ref_ir ok hik
    have hkl : m + 1 + i < L.length := by rw [← hn2]; exact hlt
    obtain ⟨hgi, -, hgr, -⟩ := hL L[m + 1 + i] (List.getElem_mem hkl)
    conv => whnf
    refine .inr ⟨rfl, 8, 9, 4, 1, 0, 3, _, _, _, _, _, _, _, _, _, _, _, _, _, _, _, _, m + 1 + i, hki, n1, CL, c1, h1, n2, L, c2, h2, fam, L[m + 1 + i].il, hkl, rfl,rfl,rfl,rfl,rfl,rfl,rfl, .inr rfl, ⟨hgi, hgr, fun z hz => ?_⟩, ?_⟩
    ·obtain ⟨i, e1, e2⟩ := idx_il hi hkl hz
     omega
    obtain ⟨ML, hML⟩ : ∃ ML, ML = madeL CL L[m + 1 + i].il := ⟨_, rfl⟩
    rw [needsX_map, ← hML]
    refine ⟨keepR_one rfl rfl (fun _=>rfl) (keepR_one rfl rfl (fun _=>rfl) (keepR_one rfl rfl (fun _=>rfl) (keepR_one rfl rfl (fun _=>rfl) (keepR_one rfl rfl (fun _=>rfl) (keepR_fam rfl rfl ⟨[], (List.append_nil _).symm⟩ trivial))))), ?_⟩
    refine rangeK_ind (G := Unit) (fun _ _ => True) (fun q _ => [⟨.t tc, true, cusC CL, 0⟩, ⟨.t td, true, gusC L, 0⟩, ⟨.t tt, true, blC ol, 0⟩, ⟨.x fam, true, [], 3⟩, ⟨53, false, [.sli n1 0 0 CL.length c1 h1, .sli n2 1 0 L.length c2 h2], 0⟩, ⟨4, false, rwC boolR ((ML.take q).foldl (stepZ (m + 1 + i)) l), (cap - ol.length) * 1⟩, ⟨57, false, [.sli false 5 0 ol.length cap ok], 0⟩, ⟨3, false, [.int (m + 1 + i : Nat) hki], 0⟩, ⟨69, false, [.ptr 4 0], 0⟩, ⟨3, false, [.int (m + 1 + i : Nat) hki], 0⟩]) ?_ ?_ () trivial
    ·rintro q hq _ _ R hR
     have hql : q < ML.length := by rw [List.length_map] at hq; exact hq
     rw [List.getElem_map]
     obtain ⟨yy, hy, cc, hc1, hc2, hc3⟩ := (madeL_mem CL).1 (show ML[q] ∈ madeL CL L[m + 1 + i].il by rw [← hML]; exact List.getElem_mem hql)
     obtain ⟨zz, hzz⟩ : ∃ zz, zz = ML[q] := ⟨_, rfl⟩
     rw [← hzz] at hc3 ⊢
     have hmd := (made_lt hi (cuAt_mem hc1)).1
     obtain ⟨u, hu1⟩ : ∃ u : Nat, zz.x = u := ⟨zz.x.toNat, by rw [hc3]; simp only; omega⟩
     have hu2 : u < ol.length := by rw [hc3] at hu1; simp only at hu1; omega
     have hui : IR (u : Int) := by rw [← hu1]; exact zz.hx
     have hR2 : ∀ hp, hp = [⟨.t tc, true, cusC CL, 0⟩, ⟨.t td, true, gusC L, 0⟩, ⟨.t tt, true, blC ol, 0⟩, ⟨.x fam, true, [], 3⟩, ⟨53, false, [.sli n1 0 0 CL.length c1 h1, .sli n2 1 0 L.length c2 h2], 0⟩, ⟨4, false, rwC boolR ((ML.take (q + 1)).foldl (stepZ (m + 1 + i)) l), (cap - ol.length) * 1⟩, ⟨57, false, [.sli false 5 0 ol.length cap ok], 0⟩, ⟨3, false, [.int (m + 1 + i : Nat) hki], 0⟩, ⟨69, false, [.ptr 4 0], 0⟩, ⟨3, false, [.int (m + 1 + i : Nat) hki], 0⟩] → R hp := fun hp e => by rw [e]; exact hR () trivial
     rw [foldZ_succ (m + 1 + i) hql] at hR2
     obtain ⟨lq, hlq⟩ : ∃ lq, lq = (ML.take q).foldl (stepZ (m + 1 + i)) l := ⟨_, rfl⟩
     have hlql : lq.length = ol.length := by rw [hlq, foldZ_len]; exact hll
     rw [← hlq] at hR2 ⊢
     rw [← hzz, stepZ_val (m := u) (by omega) hu1 (by omega)] at hR2
     conv => whnf
     conv =>
      arg 2
      tactic' =>
       apply eff_index_sli (k := m + 1 + i) (hi := hki) (ho := ?how27) (hT := ?hTw27) (hx := ?hxw27) (hk := ?hkw27) (hlt := ?hltw27)
       case how27 => rfl
       case hTw27 => rfl
       case hxw27 => rfl
       case hkw27 => rfl
       case hltw27 => exact (by omega)
     conv => whnf
     conv =>
      arg 2
      tactic' =>
       apply eff_load_sub (ho := ?how28) (hT := ?hTw28) (hx := ?hxw28) (hb := ?hbw28) (hm := ?hmw28) (hv := ?hvw28)
       case how28 => rfl
       case hTw28 => rfl
       case hxw28 => rfl
       case hbw28 => rfl
       case hmw28 => exact subC_rw boolR lq (k := m + 1 + i) (by omega)
       case hvw28 => rfl
     conv => whnf
     refine bcase_intro (fun ha => ?_) (fun ha => ?_)
     ·have ha : lq[m + 1 + i]'(by omega) = true := ha
      conv => whnf
      conv =>
       arg 2
       tactic' =>
        apply eff_index_sli (k := u) (hi := hui) (ho := ?how29) (hT := ?hTw29) (hx := ?hxw29) (hk := ?hkw29) (hlt := ?hltw29)
        case how29 => rfl
        case hTw29 => rfl
        case hxw29 => rfl
        case hkw29 => exact int_svV hu1
        case hltw29 => exact (by omega)
      conv => whnf
      conv =>
       arg 2
       tactic' =>
        apply eff_load_sub (ho := ?how30) (hT := ?hTw30) (hx := ?hxw30) (hb := ?hbw30) (hm := ?hmw30) (hv := ?hvw30)
        case how30 => rfl
        case hTw30 => rfl
        case hxw30 => rfl
        case hbw30 => rfl
        case hmw30 => exact subC_rw boolR lq (k := u) (by omega)
        case hvw30 => rfl
      conv => whnf
      conv =>
       arg 2
       tactic' =>
        apply eff_index_sli (k := m + 1 + i) (hi := hki) (ho := ?how31) (hT := ?hTw31) (hx := ?hxw31) (hk := ?hkw31) (hlt := ?hltw31)
        case how31 => rfl
        case hTw31 => rfl
        case hxw31 => rfl
        case hkw31 => rfl
        case hltw31 => exact (by omega)
      conv => whnf
      conv =>
       arg 2
       tactic' =>
        apply eff_store_at (l := [.val (.bool (lq[u]'(by omega)))]) (cs := rwC boolR (lq.set (m + 1 + i) (lq[u]'(by omega)))) (ho := ?how32) (hT := ?hTw32) (hx := ?hxw32) (hy := ?hyw32) (hl := ?hlw32) (hb := ?hbw32) (hro := ?hrow32) (hs := ?hsw32)
        case how32 => rfl
        case hTw32 => rfl
        case hxw32 => rfl
        case hyw32 => rfl
        case hlw32 => exact ⟨rfl, rfl⟩
        case hbw32 => rfl
        case hrow32 => rfl
        case hsw32 => exact spliceC_rw boolR lq (k := m + 1 + i) (by omega) (lq[u]'(by omega))
      conv => whnf
      rw [forceL_eq]
      conv => whnf
      exact .inl ⟨(keepR_one rfl rfl (fun _=>rfl) (keepR_one rfl rfl (fun _=>rfl) (keepR_one rfl rfl (fun _=>rfl) (keepR_one rfl rfl (fun _=>rfl) (keepR_one rfl rfl (fun _=>rfl) (keepR_fam rfl rfl ⟨[], (List.append_nil _).symm⟩ trivial)))))), hR2 _ (by rw [ha]; rfl)⟩
     ·have ha : lq[m + 1 + i]'(by omega) = false := ha
      conv => whnf
      conv =>
       arg 2
       tactic' =>
        apply eff_index_sli (k := m + 1 + i) (hi := hki) (ho := ?how33) (hT := ?hTw33) (hx := ?hxw33) (hk := ?hkw33) (hlt := ?hltw33)
        case how33 => rfl
        case hTw33 => rfl
        case hxw33 => rfl
        case hkw33 => rfl
        case hltw33 => exact (by omega)
      conv => whnf
      conv =>
       arg 2
       tactic' =>
        apply eff_store_at (l := [.val (.bool false)]) (cs := rwC boolR (lq.set (m + 1 + i) false)) (ho := ?how34) (hT := ?hTw34) (hx := ?hxw34) (hy := ?hyw34) (hl := ?hlw34) (hb := ?hbw34) (hro := ?hrow34) (hs := ?hsw34)
        case how34 => rfl
        case hTw34 => rfl
        case hxw34 => rfl
        case hyw34 => rfl
        case hlw34 => exact ⟨rfl, rfl⟩
        case hbw34 => rfl
        case hrow34 => rfl
        case hsw34 => exact spliceC_rw boolR lq (k := m + 1 + i) (by omega) false
      conv => whnf
      rw [forceL_eq]
      conv => whnf
      exact .inl ⟨(keepR_one rfl rfl (fun _=>rfl) (keepR_one rfl rfl (fun _=>rfl) (keepR_one rfl rfl (fun _=>rfl) (keepR_one rfl rfl (fun _=>rfl) (keepR_one rfl rfl (fun _=>rfl) (keepR_fam rfl rfl ⟨[], (List.append_nil _).symm⟩ trivial)))))), hR2 _ (by rw [ha]; rfl)⟩
    ·rintro _ _
     rw [List.length_map, List.take_length]
     conv => whnf
     refine ⟨[0,1,2,3,4,5,6,10], [2,3,7,9], [0,1,2,5], fun vs7 => ?_⟩
     conv => whnf
     refine ⟨cusC_pure CL, gusC_pure L, blC_pure ol, rwC_pure boolR _, ?_⟩
     conv => whnf
     refine ⟨_, _, ?_, ?_, (⟨i + 1, by omega⟩, vs7), (by omega : ol.length - (i + 1) < ol.length - i), rfl, rfl⟩
     ·exact stm _
     ·exact (by (iterate 5 refine ⟨⟨rfl,rfl,rfl, fun _=>rfl⟩, ?_⟩); refine ⟨⟨rfl,rfl,rfl, fun ρ => (show cellsL ρ (rwC boolR (ML.foldl (stepZ (m + 1 + i)) l)) = cellsL ρ (rwC boolR (refUp CL L ol m (i + 1))) by rw [refUp_succ hkl, ← hML, hl])⟩, ?_⟩; refine ⟨⟨rfl,rfl,rfl, fun _=>rfl⟩, ?_⟩; refine ⟨⟨rfl,rfl,rfl, fun ρ => cell_int (wrap_add1 (n := ol.length) hlt ok.ir) ρ⟩, ?_⟩; exact trivial)
   ·have hge : ol.length ≤ m + 1 + i := n_ge hlt
    conv => whnf
    refine ⟨[0,1,2,3,5], [0,1,2,4], fun vs9 => ?_⟩
    conv => whnf
    refine ⟨cusC_pure CL, gusC_pure L, blC_pure ol, rwC_pure boolR _, ?_⟩
    conv => whnf
    refine ⟨_, [(OL.mk l false cap (by rw [hll]; exact ok)).blk boolR 4], rfl, ⟨⟨rfl,rfl,rfl, fun _=>rfl⟩, ⟨rfl,rfl,rfl, fun _=>rfl⟩, ⟨rfl,rfl,rfl, fun _=>rfl⟩, ⟨rfl,rfl,rfl, fun _=>rfl⟩, ⟨rfl,rfl,(show (cap - ol.length) * 1 = (cap - l.length) * 1 by rw [hll]), fun _=>rfl⟩, trivial⟩, ⟨OL.new _ boolR _, trivial⟩, (OL.mk l false cap (by rw [hll]; exact ok)).sl 4, fun ρ => ?_, hc _ (fun _ => ?_) (fun h => absurd hv h)⟩
    ·simp only [OL.sl, SV.den, C.den, C.cells, hll]
    ·show l = refV CL L ol _
     rw [hl]
     unfold refV
     rw [Int.toNat_natCast]
     congr 1
     omega
end Go.Proofs.YthmdmbpecgakkaaDoor
