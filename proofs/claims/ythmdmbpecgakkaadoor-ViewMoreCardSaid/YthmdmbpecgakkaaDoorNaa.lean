/- Words of natural numbers, by the reckoner: norm. Words of natural numbers, by the reckoner: add. Words of natural numbers, by the reckoner: sub, cmp. Words of natural numbers, by the reckoner: mul. Words of natural numbers, by the reckoner: small, shift, unshift. -/
import Derived.Test.YthmdmbpecgakkaaDoorHelp
import Derived.Test.YthmdmbpecgakkaaDoorEno
namespace Go.Proofs.YthmdmbpecgakkaaDoor
open Go.RowKit
set_option maxRecDepth 100000

def envM (un : Nat) : Env where
 T := tyT
 un := un
 D := fun _ _ _ => none
 O := oMore tyT
theorem envM_ok (un : Nat) : EOk Tryd.prog (envM un) where
 T := tyT_ok
 D f args hf p v h := by cases h
 O := oMore_ok tyT_ok
def wC (n : Nat) : C := .val (.int .u64 (n : Int))
def wsC : List Nat → List C
 | [] => []
 | n :: l => wC n :: wsC l
theorem wsC_size : ∀ l : List Nat, sizeC (wsC l) = l.length
 | [] => rfl
 | _ :: l => by rw [wsC, List.length_cons, ← wsC_size l]; show 1 + _ = _; omega
theorem wsC_append : ∀ a b : List Nat, wsC (a ++ b) = wsC a ++ wsC b
 | [], _ => rfl
 | _ :: l, b => by rw [List.cons_append, wsC, wsC_append l b]; rfl
theorem wsC_pure : ∀ l : List Nat, PureL (wsC l)
 | [] => fun _ _=>rfl
 | n :: l => fun ρ ρ' => by
  have h := wsC_pure l ρ ρ'
  rw [wsC, List.flatMap_cons, List.flatMap_cons, h]; rfl
theorem wsC_one : ∀ l : List Nat, allOne (wsC l) = true
 | [] => rfl
 | _ :: l => by show (true && allOne (wsC l)) = true; rw [wsC_one l]; rfl
theorem wsC_rep : ∀ n, repX n (wC 0) = wsC (List.replicate n 0)
 | 0 => rfl
 | n + 1 => by
  show wC 0 :: repX n (wC 0) = wC 0 :: wsC (List.replicate n 0)
  rw [wsC_rep n]
def WAt (cs : List C) (off : Nat) (l : List Nat) : Prop := PureL cs ∧ ∃ A B, cs = A ++ (wsC l ++ B) ∧ sizeC A = off
theorem WAt.get {cs : List C} {off : Nat} {l : List Nat} (h : WAt cs off l) {k : Nat} (hk : k < l.length) : subC cs (off + k * 1) 1 = some [wC l[k]] := by
 obtain ⟨_, A, B, rfl, rfl⟩ := h
 have e : wsC l = wsC (l.take k) ++ ([wC l[k]] ++ wsC (l.drop (k + 1))) := by
  have h : l = l.take k ++ (l[k] :: l.drop (k + 1)) := by rw [← List.drop_eq_getElem_cons hk, List.take_append_drop]
  rw [show wsC l = wsC (l.take k ++ (l[k] :: l.drop (k + 1))) by rw [← h], wsC_append]
  rfl
 have e2 : A ++ (wsC l ++ B) = (A ++ wsC (l.take k)) ++ ([wC l[k]] ++ (wsC (l.drop (k + 1)) ++ B)) := by rw [e]; simp only [List.append_assoc]
 have s : sizeC (A ++ wsC (l.take k)) = sizeC A + k * 1 := by rw [sizeC_append, wsC_size, List.length_take]; omega
 rw [e2, ← s]
 exact subC_app _ [wC l[k]] _
theorem WAt.self (l r : List Nat) : WAt (wsC (l ++ r)) 0 l := ⟨wsC_pure _, [], wsC r, by rw [wsC_append]; rfl, rfl⟩
structure OW where
 l : List Nat
 r : List Nat
 nl : Bool
 cap : Nat
 ok : SliOk nl l.length cap
 hr : (l ++ r).length ≤ cap
def OW.sl (o : OW) (b : Nat) : SV := .c (.sli o.nl b 0 o.l.length o.cap o.ok)
def OW.blk (o : OW) : Blk := ⟨96, o.nl, wsC (o.l ++ o.r), o.cap - (o.l ++ o.r).length⟩
theorem OW.new (o : OW) : NewB o.blk := by
 refine ⟨wsC_pure _, ?_⟩
 cases h : o.nl with
 | false => exact .inl h
 | true =>
  right
  have h1 := o.ok.1; have h2 := o.ok.2.2 h; have h3 := o.hr
  have : o.l ++ o.r = [] := List.eq_nil_of_length_eq_zero (by omega)
  unfold OW.blk Blk.void
  rw [h, this]; rfl
def cNorm : NewC := fun args ros K => ∃ nl off len cap h ty cs l, args = [.c (.sli nl 0 off len cap h)] ∧ ros = [⟨ty, true, cs, 0⟩] ∧ l.length = len ∧ WAt cs off l ∧ ∀ h2, K (.c (.sli nl 0 off (tlen l) cap h2)) []
set_option maxHeartbeats 4000000 in
theorem csNorm : CSp Tryd.prog 65 cNorm := csp_of (envM_ok 0) mixed (inl_ok (envM_ok 0) mixed noF_ok 0) ⟨Tryd.func65, by kernel_rfl, by kernel_rfl⟩ fun args ros K hc => by
 obtain ⟨nl, off, _, cap, hl, ty, cs, l, rfl,rfl,rfl, hw, hc⟩ := hc
 refine ⟨fun ρ ρ' e => ?_, ?_⟩
 ·have := e 0 (Nat.zero_lt_one)
  simp only [List.map, SV.den, C.den, C.cells, this]
 conv => whnf
 refine loop_st (G := {k : Nat // k ≤ l.length ∧ ∀ j, k ≤ j → l.getD j 0 = 0} × (Nat → Value)) (fun g => [.c (.sli nl 0 off g.1.1 cap (sliOk_le2 hl g.1.2.1)), .c (.val (g.2 1)), .c (.val (g.2 2)), .c (.val (g.2 3)), .c (.val (g.2 4)), .c (.val (g.2 5)), .c (.val (g.2 6)), .c (.val (g.2 7)), .c (.val (g.2 8)), .c (.val (g.2 9)), .c (.val (g.2 10)), .c (.val (g.2 11)), .c (.val (g.2 12)), .c (.val (g.2 13)), .c (.val (g.2 14)), .c (.val (g.2 15)), .c (.val (g.2 16)), .c (.val (g.2 17)), .c (.val (g.2 18)), .c (.val (g.2 19)), .c (.val (g.2 20))]) (fun _ => [⟨ty, true, cs, 0⟩]) (fun g => g.1.1) ?_ ?_
 ·refine ⟨[0], [0], [0], fun vs => ?_⟩
  conv => whnf
  refine ⟨hw.1, ?_⟩
  conv => whnf
  refine ⟨_, _, ?_, ?_, (⟨l.length, Nat.le_refl _, fun j hj => by rw [List.getD_eq_getElem?_getD, List.getElem?_eq_none hj]; rfl⟩, vs), rfl, rfl⟩
  ·exact ⟨fun _=>rfl,fun _=>rfl,fun _=>rfl,fun _=>rfl,fun _=>rfl,fun _=>rfl,fun _=>rfl,fun _=>rfl,fun _=>rfl,fun _=>rfl,fun _=>rfl,fun _=>rfl,stm _⟩
  ·exact ⟨⟨rfl,rfl,rfl, fun _=>rfl⟩, trivial⟩
 ·rintro ⟨⟨k, hk, hz⟩, vs⟩
  conv => whnf
  refine bcase_intro (fun hlt => ?_) (fun hge => ?_)
  ·have hpos : 0 < k := len_pos (sliOk_le2 hl hk) hlt
   have hkl : k - 1 < l.length := by omega
   have hir : IR ((k - 1 : Nat) : Int) := by have := hl.ir; unfold IR at *; omega
   conv => whnf
   rw [eff_index_sli (hi := hir) (ho := ?hoi) (hT := ?hTi) (hx := ?hxi) (hk := ?hki) (hlt := ?hlti)]
   case hoi => rfl
   case hTi => rfl
   case hxi => rfl
   case hki => exact cint (wrap_pred hpos (sliOk_le2 hl hk).ir) hir
   case hlti => exact Nat.sub_lt hpos Nat.one_pos
   conv => whnf
   rw [eff_load_sub (m := [wC l[k - 1]]) (ho := ?hol) (hT := ?hTl) (hx := ?hxl) (hb := ?hbl) (hm := ?hml) (hv := ?hvl)]
   case hol => rfl
   case hTl => rfl
   case hxl => rfl
   case hbl => rfl
   case hml => exact hw.get hkl
   case hvl => rfl
   conv => whnf
   refine bcase_intro (fun h0 => ?_) (fun h0 => ?_)
   ·have hx : l[k - 1] = 0 := by simpa using h0
    conv => whnf
    rw [eff_slice_hi (hi := hir) (h2 := sliOk_le2 hl (Nat.le_trans (Nat.sub_le k 1) hk)) (ho := ?hos) (hT := ?hTs) (hx := ?hxs) (hk := ?hks) (hlt := ?hlts)]
    case hos => rfl
    case hTs => rfl
    case hxs => rfl
    case hks => exact cint (wrap_pred hpos (sliOk_le2 hl hk).ir) hir
    case hlts => exact Nat.le_trans (Nat.sub_le k 1) (Nat.le_trans hk hl.1)
    conv => whnf
    refine ⟨[0], [0], [0], fun vs2 => ?_⟩
    conv => whnf
    refine ⟨hw.1, ?_⟩
    conv => whnf
    refine ⟨_, _, ?_, ?_, (⟨k - 1, Nat.le_trans (Nat.sub_le k 1) hk, fun j hj => ?_⟩, vs2), Nat.sub_lt hpos Nat.one_pos, rfl, rfl⟩
    ·exact ⟨fun _=>rfl,fun _=>rfl,fun _=>rfl,fun _=>rfl,fun _=>rfl,fun _=>rfl,fun _=>rfl,fun _=>rfl,fun _=>rfl,fun _=>rfl,fun _=>rfl,fun _=>rfl,stm _⟩
    ·exact ⟨⟨rfl,rfl,rfl, fun _=>rfl⟩, trivial⟩
    ·by_cases e : j = k - 1
     ·rw [e, List.getD_eq_getElem?_getD, List.getElem?_eq_getElem hkl]; exact hx
     ·exact hz j (by omega)
   ·have hx : l[k - 1] ≠ 0 := by simpa using h0
    conv => whnf
    have ht : tlen l = k := tlen_eq hk hz (.inr (by rw [List.getD_eq_getElem?_getD, List.getElem?_eq_getElem hkl]; exact hx))
    have h2 : SliOk nl (tlen l) cap := by rw [ht]; exact sliOk_le2 hl hk
    refine ⟨[0], [0], fun vs2 => ?_⟩
    conv => whnf
    refine ⟨hw.1, ?_⟩
    conv => whnf
    refine ⟨_, [], rfl, ⟨⟨rfl,rfl,rfl, fun _=>rfl⟩, trivial⟩, trivial, .c (.sli nl 0 off (tlen l) cap h2), fun ρ => ?_, hc _⟩
    simp only [SV.den, C.den, C.cells, ht]
  ·have hk0 : k = 0 := len_zero hge
   conv => whnf
   have ht : tlen l = k := tlen_eq hk hz (.inl hk0)
   have h2 : SliOk nl (tlen l) cap := by rw [ht]; exact sliOk_le2 hl hk
   refine ⟨[0], [0], fun vs2 => ?_⟩
   conv => whnf
   refine ⟨hw.1, ?_⟩
   conv => whnf
   refine ⟨_, [], rfl, ⟨⟨rfl,rfl,rfl, fun _=>rfl⟩, trivial⟩, trivial, .c (.sli nl 0 off (tlen l) cap h2), fun ρ => ?_, hc _⟩
   simp only [SV.den, C.den, C.cells, ht]
end Go.Proofs.YthmdmbpecgakkaaDoor

namespace Go.Proofs.YthmdmbpecgakkaaDoor
open Go.RowKit
set_option maxRecDepth 100000

def normC : List (FuncId × NewC) := [(65, cNorm)]
theorem normC_ok : AllC Tryd.prog normC := .cons csNorm .nil
def OW.ofNorm (lo : List Nat) (cap : Nat) (h : SliOk false (tlen lo) cap) (hr : lo.length ≤ cap) : OW := ⟨lo.take (tlen lo), lo.drop (tlen lo), false, cap, by rw [List.length_take, Nat.min_eq_left (tlen_le lo)]; exact h, by rw [List.take_append_drop]; exact hr⟩
theorem OW.ofNorm_l {lo : List Nat} {cap : Nat} {h : SliOk false (tlen lo) cap} {hr : lo.length ≤ cap} (hd : Dl WB lo) : (OW.ofNorm lo cap h hr).l = dig WB (val WB lo) := take_tlen WB_two hd
theorem OW.ofNorm_blk {lo : List Nat} {cap : Nat} {h : SliOk false (tlen lo) cap} {hr : lo.length ≤ cap} : (OW.ofNorm lo cap h hr).blk = ⟨96, false, wsC lo, cap - lo.length⟩ := by
 simp only [OW.blk, OW.ofNorm, List.take_append_drop]
theorem OW.ofNorm_sl {lo : List Nat} {cap : Nat} {h : SliOk false (tlen lo) cap} {hr : lo.length ≤ cap} (b : Nat) (ρ : Rho) : (SV.c (.sli false b 0 (tlen lo) cap h)).den ρ = ((OW.ofNorm lo cap h hr).sl b).den ρ := by
 simp only [OW.sl, OW.ofNorm, SV.den, C.den, C.cells, List.length_take, Nat.min_eq_left (tlen_le lo)]
theorem splice_ws {lo : List Nat} {k : Nat} (hk : k < lo.length) (v : Nat) : spliceC (wsC lo) (0 + k * 1) [wC v] = some (wsC (lo.set k v)) := by
 have e : wsC lo = wsC (lo.take k) ++ ([wC lo[k]] ++ wsC (lo.drop (k + 1))) := by
  have h : lo = lo.take k ++ (lo[k] :: lo.drop (k + 1)) := by rw [← List.drop_eq_getElem_cons hk, List.take_append_drop]
  rw [show wsC lo = wsC (lo.take k ++ (lo[k] :: lo.drop (k + 1))) by rw [← h], wsC_append]
  rfl
 have s : sizeC (wsC (lo.take k)) = 0 + k * 1 := by rw [wsC_size, List.length_take]; omega
 rw [e, ← s, spliceC_app (wsC (lo.take k)) [wC lo[k]] (wsC (lo.drop (k + 1))) [wC v] rfl, List.set_eq_take_append_cons_drop, if_pos hk, wsC_append]
 rfl
theorem rep_pure (n : Nat) : PureL (repX n (wC 0)) := by rw [wsC_rep]; exact wsC_pure _
def cNat2 (ok : List Nat → List Nat → Prop) (f : Nat → Nat → Nat) : NewC := fun args ros K => ∃ nla offa lena capa ha tya csa la nlb offb lenb capb hb tyb csb lb, args = [.c (.sli nla 0 offa lena capa ha), .c (.sli nlb 1 offb lenb capb hb)] ∧ ros = [⟨tya, true, csa, 0⟩, ⟨tyb, true, csb, 0⟩] ∧
 la.length = lena ∧ lb.length = lenb ∧ WAt csa offa la ∧ WAt csb offb lb ∧ Dl WB la ∧ Dl WB lb ∧ lena ≤ 100000000 ∧ lenb ≤ 100000000 ∧ ok la lb ∧ ∀ o : OW, o.nl = false → o.l = dig WB (f (val WB la) (val WB lb)) → K (o.sl 2) [o.blk]
def cAdd : NewC := cNat2 (fun _ _ => True) (· + ·)
theorem u64_nat {z : Int} {n : Nat} (e : z = n) (h : n < 18446744073709551616) : IntKind.u64.wrap z = (n : Int) := by
 subst e
 simp [IntKind.wrap, IntKind.bits, IntKind.signed]; omega
theorem fdiv_word {z : Int} {n : Nat} (e : z = n) : z.fdiv (2 ^ min (Int.toNat 32) IntKind.u64.bits) = ((n / WB : Nat) : Int) := by
 subst e
 show ((n : Int)).fdiv 4294967296 = _
 rw [Int.fdiv_eq_ediv_of_nonneg _ (by decide), WB_eq]
 omega
theorem add_fin {a : Nat} {l : List Nat} {n : Nat} (h : l.length ≤ n) : a + val WB (l.take n) = a + val WB l := by rw [List.take_of_length_le h]
theorem val_last {lo : List Nat} {k c : Nat} (h : lo.length = k + 1) : val WB (lo.set k c) = val WB (lo.take k) + WB ^ k * c := by
 rw [← val_take_set WB lo k c (by omega), List.take_of_length_le (by rw [List.length_set]; omega)]
set_option maxHeartbeats 8000000 in
theorem csAdd : CSp Tryd.prog 49 cAdd := csp_of (envM_ok 0) mixed (hnew_ok normC_ok (inl_ok (envM_ok 0) mixed noF_ok 0)) ⟨Tryd.func49, by kernel_rfl, by kernel_rfl⟩ fun args ros K hc => by
 obtain ⟨nla, offa, _, capa, ha, tya, csa, la, nlb, offb, _, capb, hb, tyb, csb, lb, rfl,rfl,rfl,rfl,hwa, hwb, da, db, sa, sb, -, hc⟩ := hc
 refine ⟨fun ρ ρ' e => ?_, ?_⟩
 ·have e0 := e 0 (show 0 < 2 by decide)
  have e1 := e 1 (show 1 < 2 by decide)
  simp only [List.map, SV.den, C.den, C.cells, e0, e1]
 conv => whnf
 refine bcase_intro (fun hab => ?_) (fun hab => ?_)
 ·have hab : la.length < lb.length := n_lt hab
  conv => whnf
  have hadd : IntKind.i64.wrap ((lb.length : Int) + 1) = ((lb.length + 1 : Nat) : Int) := wrap_id (by unfold IR; omega)
  refine ⟨rfl, lb.length + 1, lb.length + 1, hadd, hadd, Nat.le_refl _, by omega, fun h2 => ?_⟩
  conv => whnf
  refine loop_st (G := {g : Nat × Nat × List Nat × (Nat → Value) // g.1 ≤ lb.length ∧ g.2.1 ≤ 1 ∧ g.2.2.1.length = lb.length + 1 ∧ Dl WB g.2.2.1 ∧ val WB (g.2.2.1.take g.1) + WB ^ g.1 * g.2.1 = val WB (lb.take g.1) + val WB (la.take g.1)}) (fun g => [.c (.sli nlb 1 offb lb.length capb hb), .c (.sli nla 0 offa la.length capa ha), .c (.val (g.1.2.2.2 2)), .c (.val (g.1.2.2.2 3)), .c (.val (g.1.2.2.2 4)), .c (.sli false 2 0 (lb.length + 1) (lb.length + 1) h2), .c (.val (.int .u64 (g.1.2.1 : Nat))), .c (.val (g.1.2.2.2 7)), .c (.val (g.1.2.2.2 8)), .c (.val (g.1.2.2.2 9)), .c (.val (g.1.2.2.2 10)), .c (.val (g.1.2.2.2 11)), .c (.val (g.1.2.2.2 12)), .c (.val (g.1.2.2.2 13)), .c (.val (g.1.2.2.2 14)), .c (.val (g.1.2.2.2 15)), .c (.val (g.1.2.2.2 16)), .c (.val (g.1.2.2.2 17)), .c (.val (g.1.2.2.2 18)), .c (.val (g.1.2.2.2 19)), .c (.val (g.1.2.2.2 20)), .c (.int (lb.length : Nat) hb.ir), .c (.int (g.1.1 : Nat) (ltI hb g.2.1)), .c (.val (g.1.2.2.2 23)), .c (.val (g.1.2.2.2 24)), .c (.val (g.1.2.2.2 25)), .c (.val (g.1.2.2.2 26)), .c (.val (g.1.2.2.2 27)), .c (.val (g.1.2.2.2 28)), .c (.val (g.1.2.2.2 29)), .c (.val (g.1.2.2.2 30)), .c (.val (g.1.2.2.2 31)), .c (.val (g.1.2.2.2 32)), .c (.val (g.1.2.2.2 33)), .c (.val (g.1.2.2.2 34)), .c (.val (g.1.2.2.2 35)), .c (.val (g.1.2.2.2 36)), .c (.val (g.1.2.2.2 37)), .c (.val (g.1.2.2.2 38)), .c (.val (g.1.2.2.2 39)), .c (.val (g.1.2.2.2 40)), .c (.val (g.1.2.2.2 41)), .c (.val (g.1.2.2.2 42)), .c (.val (g.1.2.2.2 43)), .c (.val (g.1.2.2.2 44)), .c (.val (g.1.2.2.2 45)), .c (.val (g.1.2.2.2 46)), .c (.val (g.1.2.2.2 47)), .c (.val (g.1.2.2.2 48)), .c (.val (g.1.2.2.2 49)), .c (.val (g.1.2.2.2 50)), .c (.val (g.1.2.2.2 51)), .c (.val (g.1.2.2.2 52)), .c (.val (g.1.2.2.2 53)), .c (.val (g.1.2.2.2 54)), .c (.val (g.1.2.2.2 55))]) (fun g => [⟨tya, true, csa, 0⟩, ⟨tyb, true, csb, 0⟩, ⟨96, false, wsC g.1.2.2.1, 0⟩]) (fun g => lb.length - g.1.1) ?_ ?_
  ·refine ⟨[0,1,2], [0,1,5,6,21,22], [0,1,2], fun vs => ?_⟩
   conv => whnf
   refine ⟨hwa.1, hwb.1, rep_pure _, ?_⟩
   conv => whnf
   refine ⟨_, _, ?_, ?_, ⟨(0, 0, List.replicate (lb.length + 1) 0, vs), Nat.zero_le _, Nat.zero_le _, List.length_replicate, Dl.replicate WB_pos _, by simp [val]⟩, rfl, rfl⟩
   ·exact ⟨fun _=>rfl,fun _=>rfl,fun _=>rfl,fun _=>rfl,fun _=>rfl,fun _=>rfl,fun _=>rfl,fun _=>rfl,fun _=>rfl,fun _=>rfl,fun _=>rfl,fun _=>rfl,stm _⟩
   ·exact ⟨⟨rfl,rfl,rfl, fun _=>rfl⟩, ⟨rfl,rfl,rfl, fun _=>rfl⟩, ⟨rfl,rfl,Nat.sub_self _, fun ρ => by rw [← wsC_rep]; rfl⟩, trivial⟩
  ·rintro ⟨⟨k, c, lo, vs⟩, hk, hc1, hlen, hdl, hv⟩
   have hk : k ≤ lb.length := hk
   have hc1 : c ≤ 1 := hc1
   have hlen : lo.length = lb.length + 1 := hlen
   have hdl : Dl WB lo := hdl
   have hv : val WB (lo.take k) + WB ^ k * c = val WB (lb.take k) + val WB (la.take k) := hv
   conv => whnf
   refine bcase_intro (fun hlt => ?_) (fun hge => ?_)
   ·have hlt : k < lb.length := n_lt hlt
    conv => whnf
    rw [eff_index_sli (ho := ?hoi) (hT := ?hTi) (hx := ?hxi) (hk := ?hki) (hlt := ?hlti)]
    case hoi => rfl
    case hTi => rfl
    case hxi => rfl
    case hki => rfl
    case hlti => exact hlt
    conv => whnf
    rw [eff_load_sub (m := [wC lb[k]]) (ho := ?hol) (hT := ?hTl) (hx := ?hxl) (hb := ?hbl) (hm := ?hml) (hv := ?hvl)]
    case hol => rfl
    case hTl => rfl
    case hxl => rfl
    case hbl => rfl
    case hml => exact hwb.get hlt
    case hvl => rfl
    conv => whnf
    refine bcase_intro (fun hly => ?_) (fun hly => ?_)
    ·have hly : k < la.length := n_lt hly
     conv => whnf
     rw [eff_index_sli (ho := ?hoi2) (hT := ?hTi2) (hx := ?hxi2) (hk := ?hki2) (hlt := ?hlti2)]
     case hoi2 => rfl
     case hTi2 => rfl
     case hxi2 => rfl
     case hki2 => rfl
     case hlti2 => exact hly
     conv => whnf
     rw [eff_load_sub (m := [wC la[k]]) (ho := ?hol2) (hT := ?hTl2) (hx := ?hxl2) (hb := ?hbl2) (hm := ?hml2) (hv := ?hvl2)]
     case hol2 => rfl
     case hTl2 => rfl
     case hxl2 => rfl
     case hbl2 => rfl
     case hml2 => exact hwa.get hly
     case hvl2 => rfl
     conv => whnf
     rw [eff_index_sli (ho := ?hoi3) (hT := ?hTi3) (hx := ?hxi3) (hk := ?hki3) (hlt := ?hlti3)]
     case hoi3 => rfl
     case hTi3 => rfl
     case hxi3 => rfl
     case hki3 => rfl
     case hlti3 => exact Nat.lt_succ_of_lt hlt
     conv => whnf
     have hklo : k < lo.length := by omega
     have hx32 : lb[k] < 4294967296 := db.get k hlt
     have hy32 : la[k] < 4294967296 := da.get k hly
     have e0 : IntKind.u64.wrap (IntKind.u64.wrap ((lb[k] : Int) + (c : Int)) + (la[k] : Int)) = ((lb[k] + c + la[k] : Nat) : Int) := by
      have e00 : IntKind.u64.wrap ((lb[k] : Int) + (c : Int)) = ((lb[k] + c : Nat) : Int) := u64_nat (by omega) (by omega)
      rw [e00]; exact u64_nat (by omega) (by omega)
     have e1 : bits .and .u64 (IntKind.u64.wrap (IntKind.u64.wrap ((lb[k] : Int) + (c : Int)) + (la[k] : Int))) 4294967295 = (((lb[k] + c + la[k]) % WB : Nat) : Int) := by
      rw [e0]; exact and_mask _ _ rfl (by omega)
     have e2 := fdiv_word e0
     rw [eff_store_at (l := [wC ((lb[k] + c + la[k]) % WB)]) (cs := wsC (lo.set k ((lb[k] + c + la[k]) % WB))) (ho := ?hos) (hT := ?hTs) (hx := ?hxs) (hy := ?hys) (hl := ?hls) (hb := ?hbs) (hro := ?hros) (hs := ?hss)]
     case hos => rfl
     case hTs => rfl
     case hxs => rfl
     case hys => exact congrArg (fun z => some [C.val (.int .u64 z)]) e1
     case hls => exact ⟨rfl, rfl⟩
     case hbs => rfl
     case hros => rfl
     case hss => exact splice_ws hklo _
     conv => whnf
     rw [forceL_eq]
     conv => whnf
     refine ⟨[0,1,2], [0,1,5,6,21,22], [0,1,2], fun vs2 => ?_⟩
     conv => whnf
     refine ⟨hwa.1, hwb.1, wsC_pure _, ?_⟩
     conv => whnf
     refine ⟨_, _, ?_, ?_, ⟨(k + 1, (lb[k] + c + la[k]) / WB, lo.set k ((lb[k] + c + la[k]) % WB), vs2), hlt, ?_, by rw [List.length_set]; exact hlen, hdl.set _ (Nat.mod_lt _ WB_pos), add_step (by omega) (getD_get hlt) (getD_get hly) hv⟩, (by omega : lb.length - (k + 1) < lb.length - k), rfl, rfl⟩
     ·exact ⟨fun _=>rfl,fun _=>rfl,fun _=>rfl,fun _=>rfl,fun _=>rfl,fun _=>rfl,fun _ => congrArg (Value.int .u64) e2, fun _=>rfl,fun _=>rfl,fun _=>rfl,fun _=>rfl,fun _=>rfl,fun _=>rfl,fun _=>rfl,fun _=>rfl,fun _=>rfl,fun _=>rfl,fun _=>rfl,fun _=>rfl,fun _=>rfl,fun _=>rfl,fun _=>rfl,sint_eq (wrap_add1 hlt hb.ir) _ _, stm _⟩
     ·exact ⟨⟨rfl,rfl,rfl, fun _=>rfl⟩, ⟨rfl,rfl,rfl, fun _=>rfl⟩, ⟨rfl,rfl,rfl, fun _=>rfl⟩, trivial⟩
     ·show (lb[k] + c + la[k]) / WB ≤ 1
      rw [WB_eq]; omega
    ·have hly : la.length ≤ k := n_ge hly
     have hy0 : la[k]?.getD 0 = 0 := by rw [List.getElem?_eq_none hly]; rfl
     conv => whnf
     rw [eff_index_sli (ho := ?hoi4) (hT := ?hTi4) (hx := ?hxi4) (hk := ?hki4) (hlt := ?hlti4)]
     case hoi4 => rfl
     case hTi4 => rfl
     case hxi4 => rfl
     case hki4 => rfl
     case hlti4 => exact Nat.lt_succ_of_lt hlt
     conv => whnf
     have hklo : k < lo.length := by omega
     have hx32 : lb[k] < 4294967296 := db.get k hlt
     have e0 : IntKind.u64.wrap ((lb[k] : Int) + (c : Int)) = ((lb[k] + c + 0 : Nat) : Int) := by
      exact u64_nat (by omega) (by omega)
     have e1 : bits .and .u64 (IntKind.u64.wrap ((lb[k] : Int) + (c : Int))) 4294967295 = (((lb[k] + c + 0) % WB : Nat) : Int) := by
      rw [e0]; exact and_mask _ _ rfl (by omega)
     have e2 := fdiv_word e0
     rw [eff_store_at (l := [wC ((lb[k] + c + 0) % WB)]) (cs := wsC (lo.set k ((lb[k] + c + 0) % WB))) (ho := ?hos) (hT := ?hTs) (hx := ?hxs) (hy := ?hys) (hl := ?hls) (hb := ?hbs) (hro := ?hros) (hs := ?hss)]
     case hos => rfl
     case hTs => rfl
     case hxs => rfl
     case hys => exact congrArg (fun z => some [C.val (.int .u64 z)]) e1
     case hls => exact ⟨rfl, rfl⟩
     case hbs => rfl
     case hros => rfl
     case hss => exact splice_ws hklo _
     conv => whnf
     rw [forceL_eq]
     conv => whnf
     refine ⟨[0,1,2], [0,1,5,6,21,22], [0,1,2], fun vs2 => ?_⟩
     conv => whnf
     refine ⟨hwa.1, hwb.1, wsC_pure _, ?_⟩
     conv => whnf
     refine ⟨_, _, ?_, ?_, ⟨(k + 1, (lb[k] + c + 0) / WB, lo.set k ((lb[k] + c + 0) % WB), vs2), hlt, ?_, by rw [List.length_set]; exact hlen, hdl.set _ (Nat.mod_lt _ WB_pos), add_step (by omega) (getD_get hlt) hy0 hv⟩, (by omega : lb.length - (k + 1) < lb.length - k), rfl, rfl⟩
     ·exact ⟨fun _=>rfl,fun _=>rfl,fun _=>rfl,fun _=>rfl,fun _=>rfl,fun _=>rfl,fun _ => congrArg (Value.int .u64) e2, fun _=>rfl,fun _=>rfl,fun _=>rfl,fun _=>rfl,fun _=>rfl,fun _=>rfl,fun _=>rfl,fun _=>rfl,fun _=>rfl,fun _=>rfl,fun _=>rfl,fun _=>rfl,fun _=>rfl,fun _=>rfl,fun _=>rfl,sint_eq (wrap_add1 hlt hb.ir) _ _, stm _⟩
     ·exact ⟨⟨rfl,rfl,rfl, fun _=>rfl⟩, ⟨rfl,rfl,rfl, fun _=>rfl⟩, ⟨rfl,rfl,rfl, fun _=>rfl⟩, trivial⟩
     ·show (lb[k] + c + 0) / WB ≤ 1
      rw [WB_eq]; omega
   ·have hke : k = lb.length := Nat.le_antisymm hk (n_ge hge)
    subst hke
    conv => whnf
    rw [eff_index_sli (ho := ?hoi5) (hT := ?hTi5) (hx := ?hxi5) (hk := ?hki5) (hlt := ?hlti5)]
    case hoi5 => rfl
    case hTi5 => rfl
    case hxi5 => rfl
    case hki5 => rfl
    case hlti5 => exact Nat.lt_succ_self _
    conv => whnf
    have hklo : lb.length < lo.length := by omega
    rw [eff_store_at (l := [wC c]) (cs := wsC (lo.set lb.length c)) (ho := ?hos5) (hT := ?hTs5) (hx := ?hxs5) (hy := ?hys5) (hl := ?hls5) (hb := ?hbs5) (hro := ?hros5) (hs := ?hss5)]
    case hos5 => rfl
    case hTs5 => rfl
    case hxs5 => rfl
    case hys5 => rfl
    case hls5 => exact ⟨rfl, rfl⟩
    case hbs5 => rfl
    case hros5 => rfl
    case hss5 => exact splice_ws hklo _
    conv => whnf
    rw [forceL_eq]
    conv => whnf
    have hyx : la.length ≤ lb.length := by omega
    have hl2 : (lo.set lb.length c).length = lb.length + 1 := by rw [List.length_set]; exact hlen
    have hd2 : Dl WB (lo.set lb.length c) := hdl.set _ (by rw [WB_eq]; omega)
    refine ⟨⟨wsC_pure _, trivial⟩, ⟨_, _, _, _, _, _, _, lo.set lb.length c, rfl,rfl,hl2, ⟨wsC_pure _, [], [], by rw [List.append_nil]; rfl, rfl⟩, fun h3 => ?_⟩⟩
    conv => whnf
    refine ⟨[0,1,2], [0,1,2], fun vs2 => ?_⟩
    conv => whnf
    refine ⟨hwa.1, hwb.1, wsC_pure _, ?_⟩
    conv => whnf
    refine ⟨_, [(OW.ofNorm (lo.set lb.length c) (lb.length + 1) h3 (Nat.le_of_eq hl2)).blk], rfl, ⟨⟨rfl,rfl,rfl, fun _=>rfl⟩, ⟨rfl,rfl,rfl, fun _=>rfl⟩, ⟨rfl,rfl,?_, fun ρ => ?_⟩, trivial⟩, ⟨OW.new _, trivial⟩, _, fun ρ => OW.ofNorm_sl 2 ρ, hc _ rfl ?_⟩
    ·rw [OW.ofNorm_blk, hl2]; exact (Nat.sub_self _).symm
    ·rw [OW.ofNorm_blk]
    ·rw [OW.ofNorm_l hd2, val_last hlen, hv, List.take_length]
     exact congrArg (dig WB) ((add_fin hyx).trans (Nat.add_comm _ _))
 ·have hab : lb.length ≤ la.length := n_ge hab
  conv => whnf
  have hadd : IntKind.i64.wrap ((la.length : Int) + 1) = ((la.length + 1 : Nat) : Int) := wrap_id (by unfold IR; omega)
  refine ⟨rfl, la.length + 1, la.length + 1, hadd, hadd, Nat.le_refl _, by omega, fun h2 => ?_⟩
  conv => whnf
  refine loop_st (G := {g : Nat × Nat × List Nat × (Nat → Value) // g.1 ≤ la.length ∧ g.2.1 ≤ 1 ∧ g.2.2.1.length = la.length + 1 ∧ Dl WB g.2.2.1 ∧ val WB (g.2.2.1.take g.1) + WB ^ g.1 * g.2.1 = val WB (la.take g.1) + val WB (lb.take g.1)}) (fun g => [.c (.sli nla 0 offa la.length capa ha), .c (.sli nlb 1 offb lb.length capb hb), .c (.val (g.1.2.2.2 2)), .c (.val (g.1.2.2.2 3)), .c (.val (g.1.2.2.2 4)), .c (.sli false 2 0 (la.length + 1) (la.length + 1) h2), .c (.val (.int .u64 (g.1.2.1 : Nat))), .c (.val (g.1.2.2.2 7)), .c (.val (g.1.2.2.2 8)), .c (.val (g.1.2.2.2 9)), .c (.val (g.1.2.2.2 10)), .c (.val (g.1.2.2.2 11)), .c (.val (g.1.2.2.2 12)), .c (.val (g.1.2.2.2 13)), .c (.val (g.1.2.2.2 14)), .c (.val (g.1.2.2.2 15)), .c (.val (g.1.2.2.2 16)), .c (.val (g.1.2.2.2 17)), .c (.val (g.1.2.2.2 18)), .c (.val (g.1.2.2.2 19)), .c (.val (g.1.2.2.2 20)), .c (.int (la.length : Nat) ha.ir), .c (.int (g.1.1 : Nat) (ltI ha g.2.1)), .c (.val (g.1.2.2.2 23)), .c (.val (g.1.2.2.2 24)), .c (.val (g.1.2.2.2 25)), .c (.val (g.1.2.2.2 26)), .c (.val (g.1.2.2.2 27)), .c (.val (g.1.2.2.2 28)), .c (.val (g.1.2.2.2 29)), .c (.val (g.1.2.2.2 30)), .c (.val (g.1.2.2.2 31)), .c (.val (g.1.2.2.2 32)), .c (.val (g.1.2.2.2 33)), .c (.val (g.1.2.2.2 34)), .c (.val (g.1.2.2.2 35)), .c (.val (g.1.2.2.2 36)), .c (.val (g.1.2.2.2 37)), .c (.val (g.1.2.2.2 38)), .c (.val (g.1.2.2.2 39)), .c (.val (g.1.2.2.2 40)), .c (.val (g.1.2.2.2 41)), .c (.val (g.1.2.2.2 42)), .c (.val (g.1.2.2.2 43)), .c (.val (g.1.2.2.2 44)), .c (.val (g.1.2.2.2 45)), .c (.val (g.1.2.2.2 46)), .c (.val (g.1.2.2.2 47)), .c (.val (g.1.2.2.2 48)), .c (.val (g.1.2.2.2 49)), .c (.val (g.1.2.2.2 50)), .c (.val (g.1.2.2.2 51)), .c (.val (g.1.2.2.2 52)), .c (.val (g.1.2.2.2 53)), .c (.val (g.1.2.2.2 54)), .c (.val (g.1.2.2.2 55))]) (fun g => [⟨tya, true, csa, 0⟩, ⟨tyb, true, csb, 0⟩, ⟨96, false, wsC g.1.2.2.1, 0⟩]) (fun g => la.length - g.1.1) ?_ ?_
  ·refine ⟨[0,1,2], [0,1,5,6,21,22], [0,1,2], fun vs => ?_⟩
   conv => whnf
   refine ⟨hwa.1, hwb.1, rep_pure _, ?_⟩
   conv => whnf
   refine ⟨_, _, ?_, ?_, ⟨(0, 0, List.replicate (la.length + 1) 0, vs), Nat.zero_le _, Nat.zero_le _, List.length_replicate, Dl.replicate WB_pos _, by simp [val]⟩, rfl, rfl⟩
   ·exact ⟨fun _=>rfl,fun _=>rfl,fun _=>rfl,fun _=>rfl,fun _=>rfl,fun _=>rfl,fun _=>rfl,fun _=>rfl,fun _=>rfl,fun _=>rfl,fun _=>rfl,fun _=>rfl,stm _⟩
   ·exact ⟨⟨rfl,rfl,rfl, fun _=>rfl⟩, ⟨rfl,rfl,rfl, fun _=>rfl⟩, ⟨rfl,rfl,Nat.sub_self _, fun ρ => by rw [← wsC_rep]; rfl⟩, trivial⟩
  ·rintro ⟨⟨k, c, lo, vs⟩, hk, hc1, hlen, hdl, hv⟩
   have hk : k ≤ la.length := hk
   have hc1 : c ≤ 1 := hc1
   have hlen : lo.length = la.length + 1 := hlen
   have hdl : Dl WB lo := hdl
   have hv : val WB (lo.take k) + WB ^ k * c = val WB (la.take k) + val WB (lb.take k) := hv
   conv => whnf
   refine bcase_intro (fun hlt => ?_) (fun hge => ?_)
   ·have hlt : k < la.length := n_lt hlt
    conv => whnf
    rw [eff_index_sli (ho := ?hoi) (hT := ?hTi) (hx := ?hxi) (hk := ?hki) (hlt := ?hlti)]
    case hoi => rfl
    case hTi => rfl
    case hxi => rfl
    case hki => rfl
    case hlti => exact hlt
    conv => whnf
    rw [eff_load_sub (m := [wC la[k]]) (ho := ?hol) (hT := ?hTl) (hx := ?hxl) (hb := ?hbl) (hm := ?hml) (hv := ?hvl)]
    case hol => rfl
    case hTl => rfl
    case hxl => rfl
    case hbl => rfl
    case hml => exact hwa.get hlt
    case hvl => rfl
    conv => whnf
    refine bcase_intro (fun hly => ?_) (fun hly => ?_)
    ·have hly : k < lb.length := n_lt hly
     conv => whnf
     rw [eff_index_sli (ho := ?hoi2) (hT := ?hTi2) (hx := ?hxi2) (hk := ?hki2) (hlt := ?hlti2)]
     case hoi2 => rfl
     case hTi2 => rfl
     case hxi2 => rfl
     case hki2 => rfl
     case hlti2 => exact hly
     conv => whnf
     rw [eff_load_sub (m := [wC lb[k]]) (ho := ?hol2) (hT := ?hTl2) (hx := ?hxl2) (hb := ?hbl2) (hm := ?hml2) (hv := ?hvl2)]
     case hol2 => rfl
     case hTl2 => rfl
     case hxl2 => rfl
     case hbl2 => rfl
     case hml2 => exact hwb.get hly
     case hvl2 => rfl
     conv => whnf
     rw [eff_index_sli (ho := ?hoi3) (hT := ?hTi3) (hx := ?hxi3) (hk := ?hki3) (hlt := ?hlti3)]
     case hoi3 => rfl
     case hTi3 => rfl
     case hxi3 => rfl
     case hki3 => rfl
     case hlti3 => exact Nat.lt_succ_of_lt hlt
     conv => whnf
     have hklo : k < lo.length := by omega
     have hx32 : la[k] < 4294967296 := da.get k hlt
     have hy32 : lb[k] < 4294967296 := db.get k hly
     have e0 : IntKind.u64.wrap (IntKind.u64.wrap ((la[k] : Int) + (c : Int)) + (lb[k] : Int)) = ((la[k] + c + lb[k] : Nat) : Int) := by
      have e00 : IntKind.u64.wrap ((la[k] : Int) + (c : Int)) = ((la[k] + c : Nat) : Int) := u64_nat (by omega) (by omega)
      rw [e00]; exact u64_nat (by omega) (by omega)
     have e1 : bits .and .u64 (IntKind.u64.wrap (IntKind.u64.wrap ((la[k] : Int) + (c : Int)) + (lb[k] : Int))) 4294967295 = (((la[k] + c + lb[k]) % WB : Nat) : Int) := by
      rw [e0]; exact and_mask _ _ rfl (by omega)
     have e2 := fdiv_word e0
     rw [eff_store_at (l := [wC ((la[k] + c + lb[k]) % WB)]) (cs := wsC (lo.set k ((la[k] + c + lb[k]) % WB))) (ho := ?hos) (hT := ?hTs) (hx := ?hxs) (hy := ?hys) (hl := ?hls) (hb := ?hbs) (hro := ?hros) (hs := ?hss)]
     case hos => rfl
     case hTs => rfl
     case hxs => rfl
     case hys => exact congrArg (fun z => some [C.val (.int .u64 z)]) e1
     case hls => exact ⟨rfl, rfl⟩
     case hbs => rfl
     case hros => rfl
     case hss => exact splice_ws hklo _
     conv => whnf
     rw [forceL_eq]
     conv => whnf
     refine ⟨[0,1,2], [0,1,5,6,21,22], [0,1,2], fun vs2 => ?_⟩
     conv => whnf
     refine ⟨hwa.1, hwb.1, wsC_pure _, ?_⟩
     conv => whnf
     refine ⟨_, _, ?_, ?_, ⟨(k + 1, (la[k] + c + lb[k]) / WB, lo.set k ((la[k] + c + lb[k]) % WB), vs2), hlt, ?_, by rw [List.length_set]; exact hlen, hdl.set _ (Nat.mod_lt _ WB_pos), add_step (by omega) (getD_get hlt) (getD_get hly) hv⟩, (by omega : la.length - (k + 1) < la.length - k), rfl, rfl⟩
     ·exact ⟨fun _=>rfl,fun _=>rfl,fun _=>rfl,fun _=>rfl,fun _=>rfl,fun _=>rfl,fun _ => congrArg (Value.int .u64) e2, fun _=>rfl,fun _=>rfl,fun _=>rfl,fun _=>rfl,fun _=>rfl,fun _=>rfl,fun _=>rfl,fun _=>rfl,fun _=>rfl,fun _=>rfl,fun _=>rfl,fun _=>rfl,fun _=>rfl,fun _=>rfl,fun _=>rfl,sint_eq (wrap_add1 hlt ha.ir) _ _, stm _⟩
     ·exact ⟨⟨rfl,rfl,rfl, fun _=>rfl⟩, ⟨rfl,rfl,rfl, fun _=>rfl⟩, ⟨rfl,rfl,rfl, fun _=>rfl⟩, trivial⟩
     ·show (la[k] + c + lb[k]) / WB ≤ 1
      rw [WB_eq]; omega
    ·have hly : lb.length ≤ k := n_ge hly
     have hy0 : lb[k]?.getD 0 = 0 := by rw [List.getElem?_eq_none hly]; rfl
     conv => whnf
     rw [eff_index_sli (ho := ?hoi4) (hT := ?hTi4) (hx := ?hxi4) (hk := ?hki4) (hlt := ?hlti4)]
     case hoi4 => rfl
     case hTi4 => rfl
     case hxi4 => rfl
     case hki4 => rfl
     case hlti4 => exact Nat.lt_succ_of_lt hlt
     conv => whnf
     have hklo : k < lo.length := by omega
     have hx32 : la[k] < 4294967296 := da.get k hlt
     have e0 : IntKind.u64.wrap ((la[k] : Int) + (c : Int)) = ((la[k] + c + 0 : Nat) : Int) := by
      exact u64_nat (by omega) (by omega)
     have e1 : bits .and .u64 (IntKind.u64.wrap ((la[k] : Int) + (c : Int))) 4294967295 = (((la[k] + c + 0) % WB : Nat) : Int) := by
      rw [e0]; exact and_mask _ _ rfl (by omega)
     have e2 := fdiv_word e0
     rw [eff_store_at (l := [wC ((la[k] + c + 0) % WB)]) (cs := wsC (lo.set k ((la[k] + c + 0) % WB))) (ho := ?hos) (hT := ?hTs) (hx := ?hxs) (hy := ?hys) (hl := ?hls) (hb := ?hbs) (hro := ?hros) (hs := ?hss)]
     case hos => rfl
     case hTs => rfl
     case hxs => rfl
     case hys => exact congrArg (fun z => some [C.val (.int .u64 z)]) e1
     case hls => exact ⟨rfl, rfl⟩
     case hbs => rfl
     case hros => rfl
     case hss => exact splice_ws hklo _
     conv => whnf
     rw [forceL_eq]
     conv => whnf
     refine ⟨[0,1,2], [0,1,5,6,21,22], [0,1,2], fun vs2 => ?_⟩
     conv => whnf
     refine ⟨hwa.1, hwb.1, wsC_pure _, ?_⟩
     conv => whnf
     refine ⟨_, _, ?_, ?_, ⟨(k + 1, (la[k] + c + 0) / WB, lo.set k ((la[k] + c + 0) % WB), vs2), hlt, ?_, by rw [List.length_set]; exact hlen, hdl.set _ (Nat.mod_lt _ WB_pos), add_step (by omega) (getD_get hlt) hy0 hv⟩, (by omega : la.length - (k + 1) < la.length - k), rfl, rfl⟩
     ·exact ⟨fun _=>rfl,fun _=>rfl,fun _=>rfl,fun _=>rfl,fun _=>rfl,fun _=>rfl,fun _ => congrArg (Value.int .u64) e2, fun _=>rfl,fun _=>rfl,fun _=>rfl,fun _=>rfl,fun _=>rfl,fun _=>rfl,fun _=>rfl,fun _=>rfl,fun _=>rfl,fun _=>rfl,fun _=>rfl,fun _=>rfl,fun _=>rfl,fun _=>rfl,fun _=>rfl,sint_eq (wrap_add1 hlt ha.ir) _ _, stm _⟩
     ·exact ⟨⟨rfl,rfl,rfl, fun _=>rfl⟩, ⟨rfl,rfl,rfl, fun _=>rfl⟩, ⟨rfl,rfl,rfl, fun _=>rfl⟩, trivial⟩
     ·show (la[k] + c + 0) / WB ≤ 1
      rw [WB_eq]; omega
   ·have hke : k = la.length := Nat.le_antisymm hk (n_ge hge)
    subst hke
    conv => whnf
    rw [eff_index_sli (ho := ?hoi5) (hT := ?hTi5) (hx := ?hxi5) (hk := ?hki5) (hlt := ?hlti5)]
    case hoi5 => rfl
    case hTi5 => rfl
    case hxi5 => rfl
    case hki5 => rfl
    case hlti5 => exact Nat.lt_succ_self _
    conv => whnf
    have hklo : la.length < lo.length := by omega
    rw [eff_store_at (l := [wC c]) (cs := wsC (lo.set la.length c)) (ho := ?hos5) (hT := ?hTs5) (hx := ?hxs5) (hy := ?hys5) (hl := ?hls5) (hb := ?hbs5) (hro := ?hros5) (hs := ?hss5)]
    case hos5 => rfl
    case hTs5 => rfl
    case hxs5 => rfl
    case hys5 => rfl
    case hls5 => exact ⟨rfl, rfl⟩
    case hbs5 => rfl
    case hros5 => rfl
    case hss5 => exact splice_ws hklo _
    conv => whnf
    rw [forceL_eq]
    conv => whnf
    have hyx : lb.length ≤ la.length := by omega
    have hl2 : (lo.set la.length c).length = la.length + 1 := by rw [List.length_set]; exact hlen
    have hd2 : Dl WB (lo.set la.length c) := hdl.set _ (by rw [WB_eq]; omega)
    refine ⟨⟨wsC_pure _, trivial⟩, ⟨_, _, _, _, _, _, _, lo.set la.length c, rfl,rfl,hl2, ⟨wsC_pure _, [], [], by rw [List.append_nil]; rfl, rfl⟩, fun h3 => ?_⟩⟩
    conv => whnf
    refine ⟨[0,1,2], [0,1,2], fun vs2 => ?_⟩
    conv => whnf
    refine ⟨hwa.1, hwb.1, wsC_pure _, ?_⟩
    conv => whnf
    refine ⟨_, [(OW.ofNorm (lo.set la.length c) (la.length + 1) h3 (Nat.le_of_eq hl2)).blk], rfl, ⟨⟨rfl,rfl,rfl, fun _=>rfl⟩, ⟨rfl,rfl,rfl, fun _=>rfl⟩, ⟨rfl,rfl,?_, fun ρ => ?_⟩, trivial⟩, ⟨OW.new _, trivial⟩, _, fun ρ => OW.ofNorm_sl 2 ρ, hc _ rfl ?_⟩
    ·rw [OW.ofNorm_blk, hl2]; exact (Nat.sub_self _).symm
    ·rw [OW.ofNorm_blk]
    ·rw [OW.ofNorm_l hd2, val_last hlen, hv, List.take_length]
     exact congrArg (dig WB) (add_fin hyx)
end Go.Proofs.YthmdmbpecgakkaaDoor

namespace Go.Proofs.YthmdmbpecgakkaaDoor
open Go.RowKit
set_option maxRecDepth 100000

theorem sub_wordE {x c y : Nat} (hx : x < 4294967296) (hc : c ≤ 1) (hy : y < 4294967296) : ∃ s : Nat, IntKind.u64.wrap (IntKind.u64.wrap ((x : Int) - c) - y) = (s : Int) ∧ s < 18446744073709551616 ∧
  s / 9223372036854775808 ≤ 1 ∧ s % WB + c + y = x + WB * (s / 9223372036854775808) := by
 rw [IntKind.wrap_u64, IntKind.wrap_u64, WB_eq]
 refine ⟨((((x : Int) - c) % 18446744073709551616 - y) % 18446744073709551616).toNat, ?_, ?_, ?_, ?_⟩ <;> omega
theorem sub_wordE0 {x c : Nat} (hx : x < 4294967296) (hc : c ≤ 1) : ∃ s : Nat, IntKind.u64.wrap ((x : Int) - c) = (s : Int) ∧ s < 18446744073709551616 ∧
  s / 9223372036854775808 ≤ 1 ∧ s % WB + c + 0 = x + WB * (s / 9223372036854775808) := by
 rw [IntKind.wrap_u64, WB_eq]
 refine ⟨(((x : Int) - c) % 18446744073709551616).toNat, ?_, ?_, ?_, ?_⟩ <;> omega
theorem fdiv_63 {z : Int} {n : Nat} (e : z = n) : z.fdiv (2 ^ min (Int.toNat 63) IntKind.u64.bits) = ((n / 9223372036854775808 : Nat) : Int) := by
 subst e
 show ((n : Int)).fdiv 9223372036854775808 = _
 rw [Int.fdiv_eq_ediv_of_nonneg _ (by decide)]
 omega
theorem sub_val {lo la lb : List Nat} {n c : Nat} (hlo : lo.length = n) (hla : la.length = n) (hlb : lb.length ≤ n) (hd : Dl WB lo) (hle : val WB lb ≤ val WB la) (h : val WB (lo.take n) + val WB (lb.take n) = val WB (la.take n) + WB ^ n * c) : val WB lo = val WB la - val WB lb := by
 rw [List.take_of_length_le (by omega), List.take_of_length_le hlb, List.take_of_length_le (by omega)] at h
 have hlt := val_lt hd
 rw [hlo] at hlt
 rcases Nat.eq_zero_or_pos c with hc | hc
 ·subst hc; omega
 ·have : WB ^ n * 1 ≤ WB ^ n * c := Nat.mul_le_mul_left _ hc
  omega
def cSub : NewC := cNat2 (fun la lb => lb.length ≤ la.length ∧ val WB lb ≤ val WB la) (· - ·)
set_option maxHeartbeats 8000000 in
theorem csSub : CSp Tryd.prog 51 cSub := csp_of (envM_ok 0) mixed (hnew_ok normC_ok (inl_ok (envM_ok 0) mixed noF_ok 0)) ⟨Tryd.func51, by kernel_rfl, by kernel_rfl⟩ fun args ros K hc => by
 obtain ⟨nla, offa, _, capa, ha, tya, csa, la, nlb, offb, _, capb, hb, tyb, csb, lb, rfl,rfl,rfl,rfl,hwa, hwb, da, db, sa, sb, hok, hc⟩ := hc
 refine ⟨fun ρ ρ' e => ?_, ?_⟩
 ·have e0 := e 0 (show 0 < 2 by decide)
  have e1 := e 1 (show 1 < 2 by decide)
  simp only [List.map, SV.den, C.den, C.cells, e0, e1]
 conv => whnf
 refine ⟨rfl, la.length, la.length, rfl,rfl,Nat.le_refl _, by omega, fun h2 => ?_⟩
 conv => whnf
 refine loop_st (G := {g : Nat × Nat × List Nat × (Nat → Value) // g.1 ≤ la.length ∧ g.2.1 ≤ 1 ∧ g.2.2.1.length = la.length ∧ Dl WB g.2.2.1 ∧ val WB (g.2.2.1.take g.1) + val WB (lb.take g.1) = val WB (la.take g.1) + WB ^ g.1 * g.2.1}) (fun g => [.c (.sli nla 0 offa la.length capa ha), .c (.sli nlb 1 offb lb.length capb hb), .c (.val (g.1.2.2.2 2)), .c (.val (g.1.2.2.2 3)), .c (.val (g.1.2.2.2 4)), .c (.sli false 2 0 la.length la.length h2), .c (.val (.int .u64 (g.1.2.1 : Nat))), .c (.val (g.1.2.2.2 7)), .c (.val (g.1.2.2.2 8)), .c (.val (g.1.2.2.2 9)), .c (.val (g.1.2.2.2 10)), .c (.val (g.1.2.2.2 11)), .c (.val (g.1.2.2.2 12)), .c (.int (la.length : Nat) ha.ir), .c (.int (g.1.1 : Nat) (ltI ha g.2.1)), .c (.val (g.1.2.2.2 15)), .c (.val (g.1.2.2.2 16)), .c (.val (g.1.2.2.2 17)), .c (.val (g.1.2.2.2 18)), .c (.val (g.1.2.2.2 19)), .c (.val (g.1.2.2.2 20)), .c (.val (g.1.2.2.2 21)), .c (.val (g.1.2.2.2 22)), .c (.val (g.1.2.2.2 23)), .c (.val (g.1.2.2.2 24)), .c (.val (g.1.2.2.2 25)), .c (.val (g.1.2.2.2 26)), .c (.val (g.1.2.2.2 27)), .c (.val (g.1.2.2.2 28)), .c (.val (g.1.2.2.2 29)), .c (.val (g.1.2.2.2 30)), .c (.val (g.1.2.2.2 31)), .c (.val (g.1.2.2.2 32)), .c (.val (g.1.2.2.2 33)), .c (.val (g.1.2.2.2 34)), .c (.val (g.1.2.2.2 35)), .c (.val (g.1.2.2.2 36)), .c (.val (g.1.2.2.2 37)), .c (.val (g.1.2.2.2 38)), .c (.val (g.1.2.2.2 39)), .c (.val (g.1.2.2.2 40)), .c (.val (g.1.2.2.2 41)), .c (.val (g.1.2.2.2 42))]) (fun g => [⟨tya, true, csa, 0⟩, ⟨tyb, true, csb, 0⟩, ⟨96, false, wsC g.1.2.2.1, 0⟩]) (fun g => la.length - g.1.1) ?_ ?_
 ·refine ⟨[0,1,2], [0,1,5,6,13,14], [0,1,2], fun vs => ?_⟩
  conv => whnf
  refine ⟨hwa.1, hwb.1, rep_pure _, ?_⟩
  conv => whnf
  refine ⟨_, _, ?_, ?_, ⟨(0, 0, List.replicate la.length 0, vs), Nat.zero_le _, Nat.zero_le _, List.length_replicate, Dl.replicate WB_pos _, by simp [val]⟩, rfl, rfl⟩
  ·exact ⟨fun _=>rfl,fun _=>rfl,fun _=>rfl,fun _=>rfl,fun _=>rfl,fun _=>rfl,fun _=>rfl,fun _=>rfl,fun _=>rfl,fun _=>rfl,fun _=>rfl,fun _=>rfl,stm _⟩
  ·exact ⟨⟨rfl,rfl,rfl, fun _=>rfl⟩, ⟨rfl,rfl,rfl, fun _=>rfl⟩, ⟨rfl,rfl,Nat.sub_self _, fun ρ => by rw [← wsC_rep]; rfl⟩, trivial⟩
 ·rintro ⟨⟨k, c, lo, vs⟩, hk, hc1, hlen, hdl, hv⟩
  have hk : k ≤ la.length := hk
  have hc1 : c ≤ 1 := hc1
  have hlen : lo.length = la.length := hlen
  have hdl : Dl WB lo := hdl
  have hv : val WB (lo.take k) + val WB (lb.take k) = val WB (la.take k) + WB ^ k * c := hv
  conv => whnf
  refine bcase_intro (fun hlt => ?_) (fun hge => ?_)
  ·have hlt : k < la.length := n_lt hlt
   have hklo : k < lo.length := by omega
   have hx32 : la[k] < 4294967296 := da.get k hlt
   conv => whnf
   conv =>
    arg 2
    tactic' =>
     apply eff_index_sli (ho := ?how1) (hT := ?hTw1) (hx := ?hxw1) (hk := ?hkw1) (hlt := ?hltw1)
     case how1 => rfl
     case hTw1 => rfl
     case hxw1 => rfl
     case hkw1 => rfl
     case hltw1 => exact hlt
   conv => whnf
   conv =>
    arg 2
    tactic' =>
     apply eff_load_sub (m := [wC la[k]]) (ho := ?how2) (hT := ?hTw2) (hx := ?hxw2) (hb := ?hbw2) (hm := ?hmw2) (hv := ?hvw2)
     case how2 => rfl
     case hTw2 => rfl
     case hxw2 => rfl
     case hbw2 => rfl
     case hmw2 => exact hwa.get hlt
     case hvw2 => rfl
   conv => whnf
   refine bcase_intro (fun hly => ?_) (fun hly => ?_)
   ·have hly : k < lb.length := n_lt hly
    have hy32 : lb[k] < 4294967296 := db.get k hly
    obtain ⟨s, es, hs, hs1, hs2⟩ := sub_wordE hx32 hc1 hy32
    conv => whnf
    conv =>
     arg 2
     tactic' =>
      apply eff_index_sli (ho := ?how3) (hT := ?hTw3) (hx := ?hxw3) (hk := ?hkw3) (hlt := ?hltw3)
      case how3 => rfl
      case hTw3 => rfl
      case hxw3 => rfl
      case hkw3 => rfl
      case hltw3 => exact hly
    conv => whnf
    conv =>
     arg 2
     tactic' =>
      apply eff_load_sub (m := [wC lb[k]]) (ho := ?how4) (hT := ?hTw4) (hx := ?hxw4) (hb := ?hbw4) (hm := ?hmw4) (hv := ?hvw4)
      case how4 => rfl
      case hTw4 => rfl
      case hxw4 => rfl
      case hbw4 => rfl
      case hmw4 => exact hwb.get hly
      case hvw4 => rfl
    conv => whnf
    conv =>
     arg 2
     tactic' =>
      apply eff_index_sli (ho := ?how5) (hT := ?hTw5) (hx := ?hxw5) (hk := ?hkw5) (hlt := ?hltw5)
      case how5 => rfl
      case hTw5 => rfl
      case hxw5 => rfl
      case hkw5 => rfl
      case hltw5 => exact hlt
    conv => whnf
    have e1 := and_mask _ s es hs
    conv =>
     arg 2
     tactic' =>
      apply eff_store_at (l := [wC (s % WB)]) (cs := wsC (lo.set k (s % WB))) (ho := ?how6) (hT := ?hTw6) (hx := ?hxw6) (hy := ?hyw6) (hl := ?hlw6) (hb := ?hbw6) (hro := ?hrow6) (hs := ?hsw6)
      case how6 => rfl
      case hTw6 => rfl
      case hxw6 => rfl
      case hyw6 => exact congrArg (fun z => some [C.val (.int .u64 z)]) e1
      case hlw6 => exact ⟨rfl, rfl⟩
      case hbw6 => rfl
      case hrow6 => rfl
      case hsw6 => exact splice_ws hklo _
    conv => whnf
    rw [forceL_eq]
    conv => whnf
    refine ⟨[0,1,2], [0,1,5,6,13,14], [0,1,2], fun vs2 => ?_⟩
    conv => whnf
    refine ⟨hwa.1, hwb.1, wsC_pure _, ?_⟩
    conv => whnf
    refine ⟨_, _, ?_, ?_, ⟨(k + 1, s / 9223372036854775808, lo.set k (s % WB), vs2), hlt, hs1, by rw [List.length_set]; exact hlen, hdl.set _ (Nat.mod_lt _ WB_pos), sub_step hklo (getD_get hlt) (getD_get hly) hs2 hv⟩, (by omega : la.length - (k + 1) < la.length - k), rfl, rfl⟩
    ·exact ⟨fun _=>rfl,fun _=>rfl,fun _=>rfl,fun _=>rfl,fun _=>rfl,fun _=>rfl,fun _ => congrArg (Value.int .u64) (fdiv_63 es), fun _=>rfl,fun _=>rfl,fun _=>rfl,fun _=>rfl,fun _=>rfl,fun _=>rfl,fun _=>rfl,sint_eq (wrap_add1 hlt ha.ir) _ _, stm _⟩
    ·exact ⟨⟨rfl,rfl,rfl, fun _=>rfl⟩, ⟨rfl,rfl,rfl, fun _=>rfl⟩, ⟨rfl,rfl,rfl, fun _=>rfl⟩, trivial⟩
   ·have hly : lb.length ≤ k := n_ge hly
    have hy0 : lb[k]?.getD 0 = 0 := by rw [List.getElem?_eq_none hly]; rfl
    obtain ⟨s, es, hs, hs1, hs2⟩ := sub_wordE0 hx32 hc1
    conv => whnf
    conv =>
     arg 2
     tactic' =>
      apply eff_index_sli (ho := ?how7) (hT := ?hTw7) (hx := ?hxw7) (hk := ?hkw7) (hlt := ?hltw7)
      case how7 => rfl
      case hTw7 => rfl
      case hxw7 => rfl
      case hkw7 => rfl
      case hltw7 => exact hlt
    conv => whnf
    have e1 := and_mask _ s es hs
    conv =>
     arg 2
     tactic' =>
      apply eff_store_at (l := [wC (s % WB)]) (cs := wsC (lo.set k (s % WB))) (ho := ?how8) (hT := ?hTw8) (hx := ?hxw8) (hy := ?hyw8) (hl := ?hlw8) (hb := ?hbw8) (hro := ?hrow8) (hs := ?hsw8)
      case how8 => rfl
      case hTw8 => rfl
      case hxw8 => rfl
      case hyw8 => exact congrArg (fun z => some [C.val (.int .u64 z)]) e1
      case hlw8 => exact ⟨rfl, rfl⟩
      case hbw8 => rfl
      case hrow8 => rfl
      case hsw8 => exact splice_ws hklo _
    conv => whnf
    rw [forceL_eq]
    conv => whnf
    refine ⟨[0,1,2], [0,1,5,6,13,14], [0,1,2], fun vs2 => ?_⟩
    conv => whnf
    refine ⟨hwa.1, hwb.1, wsC_pure _, ?_⟩
    conv => whnf
    refine ⟨_, _, ?_, ?_, ⟨(k + 1, s / 9223372036854775808, lo.set k (s % WB), vs2), hlt, hs1, by rw [List.length_set]; exact hlen, hdl.set _ (Nat.mod_lt _ WB_pos), sub_step hklo (getD_get hlt) hy0 hs2 hv⟩, (by omega : la.length - (k + 1) < la.length - k), rfl, rfl⟩
    ·exact ⟨fun _=>rfl,fun _=>rfl,fun _=>rfl,fun _=>rfl,fun _=>rfl,fun _=>rfl,fun _ => congrArg (Value.int .u64) (fdiv_63 es), fun _=>rfl,fun _=>rfl,fun _=>rfl,fun _=>rfl,fun _=>rfl,fun _=>rfl,fun _=>rfl,sint_eq (wrap_add1 hlt ha.ir) _ _, stm _⟩
    ·exact ⟨⟨rfl,rfl,rfl, fun _=>rfl⟩, ⟨rfl,rfl,rfl, fun _=>rfl⟩, ⟨rfl,rfl,rfl, fun _=>rfl⟩, trivial⟩
  ·have hke : k = la.length := Nat.le_antisymm hk (n_ge hge)
   subst hke
   conv => whnf
   refine ⟨⟨wsC_pure _, trivial⟩, ⟨_, _, _, _, _, _, _, lo, rfl,rfl,hlen, ⟨wsC_pure _, [], [], by rw [List.append_nil]; rfl, rfl⟩, fun h3 => ?_⟩⟩
   conv => whnf
   refine ⟨[0,1,2], [0,1,2], fun vs2 => ?_⟩
   conv => whnf
   refine ⟨hwa.1, hwb.1, wsC_pure _, ?_⟩
   conv => whnf
   refine ⟨_, [(OW.ofNorm lo la.length h3 (Nat.le_of_eq hlen)).blk], rfl, ⟨⟨rfl,rfl,rfl, fun _=>rfl⟩, ⟨rfl,rfl,rfl, fun _=>rfl⟩, ⟨rfl,rfl,?_, fun ρ => ?_⟩, trivial⟩, ⟨OW.new _, trivial⟩, _, fun ρ => OW.ofNorm_sl 2 ρ, hc _ rfl ?_⟩
   ·rw [OW.ofNorm_blk]; show 0 = la.length - lo.length; omega
   ·rw [OW.ofNorm_blk]
   ·rw [OW.ofNorm_l hdl]
    exact congrArg (dig WB) (sub_val hlen rfl hok.1 hdl hok.2 hv)
def cmpE (m n : Nat) : Int := if m < n then -1 else if n < m then 1 else 0
theorem cmpE_ir (m n : Nat) : IR (cmpE m n) := by unfold cmpE; split; decide; split <;> decide
theorem cmpE_self (m : Nat) : cmpE m m = 0 := by unfold cmpE; rw [if_neg (by omega), if_neg (by omega)]
theorem cmpE_lt {m n : Nat} (h : m < n) : cmpE m n = -1 := by unfold cmpE; rw [if_pos h]
theorem cmpE_gt {m n : Nat} (h : n < m) : cmpE m n = 1 := by unfold cmpE; rw [if_neg (by omega), if_pos h]
def cCmp : NewC := fun args ros K => ∃ nla offa lena capa ha tya csa m nlb offb lenb capb hb tyb csb n, args = [.c (.sli nla 0 offa lena capa ha), .c (.sli nlb 1 offb lenb capb hb)] ∧ ros = [⟨tya, true, csa, 0⟩, ⟨tyb, true, csb, 0⟩] ∧
 (dig WB m).length = lena ∧ (dig WB n).length = lenb ∧ WAt csa offa (dig WB m) ∧ WAt csb offb (dig WB n) ∧ K (.c (.int (cmpE m n) (cmpE_ir m n))) []
theorem cmp_res {m n : Nat} {z : Int} {h : IR z} (e : cmpE m n = z) : SameV (.c (.int z h)) (.c (.int (cmpE m n) (cmpE_ir m n))) := fun ρ => by subst e; rfl
theorem i_ge {k : Nat} (h : decide ((0 : Int) ≤ (k : Int) - 1) = true) : 0 < k := by have := of_decide_eq_true h; omega
theorem i_lt {k : Nat} (h : decide ((0 : Int) ≤ (k : Int) - 1) = false) : k = 0 := by have := of_decide_eq_false h; omega
theorem irp {nl : Bool} {k n cap : Nat} (h : SliOk nl n cap) (hk : k ≤ n) : IR ((k : Int) - 1) := by have := h.ir; unfold IR at *; omega
theorem cmp_dec {k : Nat} (h : 0 < k) (hi : IR k) : IntKind.i64.wrap ((k : Int) - 1 - 1) = ((k - 1 : Nat) : Int) - 1 := by
 rw [wrap_id (by unfold IR at *; omega)]; omega
theorem pred_nat {k : Nat} (h : 0 < k) : ((k : Int) - 1) = ((k - 1 : Nat) : Int) := by omega
set_option maxHeartbeats 8000000 in
theorem csCmp : CSp Tryd.prog 50 cCmp := csp_of (envM_ok 0) mixed (inl_ok (envM_ok 0) mixed noF_ok 0) ⟨Tryd.func50, by kernel_rfl, by kernel_rfl⟩ fun args ros K hc => by
 obtain ⟨nla, offa, _, capa, ha, tya, csa, m, nlb, offb, _, capb, hb, tyb, csb, n, rfl,rfl,rfl,rfl,hwa, hwb, hc⟩ := hc
 refine ⟨fun ρ ρ' e => ?_, ?_⟩
 ·have e0 := e 0 (show 0 < 2 by decide)
  have e1 := e 1 (show 1 < 2 by decide)
  simp only [List.map, SV.den, C.den, C.cells, e0, e1]
 conv => whnf
 refine bcase_intro (fun h1 => ?_) (fun h1 => ?_)
 ·have hlt : m < n := lt_of_len_lt WB_two (n_lt h1)
  conv => whnf
  refine ⟨[0,1], [0,1], fun vs9 => ?_⟩
  conv => whnf
  refine ⟨hwa.1, hwb.1, ?_⟩
  conv => whnf
  exact ⟨_, [], rfl, ⟨⟨rfl,rfl,rfl, fun _=>rfl⟩, ⟨rfl,rfl,rfl, fun _=>rfl⟩, trivial⟩, trivial, _, cmp_res (cmpE_lt hlt), hc⟩
 ·have h1 : (dig WB n).length ≤ (dig WB m).length := n_ge h1
  conv => whnf
  refine bcase_intro (fun h2 => ?_) (fun h2 => ?_)
  ·have hlt : n < m := lt_of_len_lt WB_two (n_lt h2)
   conv => whnf
   refine ⟨[0,1], [0,1], fun vs9 => ?_⟩
   conv => whnf
   refine ⟨hwa.1, hwb.1, ?_⟩
   conv => whnf
   exact ⟨_, [], rfl, ⟨⟨rfl,rfl,rfl, fun _=>rfl⟩, ⟨rfl,rfl,rfl, fun _=>rfl⟩, trivial⟩, trivial, _, cmp_res (cmpE_gt hlt), hc⟩
  ·have h2 : (dig WB m).length ≤ (dig WB n).length := n_ge h2
   have hL : (dig WB m).length = (dig WB n).length := Nat.le_antisymm h2 h1
   conv => whnf
   refine loop_st (G := {k : Nat // k ≤ (dig WB m).length ∧ (dig WB m).drop k = (dig WB n).drop k} × (Nat → Value)) (fun g => [.c (.sli nla 0 offa (dig WB m).length capa ha), .c (.sli nlb 1 offb (dig WB n).length capb hb), .c (.val (g.2 2)), .c (.val (g.2 3)), .c (.val (g.2 4)), .c (.int ((g.1.1 : Nat) - 1 : Int) (irp ha g.1.2.1)), .c (.val (g.2 6)), .c (.val (g.2 7)), .c (.val (g.2 8)), .c (.val (g.2 9)), .c (.val (g.2 10)), .c (.val (g.2 11)), .c (.val (g.2 12)), .c (.val (g.2 13)), .c (.val (g.2 14)), .c (.val (g.2 15)), .c (.val (g.2 16)), .c (.val (g.2 17)), .c (.val (g.2 18)), .c (.val (g.2 19)), .c (.val (g.2 20)), .c (.val (g.2 21)), .c (.val (g.2 22)), .c (.val (g.2 23)), .c (.val (g.2 24)), .c (.val (g.2 25)), .c (.val (g.2 26)), .c (.val (g.2 27)), .c (.val (g.2 28)), .c (.val (g.2 29)), .c (.val (g.2 30)), .c (.val (g.2 31)), .c (.val (g.2 32)), .c (.val (g.2 33)), .c (.val (g.2 34)), .c (.val (g.2 35)), .c (.val (g.2 36)), .c (.val (g.2 37)), .c (.val (g.2 38)), .c (.val (g.2 39)), .c (.val (g.2 40)), .c (.val (g.2 41)), .c (.val (g.2 42)), .c (.val (g.2 43)), .c (.val (g.2 44))]) (fun _ => [⟨tya, true, csa, 0⟩, ⟨tyb, true, csb, 0⟩]) (fun g => g.1.1) ?_ ?_
   ·refine ⟨[0,1], [0,1,5], [0,1], fun vs => ?_⟩
    conv => whnf
    refine ⟨hwa.1, hwb.1, ?_⟩
    conv => whnf
    refine ⟨_, _, ?_, ?_, (⟨(dig WB m).length, Nat.le_refl _, by rw [List.drop_of_length_le (Nat.le_refl _), List.drop_of_length_le (by omega)]⟩, vs), rfl, rfl⟩
    ·exact ⟨fun _=>rfl,fun _=>rfl,fun _=>rfl,fun _=>rfl,fun _=>rfl,sint_eq (wrap_id (irp ha (Nat.le_refl _))) _ _, fun _=>rfl,fun _=>rfl,fun _=>rfl,fun _=>rfl,fun _=>rfl,fun _=>rfl,stm _⟩
    ·exact ⟨⟨rfl,rfl,rfl, fun _=>rfl⟩, ⟨rfl,rfl,rfl, fun _=>rfl⟩, trivial⟩
   ·rintro ⟨⟨k, hk, hd⟩, vs⟩
    conv => whnf
    refine bcase_intro (fun h0 => ?_) (fun h0 => ?_)
    ·have h0 : 0 < k := i_ge h0
     have hka : k - 1 < (dig WB m).length := by omega
     have hkb : k - 1 < (dig WB n).length := by omega
     have hirk : IR ((k - 1 : Nat) : Int) := ltI ha (Nat.le_trans (Nat.sub_le k 1) hk)
     conv => whnf
     conv =>
      arg 2
      tactic' =>
       apply eff_index_sli (hi := hirk) (ho := ?how9) (hT := ?hTw9) (hx := ?hxw9) (hk := ?hkw9) (hlt := ?hltw9)
       case how9 => rfl
       case hTw9 => rfl
       case hxw9 => rfl
       case hkw9 => exact cint (pred_nat h0) hirk
       case hltw9 => exact hka
     conv => whnf
     conv =>
      arg 2
      tactic' =>
       apply eff_load_sub (m := [wC (dig WB m)[k - 1]]) (ho := ?how10) (hT := ?hTw10) (hx := ?hxw10) (hb := ?hbw10) (hm := ?hmw10) (hv := ?hvw10)
       case how10 => rfl
       case hTw10 => rfl
       case hxw10 => rfl
       case hbw10 => rfl
       case hmw10 => exact hwa.get hka
       case hvw10 => rfl
     conv => whnf
     conv =>
      arg 2
      tactic' =>
       apply eff_index_sli (hi := hirk) (ho := ?how11) (hT := ?hTw11) (hx := ?hxw11) (hk := ?hkw11) (hlt := ?hltw11)
       case how11 => rfl
       case hTw11 => rfl
       case hxw11 => rfl
       case hkw11 => exact cint (pred_nat h0) hirk
       case hltw11 => exact hkb
     conv => whnf
     conv =>
      arg 2
      tactic' =>
       apply eff_load_sub (m := [wC (dig WB n)[k - 1]]) (ho := ?how12) (hT := ?hTw12) (hx := ?hxw12) (hb := ?hbw12) (hm := ?hmw12) (hv := ?hvw12)
       case how12 => rfl
       case hTw12 => rfl
       case hxw12 => rfl
       case hbw12 => rfl
       case hmw12 => exact hwb.get hkb
       case hvw12 => rfl
     conv => whnf
     refine bcase_intro (fun hab => ?_) (fun hab => ?_)
     ·have hlt : m < n := by
       have h := val_lt_of_getD (dig_Dl WB_two m) hL h0 hk hd (by rw [getD_get hka, getD_get hkb]; exact n_lt hab)
       rwa [val_dig WB_two, val_dig WB_two] at h
      conv => whnf
      refine ⟨[0,1], [0,1], fun vs9 => ?_⟩
      conv => whnf
      refine ⟨hwa.1, hwb.1, ?_⟩
      conv => whnf
      exact ⟨_, [], rfl, ⟨⟨rfl,rfl,rfl, fun _=>rfl⟩, ⟨rfl,rfl,rfl, fun _=>rfl⟩, trivial⟩, trivial, _, cmp_res (cmpE_lt hlt), hc⟩
     ·have hab : (dig WB n)[k - 1] ≤ (dig WB m)[k - 1] := n_ge hab
      conv => whnf
      conv =>
       arg 2
       tactic' =>
        apply eff_index_sli (hi := hirk) (ho := ?how9) (hT := ?hTw9) (hx := ?hxw9) (hk := ?hkw9) (hlt := ?hltw9)
        case how9 => rfl
        case hTw9 => rfl
        case hxw9 => rfl
        case hkw9 => exact cint (pred_nat h0) hirk
        case hltw9 => exact hka
      conv => whnf
      conv =>
       arg 2
       tactic' =>
        apply eff_load_sub (m := [wC (dig WB m)[k - 1]]) (ho := ?how10) (hT := ?hTw10) (hx := ?hxw10) (hb := ?hbw10) (hm := ?hmw10) (hv := ?hvw10)
        case how10 => rfl
        case hTw10 => rfl
        case hxw10 => rfl
        case hbw10 => rfl
        case hmw10 => exact hwa.get hka
        case hvw10 => rfl
      conv => whnf
      conv =>
       arg 2
       tactic' =>
        apply eff_index_sli (hi := hirk) (ho := ?how11) (hT := ?hTw11) (hx := ?hxw11) (hk := ?hkw11) (hlt := ?hltw11)
        case how11 => rfl
        case hTw11 => rfl
        case hxw11 => rfl
        case hkw11 => exact cint (pred_nat h0) hirk
        case hltw11 => exact hkb
      conv => whnf
      conv =>
       arg 2
       tactic' =>
        apply eff_load_sub (m := [wC (dig WB n)[k - 1]]) (ho := ?how12) (hT := ?hTw12) (hx := ?hxw12) (hb := ?hbw12) (hm := ?hmw12) (hv := ?hvw12)
        case how12 => rfl
        case hTw12 => rfl
        case hxw12 => rfl
        case hbw12 => rfl
        case hmw12 => exact hwb.get hkb
        case hvw12 => rfl
      conv => whnf
      refine bcase_intro (fun hba => ?_) (fun hba => ?_)
      ·have hlt : n < m := by
        have h := val_lt_of_getD (dig_Dl WB_two n) hL.symm h0 (Nat.le_trans hk (Nat.le_of_eq hL)) hd.symm (by rw [getD_get hka, getD_get hkb]; exact n_lt hba)
        rwa [val_dig WB_two, val_dig WB_two] at h
       conv => whnf
       refine ⟨[0,1], [0,1], fun vs9 => ?_⟩
       conv => whnf
       refine ⟨hwa.1, hwb.1, ?_⟩
       conv => whnf
       exact ⟨_, [], rfl, ⟨⟨rfl,rfl,rfl, fun _=>rfl⟩, ⟨rfl,rfl,rfl, fun _=>rfl⟩, trivial⟩, trivial, _, cmp_res (cmpE_gt hlt), hc⟩
      ·have hba : (dig WB m)[k - 1] ≤ (dig WB n)[k - 1] := n_ge hba
       conv => whnf
       refine ⟨[0,1], [0,1,5], [0,1], fun vs3 => ?_⟩
       conv => whnf
       refine ⟨hwa.1, hwb.1, ?_⟩
       conv => whnf
       refine ⟨_, _, ?_, ?_, (⟨k - 1, Nat.le_trans (Nat.sub_le k 1) hk, drop_pred hL h0 hk hd (by rw [getD_get hka, getD_get hkb]; exact Nat.le_antisymm hba hab)⟩, vs3), Nat.sub_lt h0 Nat.one_pos, rfl, rfl⟩
       ·exact ⟨fun _=>rfl,fun _=>rfl,fun _=>rfl,fun _=>rfl,fun _=>rfl,sint_eq (cmp_dec h0 (ltI ha hk)) _ _, fun _=>rfl,fun _=>rfl,fun _=>rfl,fun _=>rfl,fun _=>rfl,fun _=>rfl,stm _⟩
       ·exact ⟨⟨rfl,rfl,rfl, fun _=>rfl⟩, ⟨rfl,rfl,rfl, fun _=>rfl⟩, trivial⟩
    ·have h0 : k = 0 := i_lt h0
     subst h0
     have e : m = n := by
      rw [List.drop_zero, List.drop_zero] at hd
      rw [← val_dig WB_two m, hd, val_dig WB_two]
     conv => whnf
     refine ⟨[0,1], [0,1], fun vs9 => ?_⟩
     conv => whnf
     refine ⟨hwa.1, hwb.1, ?_⟩
     conv => whnf
     exact ⟨_, [], rfl, ⟨⟨rfl,rfl,rfl, fun _=>rfl⟩, ⟨rfl,rfl,rfl, fun _=>rfl⟩, trivial⟩, trivial, _, cmp_res (by rw [e]; exact cmpE_self n), hc⟩
end Go.Proofs.YthmdmbpecgakkaaDoor

namespace Go.Proofs.YthmdmbpecgakkaaDoor
open Go.RowKit
set_option maxRecDepth 100000

theorem mul_wordE {x y u c : Nat} (hx : x < 4294967296) (hy : y < 4294967296) (hu : u < 4294967296) (hc : c < 4294967296) : x * y < 18446744073709551616 ∧ u + x * y + c < 18446744073709551616 := by
 have h : x * y ≤ 4294967295 * 4294967295 := Nat.mul_le_mul (by omega) (by omega)
 omega
theorem mul_raw {x y u c : Nat} (h1 : x * y < 18446744073709551616) (h2 : u + x * y + c < 18446744073709551616) : IntKind.u64.wrap (IntKind.u64.wrap ((u : Int) + IntKind.u64.wrap ((x : Int) * (y : Int))) + (c : Int)) = ((u + x * y + c : Nat) : Int) := by
 have e1 : IntKind.u64.wrap ((x : Int) * (y : Int)) = ((x * y : Nat) : Int) := u64_nat (by rw [Int.natCast_mul]) h1
 rw [e1]
 have e2 : IntKind.u64.wrap ((u : Int) + ((x * y : Nat) : Int)) = ((u + x * y : Nat) : Int) := u64_nat (by rw [Int.natCast_add]) (by omega)
 rw [e2]
 exact u64_nat (by rw [Int.natCast_add (u + x * y) c]) h2
def MulO (la lb lo : List Nat) (i : Nat) : Prop := lo.length = la.length + lb.length ∧ Dl WB lo ∧ val WB lo = val WB (la.take i) * val WB lb ∧ ∀ j, i + lb.length ≤ j → lo[j]?.getD 0 = 0
def MulI (la lb lo : List Nat) (i x k c : Nat) : Prop := lo.length = la.length + lb.length ∧ Dl WB lo ∧ c < 4294967296 ∧ val WB lo + WB ^ (i + k) * c = val WB (la.take i) * val WB lb + x * val WB (lb.take k) * WB ^ i ∧ ∀ j, i + lb.length ≤ j → lo[j]?.getD 0 = 0
theorem MulI.start {la lb lo : List Nat} {i x : Nat} (h : MulO la lb lo i) : MulI la lb lo i x 0 0 := ⟨h.1, h.2.1, by omega, by have := h.2.2.1; simp [val, this], h.2.2.2⟩
theorem MulI.step {la lb lo : List Nat} {i x k c : Nat} (h : MulI la lb lo i x k c) (hk : k < lb.length) (_ : i < la.length) (hx : x < 4294967296) (hb : Dl WB lb) {hj : i + k < lo.length} :
  MulI la lb (lo.set (i + k) ((lo[i + k] + x * lb[k] + c) % WB)) i x (k + 1) ((lo[i + k] + x * lb[k] + c) / WB) ∧ x * lb[k] < 18446744073709551616 ∧ lo[i + k] + x * lb[k] + c < 18446744073709551616 := by
 obtain ⟨h1, h2, h3, h4, h5⟩ := h
 have hw := mul_wordE hx (hb.get k hk) (h2.get (i + k) hj) h3
 have hm := mul_step hj h4
 rw [getD_get hj, getD_get hk] at hm
 exact ⟨⟨by rw [List.length_set]; exact h1, h2.set _ (Nat.mod_lt _ WB_pos), by rw [WB_eq]; have := hw.2; omega, hm, fun j hjj => by rw [List.getElem?_set_ne (by omega)]; exact h5 j hjj⟩, hw⟩
theorem MulI.last {la lb lo : List Nat} {i c : Nat} (hi : i < la.length) (h : MulI la lb lo i la[i] lb.length c) : MulO la lb (lo.set (i + lb.length) c) (i + 1) := by
 obtain ⟨h1, h2, h3, h4, h5⟩ := h
 refine ⟨by rw [List.length_set]; exact h1, h2.set _ (by rw [WB_eq]; exact h3), mul_row (a := la) (by omega) (h5 _ (Nat.le_refl _)) (by rw [getD_get hi]; exact h4), fun j hj => ?_⟩
 rw [List.getElem?_set_ne (by omega)]; exact h5 j (by omega)
theorem wrap_sum {a b n : Nat} (h : a + b ≤ n) (hn : n ≤ 1000000000) : IntKind.i64.wrap ((a : Int) + (b : Int)) = ((a + b : Nat) : Int) := by
 rw [wrap_id (by unfold IR; omega)]; omega
theorem ir_sum {n : Nat} (hn : n ≤ 1000000000) : IR (n : Int) := by unfold IR; omega
def cMul : NewC := cNat2 (fun _ _ => True) (· * ·)
set_option maxHeartbeats 8000000 in
theorem csMul : CSp Tryd.prog 42 cMul := csp_of (envM_ok 0) mixed (hnew_ok normC_ok (inl_ok (envM_ok 0) mixed noF_ok 0)) ⟨Tryd.func42, by kernel_rfl, by kernel_rfl⟩ fun args ros K hc => by
 obtain ⟨nla, offa, _, capa, ha, tya, csa, la, nlb, offb, _, capb, hb, tyb, csb, lb, rfl,rfl,rfl,rfl,hwa, hwb, da, db, sa, sb, -, hc⟩ := hc
 refine ⟨fun ρ ρ' e => ?_, ?_⟩
 ·have e0 := e 0 (show 0 < 2 by decide)
  have e1 := e 1 (show 1 < 2 by decide)
  simp only [List.map, SV.den, C.den, C.cells, e0, e1]
 conv => whnf
 have hsum : la.length + lb.length ≤ 1000000000 := by omega
 have hadd : IntKind.i64.wrap ((la.length : Int) + (lb.length : Int)) = ((la.length + lb.length : Nat) : Int) := wrap_sum (Nat.le_refl _) hsum
 refine ⟨rfl, la.length + lb.length, la.length + lb.length, hadd, hadd, Nat.le_refl _, by omega, fun h2 => ?_⟩
 conv => whnf
 refine loop_st (G := {g : Nat × List Nat × (Nat → Value) // g.1 ≤ la.length ∧ MulO la lb g.2.1 g.1}) (fun g => [.c (.sli nla 0 offa la.length capa ha), .c (.sli nlb 1 offb lb.length capb hb), .c (.val (g.1.2.2 2)), .c (.val (g.1.2.2 3)), .c (.val (g.1.2.2 4)), .c (.sli false 2 0 (la.length + lb.length) (la.length + lb.length) h2), .c (.val (g.1.2.2 6)), .c (.val (g.1.2.2 7)), .c (.val (g.1.2.2 8)), .c (.val (g.1.2.2 9)), .c (.val (g.1.2.2 10)), .c (.val (g.1.2.2 11)), .c (.val (g.1.2.2 12)), .c (.val (g.1.2.2 13)), .c (.val (g.1.2.2 14)), .c (.val (g.1.2.2 15)), .c (.val (g.1.2.2 16)), .c (.val (g.1.2.2 17)), .c (.sli nla 0 offa la.length capa ha), .c (.int (la.length : Nat) ha.ir), .c (.int (g.1.1 : Nat) (ltI ha g.2.1)), .c (.val (g.1.2.2 21)), .c (.val (g.1.2.2 22)), .c (.val (g.1.2.2 23)), .c (.val (g.1.2.2 24)), .c (.val (g.1.2.2 25)), .c (.val (g.1.2.2 26)), .c (.val (g.1.2.2 27)), .c (.val (g.1.2.2 28)), .c (.val (g.1.2.2 29)), .c (.val (g.1.2.2 30)), .c (.val (g.1.2.2 31)), .c (.val (g.1.2.2 32)), .c (.val (g.1.2.2 33)), .c (.val (g.1.2.2 34)), .c (.val (g.1.2.2 35)), .c (.val (g.1.2.2 36)), .c (.val (g.1.2.2 37)), .c (.val (g.1.2.2 38)), .c (.val (g.1.2.2 39)), .c (.val (g.1.2.2 40)), .c (.val (g.1.2.2 41)), .c (.val (g.1.2.2 42)), .c (.val (g.1.2.2 43)), .c (.val (g.1.2.2 44)), .c (.val (g.1.2.2 45)), .c (.val (g.1.2.2 46)), .c (.val (g.1.2.2 47)), .c (.val (g.1.2.2 48)), .c (.val (g.1.2.2 49)), .c (.val (g.1.2.2 50)), .c (.val (g.1.2.2 51)), .c (.val (g.1.2.2 52)), .c (.val (g.1.2.2 53)), .c (.val (g.1.2.2 54)), .c (.val (g.1.2.2 55)), .c (.val (g.1.2.2 56)), .c (.val (g.1.2.2 57)), .c (.val (g.1.2.2 58)), .c (.val (g.1.2.2 59)), .c (.val (g.1.2.2 60)), .c (.val (g.1.2.2 61)), .c (.val (g.1.2.2 62)), .c (.val (g.1.2.2 63))]) (fun g => [⟨tya, true, csa, 0⟩, ⟨tyb, true, csb, 0⟩, ⟨96, false, wsC g.1.2.1, 0⟩]) (fun g => la.length - g.1.1) ?_ ?_
 ·refine ⟨[0,1,2], [0,1,5,18,19,20], [0,1,2], fun vs => ?_⟩
  conv => whnf
  refine ⟨hwa.1, hwb.1, rep_pure _, ?_⟩
  conv => whnf
  refine ⟨_, _, ?_, ?_, ⟨(0, List.replicate (la.length + lb.length) 0, vs), Nat.zero_le _, List.length_replicate, Dl.replicate WB_pos _, by simp [val, val_replicate], fun j _ => by rw [List.getElem?_replicate]; split <;> rfl⟩, rfl, rfl⟩
  ·exact ⟨fun _=>rfl,fun _=>rfl,fun _=>rfl,fun _=>rfl,fun _=>rfl,fun _=>rfl,fun _=>rfl,fun _=>rfl,fun _=>rfl,fun _=>rfl,fun _=>rfl,fun _=>rfl,stm _⟩
  ·exact ⟨⟨rfl,rfl,rfl, fun _=>rfl⟩, ⟨rfl,rfl,rfl, fun _=>rfl⟩, ⟨rfl,rfl,Nat.sub_self _, fun ρ => by rw [← wsC_rep]; rfl⟩, trivial⟩
 ·rintro ⟨⟨i, lo, vs⟩, hi, ho⟩
  have hi : i ≤ la.length := hi
  have ho : MulO la lb lo i := ho
  conv => whnf
  refine bcase_intro (fun hlt => ?_) (fun hge => ?_)
  ·have hlt : i < la.length := n_lt hlt
   have hx32 : la[i] < 4294967296 := da.get i hlt
   conv => whnf
   conv =>
    arg 2
    tactic' =>
     apply eff_index_sli (ho := ?how1) (hT := ?hTw1) (hx := ?hxw1) (hk := ?hkw1) (hlt := ?hltw1)
     case how1 => rfl
     case hTw1 => rfl
     case hxw1 => rfl
     case hkw1 => rfl
     case hltw1 => exact hlt
   conv => whnf
   conv =>
    arg 2
    tactic' =>
     apply eff_load_sub (m := [wC la[i]]) (ho := ?how2) (hT := ?hTw2) (hx := ?hxw2) (hb := ?hbw2) (hm := ?hmw2) (hv := ?hvw2)
     case how2 => rfl
     case hTw2 => rfl
     case hxw2 => rfl
     case hbw2 => rfl
     case hmw2 => exact hwa.get hlt
     case hvw2 => rfl
   conv => whnf
   refine loop_st (G := {g : Nat × Nat × List Nat × (Nat → Value) // g.1 ≤ lb.length ∧ MulI la lb g.2.2.1 i (la[i]'hlt) g.1 g.2.1}) (fun g => [.c (.sli nla 0 offa la.length capa ha), .c (.sli nlb 1 offb lb.length capb hb), .c (.val (g.1.2.2.2 2)), .c (.val (g.1.2.2.2 3)), .c (.val (g.1.2.2.2 4)), .c (.sli false 2 0 (la.length + lb.length) (la.length + lb.length) h2), .c (.int (i : Nat) (ltI ha hi)), .c (.val (.int .u64 ((la[i]'hlt) : Nat))), .c (.val (.int .u64 (g.1.2.1 : Nat))), .c (.val (g.1.2.2.2 9)), .c (.val (g.1.2.2.2 10)), .c (.val (g.1.2.2.2 11)), .c (.val (g.1.2.2.2 12)), .c (.val (g.1.2.2.2 13)), .c (.val (g.1.2.2.2 14)), .c (.val (g.1.2.2.2 15)), .c (.val (g.1.2.2.2 16)), .c (.val (g.1.2.2.2 17)), .c (.sli nla 0 offa la.length capa ha), .c (.int (la.length : Nat) ha.ir), .c (.int (i : Nat) (ltI ha hi)), .c (.val (g.1.2.2.2 21)), .c (.val (g.1.2.2.2 22)), .c (.val (g.1.2.2.2 23)), .c (.val (g.1.2.2.2 24)), .c (.sli nlb 1 offb lb.length capb hb), .c (.int (lb.length : Nat) hb.ir), .c (.int (g.1.1 : Nat) (ltI hb g.2.1)), .c (.val (g.1.2.2.2 28)), .c (.val (g.1.2.2.2 29)), .c (.val (g.1.2.2.2 30)), .c (.val (g.1.2.2.2 31)), .c (.val (g.1.2.2.2 32)), .c (.val (g.1.2.2.2 33)), .c (.val (g.1.2.2.2 34)), .c (.val (g.1.2.2.2 35)), .c (.val (g.1.2.2.2 36)), .c (.val (g.1.2.2.2 37)), .c (.val (g.1.2.2.2 38)), .c (.val (g.1.2.2.2 39)), .c (.val (g.1.2.2.2 40)), .c (.val (g.1.2.2.2 41)), .c (.val (g.1.2.2.2 42)), .c (.val (g.1.2.2.2 43)), .c (.val (g.1.2.2.2 44)), .c (.val (g.1.2.2.2 45)), .c (.val (g.1.2.2.2 46)), .c (.val (g.1.2.2.2 47)), .c (.val (g.1.2.2.2 48)), .c (.val (g.1.2.2.2 49)), .c (.val (g.1.2.2.2 50)), .c (.val (g.1.2.2.2 51)), .c (.val (g.1.2.2.2 52)), .c (.val (g.1.2.2.2 53)), .c (.val (g.1.2.2.2 54)), .c (.val (g.1.2.2.2 55)), .c (.val (g.1.2.2.2 56)), .c (.val (g.1.2.2.2 57)), .c (.val (g.1.2.2.2 58)), .c (.val (g.1.2.2.2 59)), .c (.val (g.1.2.2.2 60)), .c (.val (g.1.2.2.2 61)), .c (.val (g.1.2.2.2 62)), .c (.val (g.1.2.2.2 63))]) (fun g => [⟨tya, true, csa, 0⟩, ⟨tyb, true, csb, 0⟩, ⟨96, false, wsC g.1.2.2.1, 0⟩]) (fun g => lb.length - g.1.1) ?_ ?_
   ·refine ⟨[0,1,2], [0,1,5,6,7,8,18,19,20,25,26,27], [0,1,2], fun vs2 => ?_⟩
    conv => whnf
    refine ⟨hwa.1, hwb.1, wsC_pure _, ?_⟩
    conv => whnf
    refine ⟨_, _, ?_, ?_, ⟨(0, 0, lo, vs2), Nat.zero_le _, MulI.start ho⟩, rfl, rfl⟩
    ·exact ⟨fun _=>rfl,fun _=>rfl,fun _=>rfl,fun _=>rfl,fun _=>rfl,fun _=>rfl,fun _=>rfl,fun _=>rfl,fun _=>rfl,fun _=>rfl,fun _=>rfl,fun _=>rfl,stm _⟩
    ·exact ⟨⟨rfl,rfl,rfl, fun _=>rfl⟩, ⟨rfl,rfl,rfl, fun _=>rfl⟩, ⟨rfl,rfl,rfl, fun _=>rfl⟩, trivial⟩
   ·rintro ⟨⟨k, c, l2, vs2⟩, hk, hm⟩
    have hk : k ≤ lb.length := hk
    have hm : MulI la lb l2 i (la[i]'hlt) k c := hm
    conv => whnf
    refine bcase_intro (fun hly => ?_) (fun hly => ?_)
    ·have hly : k < lb.length := n_lt hly
     have hj : i + k < l2.length := by have := hm.1; omega
     have hj2 : i + k < la.length + lb.length := by omega
     obtain ⟨hm2, hw1, hw2⟩ := hm.step hly hlt hx32 db (hj := hj)
     have e0 := mul_raw hw1 hw2
     have e1 := (congrArg (fun z => bits .and .u64 z 4294967295) e0).trans (and_mask _ _ rfl hw2)
     have hI := wrap_sum (Nat.le_of_lt hj2) hsum
     have hir : IR ((i + k : Nat) : Int) := ir_sum (by omega)
     conv => whnf
     conv =>
      arg 2
      tactic' =>
       apply eff_index_sli (ho := ?how3) (hT := ?hTw3) (hx := ?hxw3) (hk := ?hkw3) (hlt := ?hltw3)
       case how3 => rfl
       case hTw3 => rfl
       case hxw3 => rfl
       case hkw3 => rfl
       case hltw3 => exact hly
     conv => whnf
     conv =>
      arg 2
      tactic' =>
       apply eff_load_sub (m := [wC (lb[k]'hly)]) (ho := ?how4) (hT := ?hTw4) (hx := ?hxw4) (hb := ?hbw4) (hm := ?hmw4) (hv := ?hvw4)
       case how4 => rfl
       case hTw4 => rfl
       case hxw4 => rfl
       case hbw4 => rfl
       case hmw4 => exact hwb.get hly
       case hvw4 => rfl
     conv => whnf
     conv =>
      arg 2
      tactic' =>
       apply eff_index_sli (hi := hir) (ho := ?how5) (hT := ?hTw5) (hx := ?hxw5) (hk := ?hkw5) (hlt := ?hltw5)
       case how5 => rfl
       case hTw5 => rfl
       case hxw5 => rfl
       case hkw5 => exact cint hI hir
       case hltw5 => exact hj2
     conv => whnf
     conv =>
      arg 2
      tactic' =>
       apply eff_load_sub (m := [wC (l2[i + k]'hj)]) (ho := ?how6) (hT := ?hTw6) (hx := ?hxw6) (hb := ?hbw6) (hm := ?hmw6) (hv := ?hvw6)
       case how6 => rfl
       case hTw6 => rfl
       case hxw6 => rfl
       case hbw6 => rfl
       case hmw6 => exact (WAt.get (l := l2) ⟨wsC_pure l2, [], [], by rw [List.append_nil]; rfl, rfl⟩ hj)
       case hvw6 => rfl
     conv => whnf
     conv =>
      arg 2
      tactic' =>
       apply eff_index_sli (hi := hir) (ho := ?how7) (hT := ?hTw7) (hx := ?hxw7) (hk := ?hkw7) (hlt := ?hltw7)
       case how7 => rfl
       case hTw7 => rfl
       case hxw7 => rfl
       case hkw7 => exact cint hI hir
       case hltw7 => exact hj2
     conv => whnf
     conv =>
      arg 2
      tactic' =>
       apply eff_store_at (l := [wC (((l2[i + k]'hj) + (la[i]'hlt) * (lb[k]'hly) + c) % WB)]) (cs := wsC (l2.set (i + k) (((l2[i + k]'hj) + (la[i]'hlt) * (lb[k]'hly) + c) % WB))) (ho := ?how8) (hT := ?hTw8) (hx := ?hxw8) (hy := ?hyw8) (hl := ?hlw8) (hb := ?hbw8) (hro := ?hrow8) (hs := ?hsw8)
       case how8 => rfl
       case hTw8 => rfl
       case hxw8 => rfl
       case hyw8 => exact congrArg (fun z => some [C.val (.int .u64 z)]) e1
       case hlw8 => exact ⟨rfl, rfl⟩
       case hbw8 => rfl
       case hrow8 => rfl
       case hsw8 => exact splice_ws hj _
     conv => whnf
     rw [forceL_eq]
     conv => whnf
     refine ⟨[0,1,2], [0,1,5,6,7,8,18,19,20,25,26,27], [0,1,2], fun vs3 => ?_⟩
     conv => whnf
     refine ⟨hwa.1, hwb.1, wsC_pure _, ?_⟩
     conv => whnf
     refine ⟨_, _, ?_, ?_, ⟨(k + 1, ((l2[i + k]'hj) + (la[i]'hlt) * (lb[k]'hly) + c) / WB, l2.set (i + k) (((l2[i + k]'hj) + (la[i]'hlt) * (lb[k]'hly) + c) % WB), vs3), hly, hm2⟩, (by omega : lb.length - (k + 1) < lb.length - k), rfl, rfl⟩
     ·exact ⟨fun _=>rfl,fun _=>rfl,fun _=>rfl,fun _=>rfl,fun _=>rfl,fun _=>rfl,fun _=>rfl,fun _=>rfl,fun _ => congrArg (Value.int .u64) (fdiv_word e0), fun _=>rfl,fun _=>rfl,fun _=>rfl,fun _=>rfl,fun _=>rfl,fun _=>rfl,fun _=>rfl,fun _=>rfl,fun _=>rfl,fun _=>rfl,fun _=>rfl,fun _=>rfl,fun _=>rfl,fun _=>rfl,fun _=>rfl,fun _=>rfl,fun _=>rfl,fun _=>rfl,sint_eq (wrap_add1 hly hb.ir) _ _, stm _⟩
     ·exact ⟨⟨rfl,rfl,rfl, fun _=>rfl⟩, ⟨rfl,rfl,rfl, fun _=>rfl⟩, ⟨rfl,rfl,rfl, fun _=>rfl⟩, trivial⟩
    ·have hke : k = lb.length := Nat.le_antisymm hk (n_ge hly)
     subst hke
     have hj : i + lb.length < l2.length := by have := hm.1; omega
     have hj2 : i + lb.length < la.length + lb.length := by omega
     have hI := wrap_sum (Nat.le_of_lt hj2) hsum
     have hir : IR ((i + lb.length : Nat) : Int) := ir_sum (by omega)
     conv => whnf
     conv =>
      arg 2
      tactic' =>
       apply eff_index_sli (hi := hir) (ho := ?how9) (hT := ?hTw9) (hx := ?hxw9) (hk := ?hkw9) (hlt := ?hltw9)
       case how9 => rfl
       case hTw9 => rfl
       case hxw9 => rfl
       case hkw9 => exact cint hI hir
       case hltw9 => exact hj2
     conv => whnf
     conv =>
      arg 2
      tactic' =>
       apply eff_store_at (l := [wC (c)]) (cs := wsC (l2.set (i + lb.length) c)) (ho := ?how10) (hT := ?hTw10) (hx := ?hxw10) (hy := ?hyw10) (hl := ?hlw10) (hb := ?hbw10) (hro := ?hrow10) (hs := ?hsw10)
       case how10 => rfl
       case hTw10 => rfl
       case hxw10 => rfl
       case hyw10 => rfl
       case hlw10 => exact ⟨rfl, rfl⟩
       case hbw10 => rfl
       case hrow10 => rfl
       case hsw10 => exact splice_ws hj _
     conv => whnf
     rw [forceL_eq]
     conv => whnf
     refine ⟨[0,1,2], [0,1,5,18,19,20], [0,1,2], fun vs3 => ?_⟩
     conv => whnf
     refine ⟨hwa.1, hwb.1, wsC_pure _, ?_⟩
     conv => whnf
     refine ⟨_, _, ?_, ?_, ⟨(i + 1, l2.set (i + lb.length) c, vs3), hlt, hm.last hlt⟩, (by omega : la.length - (i + 1) < la.length - i), rfl, rfl⟩
     ·exact ⟨fun _=>rfl,fun _=>rfl,fun _=>rfl,fun _=>rfl,fun _=>rfl,fun _=>rfl,fun _=>rfl,fun _=>rfl,fun _=>rfl,fun _=>rfl,fun _=>rfl,fun _=>rfl,fun _=>rfl,fun _=>rfl,fun _=>rfl,fun _=>rfl,fun _=>rfl,fun _=>rfl,fun _=>rfl,fun _=>rfl,sint_eq (wrap_add1 hlt ha.ir) _ _, stm _⟩
     ·exact ⟨⟨rfl,rfl,rfl, fun _=>rfl⟩, ⟨rfl,rfl,rfl, fun _=>rfl⟩, ⟨rfl,rfl,rfl, fun _=>rfl⟩, trivial⟩
  ·have hke : i = la.length := Nat.le_antisymm hi (n_ge hge)
   subst hke
   conv => whnf
   refine ⟨⟨wsC_pure _, trivial⟩, ⟨_, _, _, _, _, _, _, lo, rfl,rfl,ho.1, ⟨wsC_pure _, [], [], by rw [List.append_nil]; rfl, rfl⟩, fun h3 => ?_⟩⟩
   conv => whnf
   refine ⟨[0,1,2], [0,1,2], fun vs2 => ?_⟩
   conv => whnf
   refine ⟨hwa.1, hwb.1, wsC_pure _, ?_⟩
   conv => whnf
   refine ⟨_, [(OW.ofNorm lo (la.length + lb.length) h3 (Nat.le_of_eq ho.1)).blk], rfl, ⟨⟨rfl,rfl,rfl, fun _=>rfl⟩, ⟨rfl,rfl,rfl, fun _=>rfl⟩, ⟨rfl,rfl,?_, fun ρ => ?_⟩, trivial⟩, ⟨OW.new _, trivial⟩, _, fun ρ => OW.ofNorm_sl 2 ρ, hc _ rfl ?_⟩
   ·rw [OW.ofNorm_blk]; have := ho.1; show 0 = la.length + lb.length - lo.length; omega
   ·rw [OW.ofNorm_blk]
   ·rw [OW.ofNorm_l ho.2.1, ho.2.2.1, List.take_length]
end Go.Proofs.YthmdmbpecgakkaaDoor

namespace Go.Proofs.YthmdmbpecgakkaaDoor
open Go.RowKit
set_option maxRecDepth 100000

theorem eff_bin {T : TypeId → Option TI} {op : Op} {ev : Operand → SV} {hp : Nat → Option Blk} {o : BinOp} {t yt : TypeId} {x y : Operand} (ho : op = .binOp o t x y yt) {k j : IntKind} {a b : Int} (hx : ev x = .c (.val (.int k a))) (hy : ev y = .c (.val (.int j b))) {v : Value} (hb : binOp o t (.int k a) (.int j b) = .pure v) :
  eff T op ev hp = some (.val (.c (.val v))) := by
 subst ho
 simp only [eff, hx, hy, binS, hb, pureO]
theorem eff_bini {T : TypeId → Option TI} {op : Op} {ev : Operand → SV} {hp : Nat → Option Blk} {o : BinOp} {t yt : TypeId} {x y : Operand} (ho : op = .binOp o t x y yt) {k : IntKind} {a b : Int} {hi : IR b} (hx : ev x = .c (.val (.int k a))) (hy : ev y = .c (.int b hi)) {v : Value} (hb : binOp o t (.int k a) (.int .i64 b) = .pure v) :
  eff T op ev hp = some (.val (.c (.val v))) := by
 subst ho
 simp only [eff, hx, hy, binS, hb, pureO]
def OW.t (o : OW) (b : Nat) : T1 := .c (.sli o.nl b 0 o.l.length o.cap o.ok)
theorem OW.ofNorm_tup {lo : List Nat} {cap : Nat} {h : SliOk false (tlen lo) cap} {hr : lo.length ≤ cap} (b : Nat) {x y : T1} (hxy : ∀ ρ, x.den ρ = y.den ρ) (ρ : Rho) : (SV.tup [.c (.sli false b 0 (tlen lo) cap h), x]).den ρ = (SV.tup [(OW.ofNorm lo cap h hr).t b, y]).den ρ := by
 have := OW.ofNorm_sl (lo := lo) (h := h) (hr := hr) b ρ
 have h2 := hxy ρ
 simp only [SV.den, OW.sl] at this
 show Value.tuple #[C.den ρ _, x.den ρ] = Value.tuple #[C.den ρ _, y.den ρ]
 rw [this, h2]
def wT (n : Nat) : T1 := .c (wC n)
def cSmall : NewC := fun args ros K => ∃ nla offa lena capa ha tya csa la, ∃ d : Nat, args = [.c (.sli nla 0 offa lena capa ha), .c (wC d)] ∧ ros = [⟨tya, true, csa, 0⟩] ∧ la.length = lena ∧ WAt csa offa la ∧ Dl WB la ∧ lena ≤ 100000000 ∧ 0 < d ∧ d < 4294967296 ∧
 ∀ o : OW, o.l = dig WB (val WB la / d) → K (.tup [o.t 1, wT (val WB la % d)]) [o.blk]
theorem div_pure {t : TypeId} {z : Int} {a b : Nat} (e : z = a) (h : 0 < b) (ha : a < 18446744073709551616) : binOp .quo t (.int .u64 z) (.int .u64 (b : Int)) = .pure (.int .u64 ((a / b : Nat) : Int)) := by
 subst e
 unfold binOp Op.intDiv
 simp only [ne_eq, not_true_eq_false, if_false]
 rw [if_neg (by omega)]
 show Sem.pure _ = _
 rw [u64_nat (n := a / b) (by rw [Int.ofNat_tdiv]) (Nat.lt_of_le_of_lt (Nat.div_le_self _ _) ha)]
theorem rem_pure {t : TypeId} {z : Int} {a b : Nat} (e : z = a) (h : 0 < b) : binOp .rem t (.int .u64 z) (.int .u64 (b : Int)) = .pure (.int .u64 ((a % b : Nat) : Int)) := by
 subst e
 unfold binOp Op.intDiv
 simp only [ne_eq, not_true_eq_false, if_false]
 rw [if_neg (by omega)]
 show Sem.pure _ = _
 rw [← Int.ofNat_tmod]
theorem shl_pure {t : TypeId} {z y : Int} {a n : Nat} (e : z = a) (e2 : y = n) (hn : n < 64) (ha : a * 2 ^ n < 18446744073709551616) : binOp .shl t (.int .u64 z) (.int .i64 y) = .pure (.int .u64 ((a * 2 ^ n : Nat) : Int)) := by
 subst e e2
 unfold binOp Op.shift
 simp only
 rw [if_neg (by omega)]
 show Sem.pure _ = _
 have h1 : min (n : Int).toNat IntKind.u64.bits = n := by rw [Int.toNat_natCast]; exact Nat.min_eq_left (Nat.le_of_lt hn)
 rw [h1, u64_nat (n := a * 2 ^ n) (by rw [Int.natCast_mul, Int.natCast_pow]; rfl) ha]
theorem shr_pure {t : TypeId} {z y : Int} {a n : Nat} (e : z = a) (e2 : y = n) (hn : n < 64) : binOp .shr t (.int .u64 z) (.int .i64 y) = .pure (.int .u64 ((a / 2 ^ n : Nat) : Int)) := by
 subst e e2
 unfold binOp Op.shift
 simp only
 rw [if_neg (by omega)]
 show Sem.pure _ = _
 have h1 : min (n : Int).toNat IntKind.u64.bits = n := by rw [Int.toNat_natCast]; exact Nat.min_eq_left (Nat.le_of_lt hn)
 rw [h1, Int.fdiv_eq_ediv_of_nonneg _ (Int.pow_nonneg (by decide)), Int.natCast_ediv, Int.natCast_pow]
 rfl
theorem or_natE {y z : Int} {m n : Nat} (e1 : y = m) (e2 : z = n) (h1 : m < 18446744073709551616) (h2 : n < 18446744073709551616) : bits .or .u64 y z = ((m ||| n : Nat) : Int) := by
 subst e1 e2
 have hb : IntKind.u64.bits = 64 := rfl
 show IntKind.u64.wrap _ = _
 have e : (BitVec.ofInt IntKind.u64.bits (m : Int) ||| BitVec.ofInt IntKind.u64.bits (n : Int)).toNat = m ||| n := by
  rw [BitVec.toNat_or, BitVec.ofInt_natCast, BitVec.ofInt_natCast, BitVec.toNat_ofNat, BitVec.toNat_ofNat, Nat.mod_eq_of_lt (by rw [hb]; exact h1), Nat.mod_eq_of_lt (by rw [hb]; exact h2)]
 rw [e]
 exact u64_nat rfl (Nat.or_lt_two_pow (n := 64) h1 h2)
theorem shl32_nat {z : Int} {r : Nat} (e : z = r) (hr : r < 4294967296) : IntKind.u64.wrap (z * 2 ^ min (Int.toNat 32) IntKind.u64.bits) = ((r * 4294967296 : Nat) : Int) := by
 subst e
 exact u64_nat (by rw [Int.natCast_mul]; rfl) (by omega)
theorem or_word32 {r x : Nat} (hx : x < 4294967296) : (r * 4294967296) ||| x = r * 4294967296 + x := by
 rw [show 4294967296 = 2 ^ 32 from rfl, ← Nat.shiftLeft_eq, ← Nat.shiftLeft_add_eq_or_of_lt hx]
theorem or32 {r x : Nat} (hr : r < 4294967296) (hx : x < 4294967296) : bits .or .u64 (IntKind.u64.wrap ((r : Int) * 2 ^ min (Int.toNat 32) IntKind.u64.bits)) (x : Int) = ((r * 4294967296 + x : Nat) : Int) := by
 rw [or_natE (shl32_nat rfl hr) rfl (by omega) (by omega), or_word32 hx]
def SmallI (la lo : List Nat) (d k r : Nat) : Prop := lo.length = la.length ∧ Dl WB lo ∧ r < d ∧ val WB (la.drop k) = d * val WB (lo.drop k) + r
theorem SmallI.step {la lo : List Nat} {d k r : Nat} (h : SmallI la lo d k r) (hk : 0 < k) (hka : k ≤ la.length) (hd : d < 4294967296) {hj : k - 1 < la.length} (da : Dl WB la) :
  SmallI la (lo.set (k - 1) ((r * 4294967296 + la[k - 1]) / d)) d (k - 1) ((r * 4294967296 + la[k - 1]) % d) ∧ r * 4294967296 + la[k - 1] < 18446744073709551616 ∧ r < 4294967296 ∧ la[k - 1] < 4294967296 := by
 obtain ⟨h1, h2, h3, h4⟩ := h
 have hx : la[k - 1] < 4294967296 := da.get _ hj
 have hs := small_step hk hka (by omega) h4
 rw [getD_get hj, WB_eq] at hs
 refine ⟨⟨by rw [List.length_set]; exact h1, h2.set _ ?_, Nat.mod_lt _ (by omega), by rw [WB_eq]; exact hs⟩, by omega, by omega, hx⟩
 rw [Nat.div_lt_iff_lt_mul (by omega), WB_eq]
 have h1 : (r + 1) * 4294967296 ≤ d * 4294967296 := Nat.mul_le_mul_right _ h3
 rw [Nat.mul_comm d] at *
 omega
theorem SmallI.last {la lo : List Nat} {d r : Nat} (h : SmallI la lo d 0 r) : val WB lo = val WB la / d ∧ val WB la % d = r := by
 obtain ⟨h1, h2, h3, h4⟩ := h
 rw [List.drop_zero, List.drop_zero] at h4
 have hd : 0 < d := by omega
 rw [h4, Nat.mul_add_div hd, Nat.div_eq_of_lt h3, Nat.mul_add_mod, Nat.mod_eq_of_lt h3]
 exact ⟨rfl, rfl⟩
def cShift : NewC := fun args ros K => ∃ nla offa lena capa ha tya csa la, ∃ (n : Nat) (hn : IR (n : Int)), args = [.c (.sli nla 0 offa lena capa ha), .c (.int (n : Int) hn)] ∧ ros = [⟨tya, true, csa, 0⟩] ∧ la.length = lena ∧ WAt csa offa la ∧ Dl WB la ∧ lena ≤ 100000000 ∧ n < 32 ∧
 ∀ (lo : List Nat) (h2 : SliOk false (lena + 1) (lena + 1)), lo.length = lena + 1 → Dl WB lo → val WB lo = val WB la * 2 ^ n → K (.c (.sli false 1 0 (lena + 1) (lena + 1) h2)) [⟨96, false, wsC lo, 0⟩]
theorem shl_raw {z y : Int} {a n : Nat} (e : z = a) (e2 : y = n) (hn : n < 64) (ha : a * 2 ^ n < 18446744073709551616) : IntKind.u64.wrap (z * 2 ^ min y.toNat IntKind.u64.bits) = ((a * 2 ^ n : Nat) : Int) := by
 subst e e2
 have h1 : min (n : Int).toNat IntKind.u64.bits = n := by rw [Int.toNat_natCast]; exact Nat.min_eq_left (Nat.le_of_lt hn)
 rw [h1]
 exact u64_nat (n := a * 2 ^ n) (by rw [Int.natCast_mul, Int.natCast_pow]; rfl) ha
theorem shr_raw {z y : Int} {a n : Nat} (e : z = a) (e2 : y = n) (hn : n < 64) : z.fdiv (2 ^ min y.toNat IntKind.u64.bits) = ((a / 2 ^ n : Nat) : Int) := by
 subst e e2
 have h1 : min (n : Int).toNat IntKind.u64.bits = n := by rw [Int.toNat_natCast]; exact Nat.min_eq_left (Nat.le_of_lt hn)
 rw [h1, Int.fdiv_eq_ediv_of_nonneg _ (Int.pow_nonneg (by decide)), Int.natCast_ediv, Int.natCast_pow]
 rfl
def ShlI (la lo : List Nat) (n k : Nat) : Prop := lo.length = la.length + 1 ∧ Dl WB lo ∧ val WB lo = val WB (la.take k) * 2 ^ n ∧ lo[k]?.getD 0 < 2 ^ n ∧ ∀ j, k < j → lo[j]?.getD 0 = 0
theorem ShlI.step {la lo : List Nat} {n k : Nat} (h : ShlI la lo n k) (hn : n < 32) {hk : k < la.length} {hk2 : k < lo.length} (da : Dl WB la) :
  ShlI la ((lo.set k (lo[k] + la[k] * 2 ^ n % WB)).set (k + 1) (la[k] * 2 ^ n / WB)) n (k + 1) ∧ la[k] * 2 ^ n < 18446744073709551616 ∧ lo[k] ||| (la[k] * 2 ^ n % WB) = lo[k] + la[k] * 2 ^ n % WB ∧ lo[k] < 4294967296 := by
 obtain ⟨h1, h2, h3, h4, h5⟩ := h
 have hx : la[k] < 4294967296 := da.get _ hk
 rw [getD_get hk2] at h4
 obtain ⟨w1, w2, w3, w4⟩ := shl_word hx hn h4
 have hs := shl_step (B := WB) (a := la) (by omega) (h5 (k + 1) (by omega)) h3
 rw [getD_get hk, getD_get hk2] at hs
 refine ⟨⟨by rw [List.length_set, List.length_set]; exact h1, (h2.set _ (by rw [WB_eq]; exact w3)).set _ ?_, hs, ?_, fun j hj => ?_⟩, w1, by rw [WB_eq]; exact w2, h2.get _ hk2⟩
 ·rw [WB_eq]; have : 2 ^ n ≤ 2 ^ 31 := Nat.pow_le_pow_right (by omega) (by omega)
  omega
 ·rw [List.getElem?_set_self (by rw [List.length_set]; omega)]; rw [WB_eq]; exact w4
 ·rw [List.getElem?_set_ne (by omega), List.getElem?_set_ne (by omega)]; exact h5 j (by omega)
def cUnshift : NewC := fun args ros K => ∃ nla offa lena capa ha tya csa la, ∃ (n : Nat) (hn : IR (n : Int)), args = [.c (.sli nla 0 offa lena capa ha), .c (.int (n : Int) hn)] ∧ ros = [⟨tya, true, csa, 0⟩] ∧ la.length = lena ∧ WAt csa offa la ∧ Dl WB la ∧ lena ≤ 100000000 ∧ n < 32 ∧
 ∀ o : OW, o.l = dig WB (val WB la / 2 ^ n) → K (o.sl 1) [o.blk]
def ShrI (la lo : List Nat) (n k : Nat) : Prop := lo.length = la.length ∧ Dl WB lo ∧ val WB lo = val WB (la.take k) / 2 ^ n ∧ (∀ j, k ≤ j → lo[j]?.getD 0 = 0) ∧ (0 < k → lo[k - 1]?.getD 0 < 2 ^ (32 - n))
theorem shr_lt {x n : Nat} (hx : x < 4294967296) (hn : n < 32) : x / 2 ^ n < 2 ^ (32 - n) := (shr_word (u := 0) hx hn (Nat.pow_pos (by decide))).2.1
theorem ShrI.stepZ {la lo : List Nat} {n k : Nat} (h : ShrI la lo n k) (hn : n < 32) (hk : k < la.length) (hk0 : k = 0) (da : Dl WB la) : ShrI la (lo.set k (la[k] / 2 ^ n)) n (k + 1) := by
 obtain ⟨h1, h2, h3, h4, h5⟩ := h
 have hx : la[k] < 4294967296 := da.get _ hk
 have hlt : la[k] / 2 ^ n < 2 ^ (32 - n) := shr_lt hx hn
 refine ⟨by rw [List.length_set]; exact h1, h2.set _ (Nat.lt_of_le_of_lt (Nat.div_le_self _ _) hx), ?_, fun j hj => ?_, fun _ => ?_⟩
 ·have hv := val_setD WB lo k (la[k] / 2 ^ n) (by omega)
  rw [h4 k (Nat.le_refl _), Nat.mul_zero, Nat.add_zero, h3] at hv
  subst hk0
  rw [hv, val_take_succ', getD_get hk]
  simp [val]
 ·rw [List.getElem?_set_ne (by omega)]; exact h4 j (by omega)
 ·rw [Nat.add_sub_cancel, List.getElem?_set_self (by omega)]; exact hlt
theorem ShrI.step {la lo : List Nat} {n k : Nat} (h : ShrI la lo n k) (hn : n < 32) {hk : k < la.length} (hk0 : 0 < k) {hk2 : k - 1 < lo.length} (da : Dl WB la) :
  ShrI la ((lo.set k (la[k] / 2 ^ n)).set (k - 1) (lo[k - 1] + 2 ^ (32 - n) * (la[k] % 2 ^ n))) n (k + 1) ∧ la[k] * 2 ^ (32 - n) < 18446744073709551616 ∧ lo[k - 1] ||| (la[k] * 2 ^ (32 - n) % WB) = lo[k - 1] + 2 ^ (32 - n) * (la[k] % 2 ^ n) ∧ lo[k - 1] < 4294967296 := by
 obtain ⟨h1, h2, h3, h4, h5⟩ := h
 have hx : la[k] < 4294967296 := da.get _ hk
 have hlt := shr_lt hx hn
 have h5 := h5 hk0
 rw [getD_get hk2] at h5
 obtain ⟨w1, w2, w3, w4⟩ := shr_word hx hn h5
 have hs := shr_step (a := la) hn hk0 (by omega) (h4 k (Nat.le_refl _)) h3
 rw [getD_get hk, getD_get hk2] at hs
 refine ⟨⟨by rw [List.length_set, List.length_set]; exact h1, (h2.set _ (Nat.lt_of_le_of_lt (Nat.div_le_self _ _) hx)).set _ (by rw [WB_eq]; exact w4), hs, fun j hj => ?_, fun _ => ?_⟩, w1, by rw [WB_eq]; exact w3, h2.get _ hk2⟩
 ·rw [List.getElem?_set_ne (by omega), List.getElem?_set_ne (by omega)]; exact h4 j (by omega)
 ·rw [Nat.add_sub_cancel, List.getElem?_set_ne (by omega), List.getElem?_set_self (by omega)]; exact hlt
theorem nz_gt {k : Nat} (h : decide ((0 : Int) < (k : Int)) = true) : 0 < k := by have := of_decide_eq_true h; omega
theorem sub32 {n : Nat} (h : n < 32) : IntKind.i64.wrap (32 - (n : Int)) = ((32 - n : Nat) : Int) := by
 rw [wrap_id (by unfold IR; omega)]; omega
theorem get_set_pred {lo : List Nat} {k v : Nat} (h : k - 1 < lo.length) (h0 : 0 < k) (h2 : k - 1 < (lo.set k v).length) : (lo.set k v)[k - 1] = lo[k - 1] := by
 rw [List.getElem_set_ne (by omega)]
theorem zero_get {lo : List Nat} {k : Nat} (h : k < lo.length) (h2 : lo[k]?.getD 0 = 0) : wsC lo = wsC (lo.set k 0) := by
 rw [getD_get h] at h2
 have : lo.set k 0 = lo := by rw [← h2]; exact List.set_getElem_self h
 rw [this]
end Go.Proofs.YthmdmbpecgakkaaDoor
