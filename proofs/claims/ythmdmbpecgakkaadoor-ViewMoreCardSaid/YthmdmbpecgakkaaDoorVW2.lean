/- What is seen: plain words; worse and first. -/
import Derived.Test.YthmdmbpecgakkaaDoorVW1
import Derived.Test.YthmdmbpecgakkaaDoorVgb
namespace Go.Proofs.YthmdmbpecgakkaaDoor
open Go.RowKit
set_option maxRecDepth 100000

theorem sm_z0 (k : Nat) : Sm k 0 := Nat.pow_pos (by decide)
structure VW where
 e : PT
 f : Int
 p : Int
 hf : IR f
 hp : IR p
def vwC (v : VW) : List C := [.int v.e.x v.e.hx, .int v.e.y v.e.hy, .int v.e.z v.e.hz, .int v.f v.hf, .int v.p v.hp]
structure SN where
 made : Int
 total : Int
 d2 : Int
 fits : Bool
 hm : IR made
 ht : IR total
 hd : Sm 402 d2
def snC (s : SN) : List C := [.int s.made s.hm, .int s.total s.ht, .wid 402 s.d2 s.hd, .val (.bool s.fits)]
def snR : RW SN := ⟨snC, 5, fun _=>rfl,fun _ _ _ => rfl, fun _=>rfl⟩
def sn0 : SN := ⟨0, 0, 0, false, by decide, by decide, sm_z0 _⟩
structure BX where
 lo : PT
 hi : PT
def minP (a b : PT) : PT := ⟨minI a.x b.x, minI a.y b.y, minI a.z b.z, a.hx.minI b.hx, a.hy.minI b.hy, a.hz.minI b.hz⟩
def maxP (a b : PT) : PT := ⟨maxI a.x b.x, maxI a.y b.y, maxI a.z b.z, a.hx.maxI b.hx, a.hy.maxI b.hy, a.hz.maxI b.hz⟩
def addP (b : BX) (p : PT) : BX := ⟨minP b.lo p, maxP b.hi p⟩
def addT (b : BX) (t : TR) : BX := addP (addP (addP b t.a) t.b) t.c
def BX.le (b : BX) : Prop := b.lo.x ≤ b.hi.x ∧ b.lo.y ≤ b.hi.y ∧ b.lo.z ≤ b.hi.z
def boxL (b : BX) (l : List TR) : BX := l.foldl addT b
theorem addP_le {b : BX} (h : b.le) (p : PT) : (addP b p).le := by
 unfold BX.le addP minP maxP minI maxI at *
 refine ⟨?_, ?_, ?_⟩ <;> simp only <;> split <;> split <;> omega
theorem addP_lo {b : BX} (h : b.le) {p : PT} (hp : p = b.lo) : addP b p = b := by
 subst hp
 obtain ⟨⟨x, y, z, hx, hy, hz⟩, ⟨x', y', z', hx', hy', hz'⟩⟩ := b
 unfold BX.le at h
 simp only at h
 unfold addP minP maxP minI maxI
 simp only [BX.mk.injEq, PT.mk.injEq]
 refine ⟨⟨?_, ?_, ?_⟩, ?_, ?_, ?_⟩ <;> split <;> omega
theorem addP_hi {b : BX} (h : b.le) {p : PT} (hp : p = b.hi) : addP b p = b := by
 subst hp
 obtain ⟨⟨x, y, z, hx, hy, hz⟩, ⟨x', y', z', hx', hy', hz'⟩⟩ := b
 unfold BX.le at h
 simp only at h
 unfold addP minP maxP minI maxI
 simp only [BX.mk.injEq, PT.mk.injEq]
 refine ⟨⟨?_, ?_, ?_⟩, ?_, ?_, ?_⟩ <;> split <;> omega
theorem addT_le {b : BX} (h : b.le) (t : TR) : (addT b t).le := addP_le (addP_le (addP_le h _) _) _
theorem boxL_le {b : BX} (h : b.le) : ∀ l : List TR, (boxL b l).le := fun l => by
 induction l generalizing b with
 | nil => exact h
 | cons t l ih => exact ih (addT_le h t)
theorem boxL_succ (b : BX) {l : List TR} {k : Nat} (hk : k < l.length) : boxL b (l.take (k + 1)) = addT (boxL b (l.take k)) l[k] := by
 unfold boxL
 rw [List.take_add_one, List.getElem?_eq_getElem hk, Option.toList_some, List.foldl_append]; rfl
def totV (L : List GU) (c : CU) : {z : Int // IR z} := if 0 ≤ c.made then (match L[c.made.toNat]? with | some g => ⟨g.total, g.ht⟩ | none => ⟨0, by decide⟩) else ⟨0, by decide⟩
def boxD (v : VW) (b : BX) (g : Int) : Int := d2V b.lo.x b.lo.y b.lo.z b.hi.x b.hi.y b.hi.z g v.e.x v.e.y v.e.z
theorem sm_boxD (v : VW) (b : BX) {g : Int} (hg : IR g) : Sm 402 (boxD v b g) := sm_d2V b.lo.hx b.lo.hy b.lo.hz b.hi.hx b.hi.hy b.hi.hz hg v.e.hx v.e.hy v.e.hz
def seen (L : List GU) (v : VW) (c : CU) : SN := match c.tl with
 | [] => ⟨c.made, (totV L c).1, 0, true, c.hm, (totV L c).2, sm_z0 _⟩
 | t :: l => ⟨c.made, (totV L c).1, boxD v (boxL ⟨t.a, t.a⟩ (t :: l)) (totV L c).1, wthB v.f v.p (boxD v (boxL ⟨t.a, t.a⟩ (t :: l)) (totV L c).1) (totV L c).1, c.hm, (totV L c).2, sm_boxD v _ (totV L c).2⟩
def wrsB (a b : SN) : Bool := decide (b.total * b.total * a.d2 < a.total * a.total * b.d2)
def betL (o : SN) (l : List SN) : SN := l.foldl (fun o x => if wrsB x o = true then x else o) o
def fstL : List SN → SN
 | [] => sn0
 | x :: l => betL x l
def badS (s : SN) : Bool := !s.fits && decide (0 ≤ s.made)
def badL (CL : List CU) (L : List GU) (v : VW) : List Nat → List SN
 | [] => []
 | i :: l => (match CL[i]? with | some c => if badS (seen L v c) = true then [seen L v c] else [] | none => []) ++ badL CL L v l
def dWorse : Dn
 | [.agg [.int _ _, .int t _, .wid jd d _, .val (.bool _)], .agg [.int _ _, .int u _, .wid je e _, .val (.bool _)]] =>
  if jd ≤ 500 ∧ je ≤ 500 then some (none, .c (.val (.bool (decide (u * u * d < t * t * e))))) else none
 | _ => none
set_option maxHeartbeats 4000000 in
theorem spWorse : SpOk Tryd.prog 20 dWorse := sp_of2 (un := 20) (n := 0) ⟨Tryd.func20, by kernel_rfl, by kernel_rfl⟩ baseW4_ok noF_ok fun args p v hd => by
 unfold dWorse at hd
 split at hd
 ·rename_i m hm t ht jd d hd b n hn u hu je e he y
  split at hd
  ·rename_i hcon
   cases hd
   refine ⟨[.agg [.int m hm, .int t ht, .wid 500 d (hd.mono hcon.1), .val (.bool b)], .agg [.int n hn, .int u hu, .wid 500 e (he.mono hcon.2), .val (.bool y)]], fun _=>rfl,fun _ _=>rfl,fun _ _=>rfl,fun _ => ?_⟩
   conv => whnf
   exact fun ρ => sbool_e (decide_eq_decide.2 sgn_gt) ρ
  ·cases hd
 ·cases hd
def baseW5 : List (FuncId × Dn) := (20, dWorse) :: baseW4
theorem baseW5_ok : AllOk baseW5 := .cons spWorse <| baseW4_ok
def envW (un : Nat) : Env := { env un baseW5 with O := oAdr tyT (oMap Tryd.prog tyT), R := lodR, ord := fun n => n == 7 }
theorem envW_ok (un : Nat) : EOk Tryd.prog (envW un) := ⟨(env_ok baseW5_ok un).T, (env_ok baseW5_ok un).D, oAdr_ok tyT_ok (oMap_ok tyT_ok), lodR_ok⟩
def cFirst : NewC := fun args ros K => ∃ (nl : Bool) (l : List SN) (c : Nat) (h : SliOk nl l.length c) (ty : TypeId) (fam : List Ent), args = [.c (.sli nl 0 0 l.length c h), .c (.fn 20 [] [])] ∧ ros = [⟨.t ty, true, rwC snR l, 0⟩, ⟨.x fam, true, [], 3⟩] ∧ K (.tup [.agg (snC (fstL l)), .c (.val (.bool (decide ((0 : Int) < (l.length : Nat)))))]) []
theorem fst_step {l : List SN} {k : Nat} (hk : k < l.length) (h0 : 0 < k) : fstL (l.take (k + 1)) = if wrsB l[k] (fstL (l.take k)) = true then l[k] else fstL (l.take k) := by
 cases l with
 | nil => cases hk
 | cons x l =>
  obtain ⟨k, rfl⟩ : ∃ j, k = j + 1 := ⟨k - 1, by omega⟩
  have hk' : k < l.length := Nat.lt_of_succ_lt_succ hk
  rw [List.take_succ_cons, List.take_succ_cons, fstL, fstL, List.take_add_one, List.getElem?_eq_getElem hk', Option.toList_some]
  unfold betL
  rw [List.foldl_append]
  rfl
theorem fst_one {l : List SN} (hk : 0 < l.length) : fstL (l.take (0 + 1)) = l[0] := by
 cases l with
 | nil => cases hk
 | cons x l => rfl
theorem snC_den (a b : SN) (e : a = b) (ρ : Rho) : cellsL ρ (snC a) = cellsL ρ (snC b) := by rw [e]
set_option maxHeartbeats 16000000 in
theorem csFirst : CSpX Tryd.prog 19 cFirst := csp_ofX (envW_ok 0) mixed (inl_ok (envW_ok 0) mixed noF_ok 0) ⟨Tryd.func19, by kernel_rfl, by kernel_rfl⟩ fun args ros K hc => by
 obtain ⟨nl, l, c, h, ty, fam, rfl,rfl,hc⟩ := hc
 refine ⟨fun ρ ρ' e => ?_, ?_⟩
 ·have e0 := e 0 (Nat.zero_lt_succ _)
  simp only [List.map, SV.den, C.den, C.cells, e0]
 conv => whnf
 refine loop_st (G := {k : Nat // k ≤ l.length} × (Nat → Value)) (fun g => (.c (.sli nl 0 0 l.length c h) :: .c (.fn 20 [] []) :: .c (.val (g.2 2)) :: .c (.val (g.2 3)) :: .c (.ptr 2 0) :: .c (.val (g.2 5)) :: .c (.ptr 3 0) :: .c (.val (g.2 7)) :: .c (.val (g.2 8)) :: .c (.sli nl 0 0 l.length c h) :: .c (.int (l.length : Nat) (lt_irV h (Nat.le_refl _))) :: .c (.int (g.1.1 : Nat) (lt_irV h g.1.2)) :: .c (.val (g.2 12)) :: .c (.val (g.2 13)) :: .c (.val (g.2 14)) :: .c (.val (g.2 15)) :: .c (.val (g.2 16)) :: .c (.val (g.2 17)) :: .c (.val (g.2 18)) :: .c (.val (g.2 19)) :: .c (.val (g.2 20)) :: .c (.val (g.2 21)) :: .c (.val (g.2 22)) :: .c (.val (g.2 23)) :: .c (.val (g.2 24)) :: .c (.val (g.2 25)) :: .c (.val (g.2 26)) :: .c (.val (g.2 27)) :: .c (.val (g.2 28)) :: .c (.val (g.2 29)) :: [])) (fun g => [⟨.t ty, true, rwC snR l, 0⟩, ⟨.x fam, true, [], 3⟩, ⟨67, false, snC sn0, 0⟩, ⟨67, false, snC (fstL (l.take g.1.1)), 0⟩]) (fun g => l.length - g.1.1) ?_ ?_
 ·refine ⟨[0,1,2,3], [0,1,4,6,9,10,11], [0], fun vs6 => ?_⟩
  conv => whnf
  refine ⟨rwC_pure snR l, ?_⟩
  conv => whnf
  refine ⟨_, _, ?_, ?_, (⟨0, Nat.zero_le _⟩, vs6), rfl, rfl⟩
  ·exact (by (iterate 12 refine ⟨fun _=>rfl,?_⟩); exact stm _)
  ·exact ⟨⟨rfl,rfl,rfl, fun _=>rfl⟩, ⟨rfl,rfl,rfl, fun _=>rfl⟩, ⟨rfl,rfl,rfl, fun ρ => (show cellsL ρ _ = cellsL ρ (snC sn0) by simp [cellsL, snC, sn0, C.cells])⟩, ⟨rfl,rfl,rfl, fun ρ => (show cellsL ρ _ = cellsL ρ (snC sn0) by simp [cellsL, snC, sn0, C.cells])⟩, trivial⟩
 ·rintro ⟨⟨k, hk⟩, vs6⟩
  have hk : k ≤ l.length := hk
  obtain ⟨s, hs⟩ : ∃ s, s = fstL (l.take k) := ⟨_, rfl⟩
  dsimp only
  rw [← hs]
  conv => whnf
  refine bcase_intro (fun hlt => ?_) (fun hlt => ?_)
  ·have hlt : k < l.length := n_lt hlt
   have hki : IR (k : Int) := lt_irV h hk
   conv => whnf
   conv =>
    arg 2
    tactic' =>
     apply eff_index_sli (k := k) (hi := hki) (ho := ?how35) (hT := ?hTw35) (hx := ?hxw35) (hk := ?hkw35) (hlt := ?hltw35)
     case how35 => rfl
     case hTw35 => rfl
     case hxw35 => rfl
     case hkw35 => rfl
     case hltw35 => exact hlt
   conv => whnf
   conv =>
    arg 2
    tactic' =>
     apply eff_load_sub (ho := ?how36) (hT := ?hTw36) (hx := ?hxw36) (hb := ?hbw36) (hm := ?hmw36) (hv := ?hvw36)
     case how36 => rfl
     case hTw36 => rfl
     case hxw36 => rfl
     case hbw36 => rfl
     case hmw36 => exact subC_rw snR l hlt
     case hvw36 => rfl
   conv => whnf
   refine bcase_intro (fun hz => ?_) (fun hz => ?_)
   ·have hz : k = 0 := by have := of_decide_eq_true hz; omega
    conv => whnf
    refine ⟨[0,1,2,3], [0,1,4,6,9,10,11], [0], fun vs7 => ?_⟩
    conv => whnf
    refine ⟨rwC_pure snR l, ?_⟩
    conv => whnf
    refine ⟨_, _, ?_, ?_, (⟨k + 1, hlt⟩, vs7), (by omega : l.length - (k + 1) < l.length - k), rfl, rfl⟩
    ·exact (by (iterate 11 refine ⟨fun _=>rfl,?_⟩); refine ⟨fun ρ => sint_kV (wrap_add1 (n := l.length) hlt h.ir) ρ, ?_⟩; exact stm _)
    ·exact ⟨⟨rfl,rfl,rfl, fun _=>rfl⟩, ⟨rfl,rfl,rfl, fun _=>rfl⟩, ⟨rfl,rfl,rfl, fun _=>rfl⟩, ⟨rfl,rfl,rfl, snC_den _ _ (by subst hz; exact (fst_one hlt).symm)⟩, trivial⟩
   ·have hz : 0 < k := by have := of_decide_eq_false hz; omega
    conv => whnf
    refine bcase_intro (fun hw => ?_) (fun hw => ?_)
    ·have hw : decide (s.total * s.total * l[k].d2 < l[k].total * l[k].total * s.d2) = true := hw
     conv => whnf
     refine ⟨[0,1,2,3], [0,1,4,6,9,10,11], [0], fun vs7 => ?_⟩
     conv => whnf
     refine ⟨rwC_pure snR l, ?_⟩
     conv => whnf
     refine ⟨_, _, ?_, ?_, (⟨k + 1, hlt⟩, vs7), (by omega : l.length - (k + 1) < l.length - k), rfl, rfl⟩
     ·exact (by (iterate 11 refine ⟨fun _=>rfl,?_⟩); refine ⟨fun ρ => sint_kV (wrap_add1 (n := l.length) hlt h.ir) ρ, ?_⟩; exact stm _)
     ·exact ⟨⟨rfl,rfl,rfl, fun _=>rfl⟩, ⟨rfl,rfl,rfl, fun _=>rfl⟩, ⟨rfl,rfl,rfl, fun _=>rfl⟩, ⟨rfl,rfl,rfl, snC_den _ _ (by rw [fst_step hlt hz, ← hs, if_pos (show wrsB l[k] s = true from hw)])⟩, trivial⟩
    ·have hw : decide (s.total * s.total * l[k].d2 < l[k].total * l[k].total * s.d2) = false := hw
     conv => whnf
     refine ⟨[0,1,2,3], [0,1,4,6,9,10,11], [0], fun vs7 => ?_⟩
     conv => whnf
     refine ⟨rwC_pure snR l, ?_⟩
     conv => whnf
     refine ⟨_, _, ?_, ?_, (⟨k + 1, hlt⟩, vs7), (by omega : l.length - (k + 1) < l.length - k), rfl, rfl⟩
     ·exact (by (iterate 11 refine ⟨fun _=>rfl,?_⟩); refine ⟨fun ρ => sint_kV (wrap_add1 (n := l.length) hlt h.ir) ρ, ?_⟩; exact stm _)
     ·exact ⟨⟨rfl,rfl,rfl, fun _=>rfl⟩, ⟨rfl,rfl,rfl, fun _=>rfl⟩, ⟨rfl,rfl,rfl, fun _=>rfl⟩, ⟨rfl,rfl,rfl, snC_den _ _ (by rw [fst_step hlt hz, ← hs, if_neg (show ¬ wrsB l[k] s = true by unfold wrsB; rw [hw]; decide)])⟩, trivial⟩
  ·have hge : l.length ≤ k := n_ge hlt
   obtain rfl : k = l.length := Nat.le_antisymm hk hge
   rw [List.take_length] at hs
   conv => whnf
   refine ⟨[0,1], [0], fun vs9 => ?_⟩
   conv => whnf
   refine ⟨rwC_pure snR l, ?_⟩
   conv => whnf
   rw [hs]
   exact ⟨_, [], rfl, ⟨⟨rfl,rfl,rfl, fun _=>rfl⟩, ⟨rfl,rfl,rfl, fun _=>rfl⟩, trivial⟩, trivial, .tup [.agg (snC (fstL l)), .c (.val (.bool (decide ((0 : Int) < (l.length : Nat)))))], fun ρ => rfl, hc⟩
end Go.Proofs.YthmdmbpecgakkaaDoor
