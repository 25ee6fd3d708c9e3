/- law 22: RayHits, by the reckoner. -/
import Derived.Test.YtefgchmbdijjdaaGreatDoorRyc
import Derived.Test.YtefgchmbdijjdaaGreatDoorHitS
namespace Go.Proofs.YtefgchmbdijjdaaGreatDoor
open Go.RowKit
set_option maxRecDepth 100000

theorem cross_tn {r : RZ} {p q s : V3} (h : crossB r p q s = true) : (0 : Rat) ≤ (highZ r p q s : Rat) / ((r.w * slopeZ r p q s : Int) : Rat) := by
 have hs := slope_nz h
 have hh := h
 unfold crossB at hh
 rw [Bool.and_eq_true, Bool.and_eq_true, Bool.and_eq_true] at hh
 obtain ⟨h1, -, -, h2⟩ := hh
 have hw := perm_w h1
 have h2 := of_decide_eq_true h2
 have h2 : (if (highZ r p q s).sign = 0 then sgL [(normZ p q s).neg.x, (normZ p q s).neg.y, (normZ p q s).neg.z] else (highZ r p q s).sign) = (slopeZ r p q s).sign := h2
 generalize highZ r p q s = H at h2
 generalize slopeZ r p q s = T at h2 hs
 rcases Int.lt_trichotomy T 0 with ht | ht | ht
 ·have hH : H ≤ 0 := by
   rw [Int.sign_eq_neg_one_of_neg ht] at h2
   rcases Int.lt_trichotomy H 0 with h3 | h3 | h3
   ·omega
   ·omega
   ·rw [Int.sign_eq_one_of_pos h3] at h2; simp at h2
  have hc : ((r.w * T : Int) : Rat) < 0 := Rat.intCast_neg_iff.2 (Int.mul_neg_of_pos_of_neg hw ht)
  have h4 : (H : Rat) ≤ 0 := Rat.intCast_nonpos.2 hH
  rw [← le_muln hc]; simpa using h4
 ·exact absurd ht hs
 ·have hH : 0 ≤ H := by
   rw [Int.sign_eq_one_of_pos ht] at h2
   rcases Int.lt_trichotomy H 0 with h3 | h3 | h3
   ·rw [Int.sign_eq_neg_one_of_neg h3] at h2; simp at h2
   ·omega
   ·omega
  have hc : 0 < ((r.w * T : Int) : Rat) := Rat.intCast_pos.2 (Int.mul_pos hw ht)
  have h4 : (0 : Rat) ≤ (H : Rat) := Rat.intCast_nonneg.2 hH
  rw [← mulp_le hc]; simpa using h4
theorem hit_ok {R : RI} {T : TR} {lo hi : V3} (h : crB R T = true) (hp : InB lo hi T.a.v) (hq : InB lo hi T.b.v) (hs : InB lo hi T.c.v) :
  bB R.z3 lo hi = true ∧ ¬ ratOf (crN R T) (crD R T) < bI R.z3 lo hi ∧ ¬ bO R.z3 lo hi < ratOf (crN R T) (crD R T) := by
 have h : crossB R.z3 T.a.v T.b.v T.c.v = true := h
 have h0 := h
 unfold crossB at h0
 rw [Bool.and_eq_true] at h0
 obtain ⟨i, u, e, h1, h2⟩ := box_all h0.1 lo hi (cross_tn h) (cross_in h hp hq hs)
 have et : ratOf (crN R T) (crD R T) = (highZ R.z3 T.a.v T.b.v T.c.v : Rat) / ((R.z3.w * slopeZ R.z3 T.a.v T.b.v T.c.v : Int) : Rat) := by
  unfold crN crD crossN crossD
  rw [if_pos h, if_pos h, ratOf_frac]
 rw [et]
 unfold bB bI bO
 rw [opq_eq, opq_eq, opq_eq, e]
 exact ⟨rfl, Rat.not_lt.2 h1, Rat.not_lt.2 h2⟩
def InT (lo hi : PT) (t : TR) : Prop := InB lo.v hi.v t.a.v ∧ InB lo.v hi.v t.b.v ∧ InB lo.v hi.v t.c.v
def minP (p q : PT) : PT := ⟨minI p.x q.x, minI p.y q.y, minI p.z q.z, p.hx.minI q.hx, p.hy.minI q.hy, p.hz.minI q.hz⟩
def maxP (p q : PT) : PT := ⟨maxI p.x q.x, maxI p.y q.y, maxI p.z q.z, p.hx.maxI q.hx, p.hy.maxI q.hy, p.hz.maxI q.hz⟩
def minT (p : PT) (t : TR) : PT := minP (minP (minP p t.a) t.b) t.c
def maxT (p : PT) (t : TR) : PT := maxP (maxP (maxP p t.a) t.b) t.c
structure LeP (p q : PT) : Prop where
 x : p.x ≤ q.x
 y : p.y ≤ q.y
 z : p.z ≤ q.z
theorem LeP.tr {p q s : PT} (h : LeP p q) (h' : LeP q s) : LeP p s := ⟨Int.le_trans h.x h'.x, Int.le_trans h.y h'.y, Int.le_trans h.z h'.z⟩
theorem min_l (p q : PT) : LeP (minP p q) p := by constructor <;> simp only [minP, minI] <;> split <;> omega
theorem min_r (p q : PT) : LeP (minP p q) q := by constructor <;> simp only [minP, minI] <;> split <;> omega
theorem max_l (p q : PT) : LeP p (maxP p q) := by constructor <;> simp only [maxP, maxI] <;> split <;> omega
theorem max_r (p q : PT) : LeP q (maxP p q) := by constructor <;> simp only [maxP, maxI] <;> split <;> omega
theorem min_sm {p q : PT} (h : SmP p) (h' : SmP q) : SmP (minP p q) := by
 obtain ⟨a, b, c⟩ := h
 obtain ⟨a', b', c'⟩ := h'
 constructor <;> simp only [minP, minI] <;> split <;> assumption
theorem max_sm {p q : PT} (h : SmP p) (h' : SmP q) : SmP (maxP p q) := by
 obtain ⟨a, b, c⟩ := h
 obtain ⟨a', b', c'⟩ := h'
 constructor <;> simp only [maxP, maxI] <;> split <;> assumption
theorem in_le {lo hi p : PT} (h : LeP lo p) (h' : LeP p hi) : InB lo.v hi.v p.v := ⟨h.x, h'.x, h.y, h'.y, h.z, h'.z⟩
theorem in_wide {lo hi lo' hi' p : PT} (h : InB lo.v hi.v p.v) (h1 : LeP lo' lo) (h2 : LeP hi hi') : InB lo'.v hi'.v p.v := ⟨Int.le_trans h1.x h.x1, Int.le_trans h.x2 h2.x, Int.le_trans h1.y h.y1, Int.le_trans h.y2 h2.y, Int.le_trans h1.z h.z1, Int.le_trans h.z2 h2.z⟩
structure HInv (l : List TR) (k : Nat) (lo hi : PT) : Prop where
 slo : SmP lo
 shi : SmP hi
 inb : ∀ j t, j < k → l[j]? = some t → InT lo hi t
theorem hinv_step {l : List TR} {k : Nat} {lo hi : PT} (h : HInv l k lo hi) (hl : ∀ t ∈ l, SmT t) (hk : k < l.length) : HInv l (k + 1) (minT lo l[k]) (maxT hi l[k]) := by
 obtain ⟨s1, s2, s3⟩ := hl _ (List.getElem_mem hk)
 refine ⟨min_sm (min_sm (min_sm h.slo s1) s2) s3, max_sm (max_sm (max_sm h.shi s1) s2) s3, fun j t hj ht => ?_⟩
 have l1 : LeP (minT lo l[k]) lo := ((min_l _ _).tr (min_l _ _)).tr (min_l _ _)
 have l2 : LeP hi (maxT hi l[k]) := (max_l _ _).tr ((max_l _ _).tr (max_l _ _))
 by_cases e : j = k
 ·subst e
  rw [List.getElem?_eq_getElem hk] at ht
  cases ht
  exact ⟨in_le (((min_l _ _).tr (min_l _ _)).tr (min_r _ _)) ((max_r _ _).tr ((max_l _ _).tr (max_l _ _))), in_le ((min_l _ _).tr (min_r _ _)) ((max_r _ _).tr (max_l _ _)), in_le (min_r _ _) (max_r _ _)⟩
 ·obtain ⟨a, b, c⟩ := h.inb j t (by omega) ht
  exact ⟨in_wide a l1 l2, in_wide b l1 l2, in_wide c l1 l2⟩
def wdP (p : PT) (n : Int) : PT := ⟨IntKind.i64.wrap (p.x + n), IntKind.i64.wrap (p.y + n), IntKind.i64.wrap (p.z + n), IR.wrap _, IR.wrap _, IR.wrap _⟩
theorem wd_lo {p : PT} (h : SmP p) : LeP (wdP p (-1)) p := by
 obtain ⟨a, b, c⟩ := h
 constructor <;> simp only [wdP] <;> rw [w_id (by omega)] <;> omega
theorem wd_hi {p : PT} (h : SmP p) : LeP p (wdP p 1) := by
 obtain ⟨a, b, c⟩ := h
 constructor <;> simp only [wdP] <;> rw [w_id (by omega)] <;> omega
theorem bbR (R : RI) (p q : PT) : BoxB R.z3 p.v q.v := box_bits R.hx R.hy R.hz R.hw R.ha R.hb R.hc p.hx p.hy p.hz q.hx q.hy q.hz
noncomputable def hitI (R : RI) (p q : PT) : List C := [.wid 300 (bI R.z3 p.v q.v).num (boxR_qb (bbR R p q)).1.1, .wid 300 ((bI R.z3 p.v q.v).den : Int) (boxR_qb (bbR R p q)).1.2]
noncomputable def hitO (R : RI) (p q : PT) : List C := [.wid 300 (bO R.z3 p.v q.v).num (boxR_qb (bbR R p q)).2.1, .wid 300 ((bO R.z3 p.v q.v).den : Int) (boxR_qb (bbR R p q)).2.2]
section
variable {l : List TR} {lo hi : PT} {R : RI} {k : Nat} (hI : HInv l l.length lo hi) (hlt : k < l.length) (hc : crB R l[k] = true)
include hI hlt hc
theorem hit_all : bB R.z3 (wdP lo (-1)).v (wdP hi 1).v = true ∧ ¬ ratOf (crN R l[k]) (crD R l[k]) < bI R.z3 (wdP lo (-1)).v (wdP hi 1).v ∧ ¬ bO R.z3 (wdP lo (-1)).v (wdP hi 1).v < ratOf (crN R l[k]) (crD R l[k]) := by
 obtain ⟨a, b, c⟩ := hI.inb k _ hlt (List.getElem?_eq_getElem hlt)
 have w1 := wd_lo hI.slo
 have w2 := wd_hi hI.shi
 exact hit_ok hc (in_wide a w1 w2) (in_wide b w1 w2) (in_wide c w1 w2)
theorem hit_1 (h : (!bB R.z3 (wdP lo (-1)).v (wdP hi 1).v) = true) : False := by
 rw [(hit_all hI hlt hc).1] at h; cases h
theorem hit_2 (h : decide ((pN (crN R l[k]) (crD R l[k]) * pD ((bI R.z3 (wdP lo (-1)).v (wdP hi 1).v).den : Int) - pN (bI R.z3 (wdP lo (-1)).v (wdP hi 1).v).num ((bI R.z3 (wdP lo (-1)).v (wdP hi 1).v).den : Int) * pD (crD R l[k])).sign < 0) = true) : False := by
 rw [cmpR_lt, ratOf_q] at h
 exact (hit_all hI hlt hc).2.1 (of_decide_eq_true h)
theorem hit_3 (h : decide (0 < (pN (crN R l[k]) (crD R l[k]) * pD ((bO R.z3 (wdP lo (-1)).v (wdP hi 1).v).den : Int) - pN (bO R.z3 (wdP lo (-1)).v (wdP hi 1).v).num ((bO R.z3 (wdP lo (-1)).v (wdP hi 1).v).den : Int) * pD (crD R l[k])).sign) = true) : False := by
 rw [cmpR_gt, ratOf_q] at h
 exact (hit_all hI hlt hc).2.2 (of_decide_eq_true h)
end
def dHw : Dn
 | [.agg [.int x _, .int y _, .int z _], .c (.int n _)] =>
  some (none, .agg [.int (IntKind.i64.wrap (x + n)) (IR.wrap _), .int (IntKind.i64.wrap (y + n)) (IR.wrap _), .int (IntKind.i64.wrap (z + n)) (IR.wrap _)])
 | _ => none
theorem spHw : SpOk Tryz.prog 20 dHw := sp_of2 (un := 20) (n := 0) ⟨Tryz.func20, by kernel_rfl, by kernel_rfl⟩ baseLL_ok noF_ok fun args p v hd => by
 unfold dHw at hd
 split at hd
 ·rename_i x1 hx1 y1 hy1 z1 hz1 n hn
  cases hd
  refine ⟨[.agg [.int x1 hx1, .int y1 hy1, .int z1 hz1], .c (.int n hn)], fun _=>rfl,fun _ _=>rfl,fun _ _=>rfl,fun _ => ?_⟩
  conv => whnf
  exact fun _=>rfl
 ·cases hd
noncomputable def baseHi : List (FuncId × Dn) := (20, dHw) :: (17, dBox) :: baseLL
theorem baseHi_ok : AllOk baseHi := .cons spHw <| .cons spBoxY <| baseLL_ok
abbrev rdHi : List (FuncId × Dr) := []
theorem rdHi_ok : AllR rdHi := .nil
theorem ir_z0 : IR ((0 : Nat) : Int) := by decide
theorem subC_p0 : ∀ {l : List TR} (h : 0 < l.length), subC (trsC l) (0 + 0 * 9 + 0) 3 = some (ptC l[0].a)
 | _ :: _, _ => rfl
theorem hlen0 {n : Nat} (h : decide ((n : Int) = 0) = false) : 0 < n := by
 have := of_decide_eq_false h; omega
theorem imp_viaS {Z : (o : OT) → ((∀ t ∈ o.l, SmT t) ∧ o.l.length ≤ 1000000) → Prop} {G : Prop} (h : (∀ o hh, Z o hh) → G) (z : ∀ o hh, Z o hh) : G := h z
noncomputable abbrev EHi : Env := envN 0 baseHi rdHi fun _ => false
set_option maxHeartbeats 16000000 in
theorem csLawHi : CSp Tryz.prog 5 cLaw := csp_of (envN_ok baseHi_ok rdHi_ok 0 fun _ => false) mixed (hnew_ok lawC_ok (inl_ok (envN_ok baseHi_ok rdHi_ok 20 fun _ => false) mixed noF_ok 0)) ⟨Tryz.func5, by kernel_rfl, by kernel_rfl⟩ fun args ros K hc => by
 obtain ⟨⟨r, b, v, ty, L, rfl,rfl,hv⟩, hc⟩ := hc
 refine imp_viaS (Z := ?zl) (fun hmg => ?curl) ?nxtl
 case curl =>
  rcases hv with ⟨nl, len, cap, hl, rfl, hL⟩ | ⟨a, cap, rfl, hL0, _⟩
  ·refine ⟨fun ρ ρ' e => ?_, ?_⟩
   ·have := e 0 (Nat.zero_lt_one)
    simp only [List.map, SV.den, C.den, C.cells, this]
    rfl
   conv => whnf
   refine ⟨⟨intsC_pure L, trivial⟩, .inl ⟨_, _, _, _, _, _, L, rfl,rfl,hL, fun o ho => ?_⟩⟩
   have hn : o.l.length ≤ 1000000 := by rw [ho]; exact Nat.le_trans (shpL_len _ _ _) (by decide)
   have hsm : ∀ t ∈ o.l, SmT t := by rw [ho]; exact shp_sm _ _ _
   have hh : (∀ t ∈ o.l, SmT t) ∧ o.l.length ≤ 1000000 := ⟨hsm, hn⟩
   conv => whnf
   refine bcase_intro (fun h0 => ?_) (fun h0 => ?_)
   ·conv => whnf
    refine ⟨[0], [0], fun vs3 => ?_⟩
    conv => whnf
    refine ⟨intsC_pure L, ?_⟩
    conv => whnf
    refine ⟨_, [], rfl, ⟨⟨rfl,rfl,rfl, fun _=>rfl⟩, trivial⟩, trivial, _, fun ρ => ?_, hc⟩
    rfl
   ·have h0 : 0 < o.l.length := hlen0 h0
    conv => whnf
    conv =>
     arg 2
     tactic' =>
      apply eff_index_sli (k := 0) (hi := ir_z0) (ho := ?how13) (hT := ?hTw13) (hx := ?hxw13) (hk := ?hkw13) (hlt := ?hltw13)
      case how13 => rfl
      case hTw13 => rfl
      case hxw13 => rfl
      case hkw13 => rfl
      case hltw13 => exact h0
    conv => whnf
    conv =>
     arg 2
     tactic' =>
      apply eff_load_sub (ho := ?how14) (hT := ?hTw14) (hx := ?hxw14) (hb := ?hbw14) (hm := ?hmw14) (hv := ?hvw14)
      case how14 => rfl
      case hTw14 => rfl
      case hxw14 => rfl
      case hbw14 => rfl
      case hmw14 => exact subC_p0 h0
      case hvw14 => rfl
    conv => whnf
    conv =>
     arg 2
     tactic' =>
      apply eff_index_sli (k := 0) (hi := ir_z0) (ho := ?how15) (hT := ?hTw15) (hx := ?hxw15) (hk := ?hkw15) (hlt := ?hltw15)
      case how15 => rfl
      case hTw15 => rfl
      case hxw15 => rfl
      case hkw15 => rfl
      case hltw15 => exact h0
    conv => whnf
    conv =>
     arg 2
     tactic' =>
      apply eff_load_sub (ho := ?how16) (hT := ?hTw16) (hx := ?hxw16) (hb := ?hbw16) (hm := ?hmw16) (hv := ?hvw16)
      case how16 => rfl
      case hTw16 => rfl
      case hxw16 => rfl
      case hbw16 => rfl
      case hmw16 => exact subC_p0 h0
      case hvw16 => rfl
    conv => whnf
    conv => whnf
    refine loop_st (G := {g : Nat × PT × PT // g.1 ≤ o.l.length ∧ HInv o.l g.1 g.2.1 g.2.2} × (Nat → Value)) (fun g => (.c (.val (g.2 0)) :: .c (.val (g.2 1)) :: .c (.val (g.2 2)) :: .c (.ptr 1 0) :: .c (.val (g.2 4)) :: .c (.val (g.2 5)) :: .c (.val (g.2 6)) :: .c (.val (.bool true)) :: o.sl 2 :: .c (.ptr 3 0) :: .c (.ptr 4 0) :: .c (.val (g.2 11)) :: .c (.val (g.2 12)) :: .c (.val (g.2 13)) :: .c (.val (g.2 14)) :: .c (.val (g.2 15)) :: .c (.val (g.2 16)) :: .c (.val (g.2 17)) :: .c (.val (g.2 18)) :: .c (.val (g.2 19)) :: .c (.val (g.2 20)) :: .c (.val (g.2 21)) :: .c (.val (g.2 22)) :: .c (.val (g.2 23)) :: .c (.val (g.2 24)) :: .c (.val (g.2 25)) :: .c (.val (g.2 26)) :: .c (.val (g.2 27)) :: .c (.val (g.2 28)) :: .c (.val (g.2 29)) :: .c (.val (g.2 30)) :: .c (.val (g.2 31)) :: .c (.val (g.2 32)) :: .c (.val (g.2 33)) :: .c (.val (g.2 34)) :: .c (.val (g.2 35)) :: .c (.val (g.2 36)) :: .c (.val (g.2 37)) :: .c (.val (g.2 38)) :: .c (.val (g.2 39)) :: .c (.val (g.2 40)) :: o.sl 2 :: .c (.int (o.l.length : Nat) o.ok.ir) :: .c (.int (g.1.1.1 : Nat) (lt_irT o.ok g.1.2.1)) :: .c (.val (g.2 44)) :: .c (.val (g.2 45)) :: .c (.val (g.2 46)) :: .c (.val (g.2 47)) :: .c (.val (g.2 48)) :: .c (.val (g.2 49)) :: .c (.val (g.2 50)) :: .c (.val (g.2 51)) :: .c (.val (g.2 52)) :: .c (.val (g.2 53)) :: .c (.val (g.2 54)) :: .c (.val (g.2 55)) :: .c (.val (g.2 56)) :: .c (.val (g.2 57)) :: .c (.val (g.2 58)) :: .c (.val (g.2 59)) :: .c (.val (g.2 60)) :: .c (.val (g.2 61)) :: .c (.val (g.2 62)) :: .c (.val (g.2 63)) :: .c (.val (g.2 64)) :: .c (.val (g.2 65)) :: .c (.val (g.2 66)) :: .c (.val (g.2 67)) :: .c (.val (g.2 68)) :: .c (.val (g.2 69)) :: .c (.val (g.2 70)) :: .c (.val (g.2 71)) :: .c (.val (g.2 72)) :: .c (.val (g.2 73)) :: .c (.val (g.2 74)) :: .c (.val (g.2 75)) :: .c (.val (g.2 76)) :: .c (.val (g.2 77)) :: .c (.val (g.2 78)) :: .c (.val (g.2 79)) :: .c (.val (g.2 80)) :: .c (.val (g.2 81)) :: .c (.val (g.2 82)) :: .c (.val (g.2 83)) :: .c (.val (g.2 84)) :: .c (.val (g.2 85)) :: .c (.val (g.2 86)) :: .c (.val (g.2 87)) :: .c (.val (g.2 88)) :: .c (.val (g.2 89)) :: .c (.val (g.2 90)) :: .c (.val (g.2 91)) :: .c (.val (g.2 92)) :: .c (.val (g.2 93)) :: .c (.val (g.2 94)) :: .c (.val (g.2 95)) :: .c (.val (g.2 96)) :: .c (.val (g.2 97)) :: .c (.val (g.2 98)) :: .c (.val (g.2 99)) :: .c (.val (g.2 100)) :: .c (.val (g.2 101)) :: .c (.val (g.2 102)) :: .c (.val (g.2 103)) :: .c (.val (g.2 104)) :: .c (.val (g.2 105)) :: .c (.val (g.2 106)) :: .c (.val (g.2 107)) :: .c (.val (g.2 108)) :: .c (.val (g.2 109)) :: .c (.val (g.2 110)) :: .c (.val (g.2 111)) :: .c (.val (g.2 112)) :: .c (.val (g.2 113)) :: .c (.val (g.2 114)) :: .c (.val (g.2 115)) :: .c (.val (g.2 116)) :: .c (.val (g.2 117)) :: .c (.val (g.2 118)) :: .c (.val (g.2 119)) :: .c (.val (g.2 120)) :: .c (.val (g.2 121)) :: .c (.val (g.2 122)) :: .c (.val (g.2 123)) :: .c (.val (g.2 124)) :: .c (.val (g.2 125)) :: .c (.val (g.2 126)) :: .c (.val (g.2 127)) :: [])) (fun g => [⟨ty, true, intsC L, 0⟩, ⟨24, false, riC (nearI r), 0⟩, o.blk, ⟨26, false, ptC g.1.1.2.1, 0⟩, ⟨26, false, ptC g.1.1.2.2, 0⟩]) (fun g => o.l.length - g.1.1.1) ?_ ?_
    ·refine ⟨[0,1,2,3,4], [3,7,8,9,10,41,42,43], [0,1,2,3,4], fun vs => ?_⟩
     conv => whnf
     refine ⟨intsC_pure L, fun _ _=>rfl,o.new.1, fun _ _=>rfl,fun _ _=>rfl,?_⟩
     conv => whnf
     refine ⟨_, _, ?_, ?_, (⟨(0, o.l[0].a, o.l[0].a), Nat.zero_le _, ⟨(hsm _ (List.getElem_mem h0)).a, (hsm _ (List.getElem_mem h0)).a, fun j t hj => absurd hj (Nat.not_lt_zero j)⟩⟩, vs), rfl, rfl⟩
     ·exact stm _
     ·exact ⟨⟨rfl,rfl,rfl, fun _=>rfl⟩, ⟨rfl,rfl,rfl, fun _=>rfl⟩, ⟨rfl,rfl,rfl, fun _=>rfl⟩, ⟨rfl,rfl,rfl, fun _=>rfl⟩, ⟨rfl,rfl,rfl, fun _=>rfl⟩, trivial⟩
    ·exact hmg o hh
  ·refine ⟨fun ρ ρ' _ => rfl, ?_⟩
   conv => whnf
   refine ⟨trivial, .inr ⟨_, _, _, rfl,rfl,fun o ho => ?_⟩⟩
   have hn : o.l.length ≤ 1000000 := by rw [ho]; exact Nat.le_trans (shpL_len _ _ _) (by decide)
   have hsm : ∀ t ∈ o.l, SmT t := by rw [ho]; exact shp_sm _ _ _
   have hh : (∀ t ∈ o.l, SmT t) ∧ o.l.length ≤ 1000000 := ⟨hsm, hn⟩
   conv => whnf
   refine bcase_intro (fun h0 => ?_) (fun h0 => ?_)
   ·conv => whnf
    refine ⟨[0], [0], fun vs3 => ?_⟩
    conv => whnf
    refine ⟨intsC_pure L, ?_⟩
    conv => whnf
    refine ⟨_, [], rfl, ⟨⟨rfl,rfl,rfl, fun _=>rfl⟩, trivial⟩, trivial, _, fun ρ => ?_, hc⟩
    rfl
   ·have h0 : 0 < o.l.length := hlen0 h0
    conv => whnf
    conv =>
     arg 2
     tactic' =>
      apply eff_index_sli (k := 0) (hi := ir_z0) (ho := ?how13) (hT := ?hTw13) (hx := ?hxw13) (hk := ?hkw13) (hlt := ?hltw13)
      case how13 => rfl
      case hTw13 => rfl
      case hxw13 => rfl
      case hkw13 => rfl
      case hltw13 => exact h0
    conv => whnf
    conv =>
     arg 2
     tactic' =>
      apply eff_load_sub (ho := ?how14) (hT := ?hTw14) (hx := ?hxw14) (hb := ?hbw14) (hm := ?hmw14) (hv := ?hvw14)
      case how14 => rfl
      case hTw14 => rfl
      case hxw14 => rfl
      case hbw14 => rfl
      case hmw14 => exact subC_p0 h0
      case hvw14 => rfl
    conv => whnf
    conv =>
     arg 2
     tactic' =>
      apply eff_index_sli (k := 0) (hi := ir_z0) (ho := ?how15) (hT := ?hTw15) (hx := ?hxw15) (hk := ?hkw15) (hlt := ?hltw15)
      case how15 => rfl
      case hTw15 => rfl
      case hxw15 => rfl
      case hkw15 => rfl
      case hltw15 => exact h0
    conv => whnf
    conv =>
     arg 2
     tactic' =>
      apply eff_load_sub (ho := ?how16) (hT := ?hTw16) (hx := ?hxw16) (hb := ?hbw16) (hm := ?hmw16) (hv := ?hvw16)
      case how16 => rfl
      case hTw16 => rfl
      case hxw16 => rfl
      case hbw16 => rfl
      case hmw16 => exact subC_p0 h0
      case hvw16 => rfl
    conv => whnf
    conv => whnf
    refine loop_st (G := {g : Nat × PT × PT // g.1 ≤ o.l.length ∧ HInv o.l g.1 g.2.1 g.2.2} × (Nat → Value)) (fun g => (.c (.val (g.2 0)) :: .c (.val (g.2 1)) :: .c (.val (g.2 2)) :: .c (.ptr 1 0) :: .c (.val (g.2 4)) :: .c (.val (g.2 5)) :: .c (.val (g.2 6)) :: .c (.val (.bool true)) :: o.sl 2 :: .c (.ptr 3 0) :: .c (.ptr 4 0) :: .c (.val (g.2 11)) :: .c (.val (g.2 12)) :: .c (.val (g.2 13)) :: .c (.val (g.2 14)) :: .c (.val (g.2 15)) :: .c (.val (g.2 16)) :: .c (.val (g.2 17)) :: .c (.val (g.2 18)) :: .c (.val (g.2 19)) :: .c (.val (g.2 20)) :: .c (.val (g.2 21)) :: .c (.val (g.2 22)) :: .c (.val (g.2 23)) :: .c (.val (g.2 24)) :: .c (.val (g.2 25)) :: .c (.val (g.2 26)) :: .c (.val (g.2 27)) :: .c (.val (g.2 28)) :: .c (.val (g.2 29)) :: .c (.val (g.2 30)) :: .c (.val (g.2 31)) :: .c (.val (g.2 32)) :: .c (.val (g.2 33)) :: .c (.val (g.2 34)) :: .c (.val (g.2 35)) :: .c (.val (g.2 36)) :: .c (.val (g.2 37)) :: .c (.val (g.2 38)) :: .c (.val (g.2 39)) :: .c (.val (g.2 40)) :: o.sl 2 :: .c (.int (o.l.length : Nat) o.ok.ir) :: .c (.int (g.1.1.1 : Nat) (lt_irT o.ok g.1.2.1)) :: .c (.val (g.2 44)) :: .c (.val (g.2 45)) :: .c (.val (g.2 46)) :: .c (.val (g.2 47)) :: .c (.val (g.2 48)) :: .c (.val (g.2 49)) :: .c (.val (g.2 50)) :: .c (.val (g.2 51)) :: .c (.val (g.2 52)) :: .c (.val (g.2 53)) :: .c (.val (g.2 54)) :: .c (.val (g.2 55)) :: .c (.val (g.2 56)) :: .c (.val (g.2 57)) :: .c (.val (g.2 58)) :: .c (.val (g.2 59)) :: .c (.val (g.2 60)) :: .c (.val (g.2 61)) :: .c (.val (g.2 62)) :: .c (.val (g.2 63)) :: .c (.val (g.2 64)) :: .c (.val (g.2 65)) :: .c (.val (g.2 66)) :: .c (.val (g.2 67)) :: .c (.val (g.2 68)) :: .c (.val (g.2 69)) :: .c (.val (g.2 70)) :: .c (.val (g.2 71)) :: .c (.val (g.2 72)) :: .c (.val (g.2 73)) :: .c (.val (g.2 74)) :: .c (.val (g.2 75)) :: .c (.val (g.2 76)) :: .c (.val (g.2 77)) :: .c (.val (g.2 78)) :: .c (.val (g.2 79)) :: .c (.val (g.2 80)) :: .c (.val (g.2 81)) :: .c (.val (g.2 82)) :: .c (.val (g.2 83)) :: .c (.val (g.2 84)) :: .c (.val (g.2 85)) :: .c (.val (g.2 86)) :: .c (.val (g.2 87)) :: .c (.val (g.2 88)) :: .c (.val (g.2 89)) :: .c (.val (g.2 90)) :: .c (.val (g.2 91)) :: .c (.val (g.2 92)) :: .c (.val (g.2 93)) :: .c (.val (g.2 94)) :: .c (.val (g.2 95)) :: .c (.val (g.2 96)) :: .c (.val (g.2 97)) :: .c (.val (g.2 98)) :: .c (.val (g.2 99)) :: .c (.val (g.2 100)) :: .c (.val (g.2 101)) :: .c (.val (g.2 102)) :: .c (.val (g.2 103)) :: .c (.val (g.2 104)) :: .c (.val (g.2 105)) :: .c (.val (g.2 106)) :: .c (.val (g.2 107)) :: .c (.val (g.2 108)) :: .c (.val (g.2 109)) :: .c (.val (g.2 110)) :: .c (.val (g.2 111)) :: .c (.val (g.2 112)) :: .c (.val (g.2 113)) :: .c (.val (g.2 114)) :: .c (.val (g.2 115)) :: .c (.val (g.2 116)) :: .c (.val (g.2 117)) :: .c (.val (g.2 118)) :: .c (.val (g.2 119)) :: .c (.val (g.2 120)) :: .c (.val (g.2 121)) :: .c (.val (g.2 122)) :: .c (.val (g.2 123)) :: .c (.val (g.2 124)) :: .c (.val (g.2 125)) :: .c (.val (g.2 126)) :: .c (.val (g.2 127)) :: [])) (fun g => [⟨ty, true, intsC L, 0⟩, ⟨24, false, riC (nearI r), 0⟩, o.blk, ⟨26, false, ptC g.1.1.2.1, 0⟩, ⟨26, false, ptC g.1.1.2.2, 0⟩]) (fun g => o.l.length - g.1.1.1) ?_ ?_
    ·refine ⟨[0,1,2,3,4], [3,7,8,9,10,41,42,43], [0,1,2,3,4], fun vs => ?_⟩
     conv => whnf
     refine ⟨intsC_pure L, fun _ _=>rfl,o.new.1, fun _ _=>rfl,fun _ _=>rfl,?_⟩
     conv => whnf
     refine ⟨_, _, ?_, ?_, (⟨(0, o.l[0].a, o.l[0].a), Nat.zero_le _, ⟨(hsm _ (List.getElem_mem h0)).a, (hsm _ (List.getElem_mem h0)).a, fun j t hj => absurd hj (Nat.not_lt_zero j)⟩⟩, vs), rfl, rfl⟩
     ·exact stm _
     ·exact ⟨⟨rfl,rfl,rfl, fun _=>rfl⟩, ⟨rfl,rfl,rfl, fun _=>rfl⟩, ⟨rfl,rfl,rfl, fun _=>rfl⟩, ⟨rfl,rfl,rfl, fun _=>rfl⟩, ⟨rfl,rfl,rfl, fun _=>rfl⟩, trivial⟩
    ·exact hmg o hh
 case nxtl =>
  intro o hh
  obtain ⟨hsm, hn⟩ := hh
  rintro ⟨⟨⟨k, lo, hi⟩, hk, hI⟩, vs⟩
  conv => whnf
  refine bcase_intro (fun hlt => ?_) (fun hlt => ?_)
  ·have hlt : k < o.l.length := n_lt hlt
   conv => whnf
   conv =>
    arg 2
    tactic' =>
     apply eff_index_sli (ho := ?how11) (hT := ?hTw11) (hx := ?hxw11) (hk := ?hkw11) (hlt := ?hltw11)
     case how11 => rfl
     case hTw11 => rfl
     case hxw11 => rfl
     case hkw11 => rfl
     case hltw11 => exact hlt
   conv => whnf
   conv =>
    arg 2
    tactic' =>
     apply eff_load_sub (ho := ?how12) (hT := ?hTw12) (hx := ?hxw12) (hb := ?hbw12) (hm := ?hmw12) (hv := ?hvw12)
     case how12 => rfl
     case hTw12 => rfl
     case hxw12 => rfl
     case hbw12 => rfl
     case hmw12 => exact (by rw [Nat.zero_add]; exact subC_trs o.l hlt : subC (trsC o.l) (0 + k * 9) 9 = some (trC o.l[k]))
     case hvw12 => rfl
   conv => whnf
   refine .inl ⟨4, ?_⟩
   conv => whnf
   refine ⟨[0,1,2,3,4], [3,7,8,9,10,41,42,43], [0,1,2,3,4], fun vs2 => ?_⟩
   conv => whnf
   refine ⟨intsC_pure L, fun _ _=>rfl,o.new.1, fun _ _=>rfl,fun _ _=>rfl,?_⟩
   conv => whnf
   refine ⟨_, _, ?_, ?_, (⟨(k + 1, minT lo o.l[k], maxT hi o.l[k]), hlt, hinv_step hI hsm hlt⟩, vs2), (by omega : o.l.length - (k + 1) < o.l.length - k), rfl, rfl⟩
   ·exact ⟨fun _=>rfl,fun _=>rfl,fun _=>rfl,fun _=>rfl,fun _=>rfl,fun _=>rfl,fun _=>rfl,fun _=>rfl,fun _=>rfl,fun _=>rfl,fun _=>rfl,fun _=>rfl,fun _=>rfl,fun _=>rfl,fun _=>rfl,fun _=>rfl,fun _=>rfl,fun _=>rfl,fun _=>rfl,fun _=>rfl,fun _=>rfl,fun _=>rfl,fun _=>rfl,fun _=>rfl,fun _=>rfl,fun _=>rfl,fun _=>rfl,fun _=>rfl,fun _=>rfl,fun _=>rfl,fun _=>rfl,fun _=>rfl,fun _=>rfl,fun _=>rfl,fun _=>rfl,fun _=>rfl,fun _=>rfl,fun _=>rfl,fun _=>rfl,fun _=>rfl,fun _=>rfl,fun _=>rfl,fun _=>rfl,fun ρ => sint_e (wrap_add1 hlt o.ok.ir) ρ, stm _⟩
   ·exact ⟨⟨rfl,rfl,rfl, fun _=>rfl⟩, ⟨rfl,rfl,rfl, fun _=>rfl⟩, ⟨rfl,rfl,rfl, fun _=>rfl⟩, ⟨rfl,rfl,rfl, fun _=>rfl⟩, ⟨rfl,rfl,rfl, fun _=>rfl⟩, trivial⟩
  ·have e : k = o.l.length := Nat.le_antisymm hk (n_ge hlt)
   subst e
   conv => whnf
   refine loop_st (G := {k : Nat // k ≤ o.l.length} × (Nat → Value)) (fun g => (.c (.val (g.2 0)) :: .c (.val (g.2 1)) :: .c (.val (g.2 2)) :: .c (.ptr 1 0) :: .c (.val (g.2 4)) :: .c (.val (g.2 5)) :: .c (.val (g.2 6)) :: .c (.val (.bool true)) :: .c (.val (g.2 8)) :: .c (.val (g.2 9)) :: .c (.val (g.2 10)) :: .c (.val (g.2 11)) :: .c (.val (g.2 12)) :: .c (.val (g.2 13)) :: .c (.val (g.2 14)) :: .c (.val (g.2 15)) :: .c (.ptr 3 0) :: .c (.ptr 4 0) :: .c (.val (.bool (bB (nearI r).z3 (wdP lo (-1)).v (wdP hi 1).v))) :: .c (.val (g.2 19)) :: .c (.val (g.2 20)) :: .c (.val (g.2 21)) :: .c (.val (g.2 22)) :: .c (.val (g.2 23)) :: .c (.val (g.2 24)) :: .c (.val (g.2 25)) :: .c (.val (g.2 26)) :: .c (.val (g.2 27)) :: .c (.val (g.2 28)) :: .c (.val (g.2 29)) :: .c (.val (g.2 30)) :: .c (.val (g.2 31)) :: .c (.val (g.2 32)) :: .c (.val (g.2 33)) :: .c (.val (g.2 34)) :: .c (.val (g.2 35)) :: .c (.val (g.2 36)) :: .c (.val (g.2 37)) :: .c (.val (g.2 38)) :: .c (.val (g.2 39)) :: .c (.val (g.2 40)) :: .c (.val (g.2 41)) :: .c (.val (g.2 42)) :: .c (.val (g.2 43)) :: .c (.val (g.2 44)) :: .c (.val (g.2 45)) :: .c (.val (g.2 46)) :: .c (.val (g.2 47)) :: .c (.val (g.2 48)) :: .c (.val (g.2 49)) :: .c (.val (g.2 50)) :: .c (.val (g.2 51)) :: .c (.val (g.2 52)) :: .c (.val (g.2 53)) :: .c (.val (g.2 54)) :: .c (.val (g.2 55)) :: .c (.val (g.2 56)) :: .c (.val (g.2 57)) :: .c (.val (g.2 58)) :: .c (.val (g.2 59)) :: .c (.val (g.2 60)) :: .c (.val (g.2 61)) :: .c (.val (g.2 62)) :: .c (.val (g.2 63)) :: .c (.val (g.2 64)) :: .c (.val (g.2 65)) :: .c (.val (g.2 66)) :: .c (.val (g.2 67)) :: .c (.val (g.2 68)) :: .c (.val (g.2 69)) :: .c (.val (g.2 70)) :: .c (.val (g.2 71)) :: .c (.val (g.2 72)) :: .c (.val (g.2 73)) :: .c (.val (g.2 74)) :: .c (.val (g.2 75)) :: .c (.val (g.2 76)) :: .c (.val (g.2 77)) :: .c (.val (g.2 78)) :: .c (.val (g.2 79)) :: .c (.val (g.2 80)) :: .c (.val (g.2 81)) :: .c (.val (g.2 82)) :: .c (.val (g.2 83)) :: .c (.val (g.2 84)) :: .c (.val (g.2 85)) :: .c (.val (g.2 86)) :: .c (.val (g.2 87)) :: .c (.val (g.2 88)) :: .c (.val (g.2 89)) :: .c (.val (g.2 90)) :: .c (.val (g.2 91)) :: .c (.val (g.2 92)) :: .c (.val (g.2 93)) :: .c (.val (g.2 94)) :: .c (.val (g.2 95)) :: .c (.val (g.2 96)) :: o.sl 2 :: .c (.int (o.l.length : Nat) o.ok.ir) :: .c (.int (g.1.1 : Nat) (lt_irT o.ok g.1.2)) :: .c (.val (g.2 100)) :: .c (.val (g.2 101)) :: .c (.val (g.2 102)) :: .c (.val (g.2 103)) :: .c (.val (g.2 104)) :: .c (.val (g.2 105)) :: .c (.val (g.2 106)) :: .c (.val (g.2 107)) :: .c (.val (g.2 108)) :: .c (.val (g.2 109)) :: .c (.val (g.2 110)) :: .c (.val (g.2 111)) :: .c (.val (g.2 112)) :: .c (.val (g.2 113)) :: .c (.val (g.2 114)) :: .c (.val (g.2 115)) :: .c (.val (g.2 116)) :: .c (.val (g.2 117)) :: .c (.val (g.2 118)) :: .c (.val (g.2 119)) :: .c (.val (g.2 120)) :: .c (.val (g.2 121)) :: .c (.val (g.2 122)) :: .c (.val (g.2 123)) :: .c (.val (g.2 124)) :: .c (.val (g.2 125)) :: .c (.val (g.2 126)) :: .c (.val (g.2 127)) :: [])) (fun g => [⟨ty, true, intsC L, 0⟩, ⟨24, false, riC (nearI r), 0⟩, o.blk, ⟨37, false, hitI (nearI r) (wdP lo (-1)) (wdP hi 1), 0⟩, ⟨37, false, hitO (nearI r) (wdP lo (-1)) (wdP hi 1), 0⟩]) (fun g => o.l.length - g.1.1) ?_ ?_
   ·refine ⟨[0,1,2,5,6], [3,7,16,17,18,97,98,99], [0,1,2,3,4], fun vs => ?_⟩
    conv => whnf
    refine ⟨intsC_pure L, fun _ _=>rfl,o.new.1, fun _ _=>rfl,fun _ _=>rfl,?_⟩
    conv => whnf
    refine ⟨_, _, ?_, ?_, (⟨0, Nat.zero_le _⟩, vs), rfl, rfl⟩
    ·exact stm _
    ·exact ⟨⟨rfl,rfl,rfl, fun _=>rfl⟩, ⟨rfl,rfl,rfl, fun _=>rfl⟩, ⟨rfl,rfl,rfl, fun _=>rfl⟩, ⟨rfl,rfl,rfl, fun _=>rfl⟩, ⟨rfl,rfl,rfl, fun _=>rfl⟩, trivial⟩
   ·rintro ⟨⟨k, hk⟩, vs⟩
    conv => whnf
    refine bcase_intro (fun hlt => ?_) (fun hlt => ?_)
    ·have hlt : k < o.l.length := n_lt hlt
     conv => whnf
     conv =>
      arg 2
      tactic' =>
       apply eff_index_sli (ho := ?how9) (hT := ?hTw9) (hx := ?hxw9) (hk := ?hkw9) (hlt := ?hltw9)
       case how9 => rfl
       case hTw9 => rfl
       case hxw9 => rfl
       case hkw9 => rfl
       case hltw9 => exact hlt
     conv => whnf
     conv =>
      arg 2
      tactic' =>
       apply eff_load_sub (ho := ?how10) (hT := ?hTw10) (hx := ?hxw10) (hb := ?hbw10) (hm := ?hmw10) (hv := ?hvw10)
       case how10 => rfl
       case hTw10 => rfl
       case hxw10 => rfl
       case hbw10 => rfl
       case hmw10 => exact (by rw [Nat.zero_add]; exact subC_trs o.l hlt : subC (trsC o.l) (0 + k * 9) 9 = some (trC o.l[k]))
       case hvw10 => rfl
     conv => whnf
     refine bcase_intro (fun hc => ?_) (fun hc => ?_)
     ·have hc : crB (nearI r) o.l[k] = true := hc
      conv => whnf
      refine bcase_intro (fun h2 => ?_) (fun h2 => ?_)
      ·have h2 : (!bB (nearI r).z3 (wdP lo (-1)).v (wdP hi 1).v) = true := h2
       exact (hit_1 hI hlt hc h2).elim
      ·have h2 : (!bB (nearI r).z3 (wdP lo (-1)).v (wdP hi 1).v) = false := h2
       conv => whnf
       refine bcase_intro (fun h3 => ?_) (fun h3 => ?_)
       ·have h3 : decide ((pN (crN (nearI r) o.l[k]) (crD (nearI r) o.l[k]) * pD ((bI (nearI r).z3 (wdP lo (-1)).v (wdP hi 1).v).den : Int) - pN (bI (nearI r).z3 (wdP lo (-1)).v (wdP hi 1).v).num ((bI (nearI r).z3 (wdP lo (-1)).v (wdP hi 1).v).den : Int) * pD (crD (nearI r) o.l[k])).sign < 0) = true := h3
        exact (hit_2 hI hlt hc h3).elim
       ·have h3 : decide ((pN (crN (nearI r) o.l[k]) (crD (nearI r) o.l[k]) * pD ((bI (nearI r).z3 (wdP lo (-1)).v (wdP hi 1).v).den : Int) - pN (bI (nearI r).z3 (wdP lo (-1)).v (wdP hi 1).v).num ((bI (nearI r).z3 (wdP lo (-1)).v (wdP hi 1).v).den : Int) * pD (crD (nearI r) o.l[k])).sign < 0) = false := h3
        conv => whnf
        refine bcase_intro (fun h4 => ?_) (fun h4 => ?_)
        ·have h4 : decide (0 < (pN (crN (nearI r) o.l[k]) (crD (nearI r) o.l[k]) * pD ((bO (nearI r).z3 (wdP lo (-1)).v (wdP hi 1).v).den : Int) - pN (bO (nearI r).z3 (wdP lo (-1)).v (wdP hi 1).v).num ((bO (nearI r).z3 (wdP lo (-1)).v (wdP hi 1).v).den : Int) * pD (crD (nearI r) o.l[k])).sign) = true := h4
         exact (hit_3 hI hlt hc h4).elim
        ·have h4 : decide (0 < (pN (crN (nearI r) o.l[k]) (crD (nearI r) o.l[k]) * pD ((bO (nearI r).z3 (wdP lo (-1)).v (wdP hi 1).v).den : Int) - pN (bO (nearI r).z3 (wdP lo (-1)).v (wdP hi 1).v).num ((bO (nearI r).z3 (wdP lo (-1)).v (wdP hi 1).v).den : Int) * pD (crD (nearI r) o.l[k])).sign) = false := h4
         conv => whnf
         refine ⟨[0,1,2,3,4], [3,7,16,17,18,97,98,99], [0,1,2,3,4], fun vs2 => ?_⟩
         conv => whnf
         refine ⟨intsC_pure L, fun _ _=>rfl,o.new.1, fun _ _=>rfl,fun _ _=>rfl,?_⟩
         conv => whnf
         refine ⟨_, _, ?_, ?_, (⟨k + 1, hlt⟩, vs2), (by omega : o.l.length - (k + 1) < o.l.length - k), rfl, rfl⟩
         ·exact ⟨fun _=>rfl,fun _=>rfl,fun _=>rfl,fun _=>rfl,fun _=>rfl,fun _=>rfl,fun _=>rfl,fun _=>rfl,fun _=>rfl,fun _=>rfl,fun _=>rfl,fun _=>rfl,fun _=>rfl,fun _=>rfl,fun _=>rfl,fun _=>rfl,fun _=>rfl,fun _=>rfl,fun _=>rfl,fun _=>rfl,fun _=>rfl,fun _=>rfl,fun _=>rfl,fun _=>rfl,fun _=>rfl,fun _=>rfl,fun _=>rfl,fun _=>rfl,fun _=>rfl,fun _=>rfl,fun _=>rfl,fun _=>rfl,fun _=>rfl,fun _=>rfl,fun _=>rfl,fun _=>rfl,fun _=>rfl,fun _=>rfl,fun _=>rfl,fun _=>rfl,fun _=>rfl,fun _=>rfl,fun _=>rfl,fun _=>rfl,fun _=>rfl,fun _=>rfl,fun _=>rfl,fun _=>rfl,fun _=>rfl,fun _=>rfl,fun _=>rfl,fun _=>rfl,fun _=>rfl,fun _=>rfl,fun _=>rfl,fun _=>rfl,fun _=>rfl,fun _=>rfl,fun _=>rfl,fun _=>rfl,fun _=>rfl,fun _=>rfl,fun _=>rfl,fun _=>rfl,fun _=>rfl,fun _=>rfl,fun _=>rfl,fun _=>rfl,fun _=>rfl,fun _=>rfl,fun _=>rfl,fun _=>rfl,fun _=>rfl,fun _=>rfl,fun _=>rfl,fun _=>rfl,fun _=>rfl,fun _=>rfl,fun _=>rfl,fun _=>rfl,fun _=>rfl,fun _=>rfl,fun _=>rfl,fun _=>rfl,fun _=>rfl,fun _=>rfl,fun _=>rfl,fun _=>rfl,fun _=>rfl,fun _=>rfl,fun _=>rfl,fun _=>rfl,fun _=>rfl,fun _=>rfl,fun _=>rfl,fun _=>rfl,fun _=>rfl,fun _=>rfl,fun _=>rfl,fun ρ => sint_e (wrap_add1 hlt o.ok.ir) ρ, stm _⟩
         ·exact ⟨⟨rfl,rfl,rfl, fun _=>rfl⟩, ⟨rfl,rfl,rfl, fun _=>rfl⟩, ⟨rfl,rfl,rfl, fun _=>rfl⟩, ⟨rfl,rfl,rfl, fun _=>rfl⟩, ⟨rfl,rfl,rfl, fun _=>rfl⟩, trivial⟩
     ·have hc : crB (nearI r) o.l[k] = false := hc
      conv => whnf
      refine ⟨[0,1,2,3,4], [3,7,16,17,18,97,98,99], [0,1,2,3,4], fun vs2 => ?_⟩
      conv => whnf
      refine ⟨intsC_pure L, fun _ _=>rfl,o.new.1, fun _ _=>rfl,fun _ _=>rfl,?_⟩
      conv => whnf
      refine ⟨_, _, ?_, ?_, (⟨k + 1, hlt⟩, vs2), (by omega : o.l.length - (k + 1) < o.l.length - k), rfl, rfl⟩
      ·exact ⟨fun _=>rfl,fun _=>rfl,fun _=>rfl,fun _=>rfl,fun _=>rfl,fun _=>rfl,fun _=>rfl,fun _=>rfl,fun _=>rfl,fun _=>rfl,fun _=>rfl,fun _=>rfl,fun _=>rfl,fun _=>rfl,fun _=>rfl,fun _=>rfl,fun _=>rfl,fun _=>rfl,fun _=>rfl,fun _=>rfl,fun _=>rfl,fun _=>rfl,fun _=>rfl,fun _=>rfl,fun _=>rfl,fun _=>rfl,fun _=>rfl,fun _=>rfl,fun _=>rfl,fun _=>rfl,fun _=>rfl,fun _=>rfl,fun _=>rfl,fun _=>rfl,fun _=>rfl,fun _=>rfl,fun _=>rfl,fun _=>rfl,fun _=>rfl,fun _=>rfl,fun _=>rfl,fun _=>rfl,fun _=>rfl,fun _=>rfl,fun _=>rfl,fun _=>rfl,fun _=>rfl,fun _=>rfl,fun _=>rfl,fun _=>rfl,fun _=>rfl,fun _=>rfl,fun _=>rfl,fun _=>rfl,fun _=>rfl,fun _=>rfl,fun _=>rfl,fun _=>rfl,fun _=>rfl,fun _=>rfl,fun _=>rfl,fun _=>rfl,fun _=>rfl,fun _=>rfl,fun _=>rfl,fun _=>rfl,fun _=>rfl,fun _=>rfl,fun _=>rfl,fun _=>rfl,fun _=>rfl,fun _=>rfl,fun _=>rfl,fun _=>rfl,fun _=>rfl,fun _=>rfl,fun _=>rfl,fun _=>rfl,fun _=>rfl,fun _=>rfl,fun _=>rfl,fun _=>rfl,fun _=>rfl,fun _=>rfl,fun _=>rfl,fun _=>rfl,fun _=>rfl,fun _=>rfl,fun _=>rfl,fun _=>rfl,fun _=>rfl,fun _=>rfl,fun _=>rfl,fun _=>rfl,fun _=>rfl,fun _=>rfl,fun _=>rfl,fun _=>rfl,fun _=>rfl,fun ρ => sint_e (wrap_add1 hlt o.ok.ir) ρ, stm _⟩
      ·exact ⟨⟨rfl,rfl,rfl, fun _=>rfl⟩, ⟨rfl,rfl,rfl, fun _=>rfl⟩, ⟨rfl,rfl,rfl, fun _=>rfl⟩, ⟨rfl,rfl,rfl, fun _=>rfl⟩, ⟨rfl,rfl,rfl, fun _=>rfl⟩, trivial⟩
    ·conv => whnf
     refine ⟨[0], [0], fun vs3 => ?_⟩
     conv => whnf
     refine ⟨intsC_pure L, ?_⟩
     conv => whnf
     refine ⟨_, [], rfl, ⟨⟨rfl,rfl,rfl, fun _=>rfl⟩, trivial⟩, trivial, _, fun ρ => ?_, hc⟩
     rfl
end Go.Proofs.YtefgchmbdijjdaaGreatDoor
