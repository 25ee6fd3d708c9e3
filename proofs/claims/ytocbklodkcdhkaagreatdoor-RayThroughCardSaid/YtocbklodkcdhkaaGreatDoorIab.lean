/- Digits of the reference, by the reckoner: over. Digits of the reference, by the reckoner: over. The reference's Quo, by the reckoner. The reference's Gcd, by the reckoner. Fractions of the reference, by the reckoner. -/
import Derived.Test.YtocbklodkcdhkaaGreatDoorIaa
namespace Go.Proofs.YtocbklodkcdhkaaGreatDoor
open Go.RowKit
set_option maxRecDepth 100000

def cOver : NewC := fun args ros K => ∃ nla offa lena capa ha tya csa la nlb offb lenb capb hb tyb csb n, args = [.c (.sli nla 0 offa lena capa ha), .c (.sli nlb 1 offb lenb capb hb)] ∧ ros = [⟨tya, true, csa, 0⟩, ⟨tyb, true, csb, 0⟩] ∧
 la.length = lena ∧ (dig RB n).length = lenb ∧ IAt csa offa la ∧ IAt csb offb (dig RB n) ∧ Dl RB la ∧ 0 < n ∧ lena ≤ 50000000 ∧ lenb ≤ 50000000 ∧ ∀ oq or : OI, oq.l = dig RB (val RB la / n) → or.l = dig RB (val RB la % n) → K (.tup [oq.t 2, or.t 3]) [oq.blk, or.blk]
structure OvI (la : List Nat) (n k : Nat) (lq : List Nat) (r : OI) : Prop where
 hk : k ≤ la.length
 ql : lq.length = la.length
 dq : Dl RB lq
 hr : r.l = dig RB (val RB r.l)
 lt : val RB r.l < n
 hv : val RB (la.drop k) = n * val RB (lq.drop k) + val RB r.l
theorem OvI.start {la : List Nat} {n : Nat} (hn : 0 < n) : OvI la n la.length (List.replicate la.length 0) OI.nil := ⟨Nat.le_refl _, List.length_replicate, Dl.replicate RB_pos _, by show [] = dig RB 0; rw [dig_zero], hn, by rw [List.drop_of_length_le (Nat.le_refl _), List.drop_of_length_le (by rw [List.length_replicate]; exact Nat.le_refl _)]; simp [val, OI.nil]⟩
theorem OvI.step {la lq : List Nat} {n k : Nat} {r o : OI} (h : OvI la n k lq r) (hk : 0 < k) (hn : 0 < n) {hj : k - 1 < la.length} (da : Dl RB la) {T low : Nat} (hT : T = la[k - 1] + RB * val RB r.l) (hl : low * n ≤ T) (hl2 : T < (low + 1) * n) (ho : o.l = dig RB (T - n * low)) : OvI la n (k - 1) (lq.set (k - 1) low) o ∧ low < 65536 := by
 have hx : la[k - 1] < RB := da.get _ hj
 have hq : T / n = low := by
  have h1 := Nat.div_lt_iff_lt_mul (x := T) (y := low + 1) hn
  have h2 := (Nat.le_div_iff_mul_le hn).2 hl
  have h3 := h1.2 hl2
  omega
 have hm : T - n * low = T % n := by rw [← hq]; have := Nat.div_add_mod T n; omega
 have hlow : low < RB := by
  rw [← hq, Nat.div_lt_iff_lt_mul hn, hT]
  have h1 : RB * (val RB r.l + 1) ≤ RB * n := Nat.mul_le_mul_left _ h.lt
  rw [Nat.mul_add] at h1
  omega
 have hs := small_step (B := RB) (d := n) hk h.hk (by rw [h.ql]; exact h.hk) h.hv
 rw [getD_get hj, show val RB r.l * RB + la[k - 1] = T by rw [hT, Nat.mul_comm]; omega, hq] at hs
 have hv : val RB o.l = T % n := by rw [ho, val_dig RB_two, hm]
 exact ⟨⟨by have := h.hk; omega, by rw [List.length_set]; exact h.ql, h.dq.set _ hlow, by rw [hv, ← hm]; exact ho, by rw [hv]; exact Nat.mod_lt _ hn, by rw [hv]; exact hs⟩, by rw [RB_eq] at hlow; exact hlow⟩
theorem OvI.last {la lq : List Nat} {n : Nat} {r : OI} (h : OvI la n 0 lq r) (hn : 0 < n) : val RB lq = val RB la / n ∧ val RB la % n = val RB r.l := by
 have hv := h.hv
 rw [List.drop_zero, List.drop_zero] at hv
 rw [hv, Nat.mul_add_div hn, Nat.div_eq_of_lt h.lt, Nat.mul_add_mod, Nat.mod_eq_of_lt h.lt]
 exact ⟨rfl, rfl⟩
structure BinI (T n low high : Nat) : Prop where
 lo : low * n ≤ T
 hi : T < high * n
 lt : low < high
 le : high ≤ 65536
theorem BinI.low {T n low high m : Nat} (h : BinI T n low high) (hm : m = (low + high) / 2) (h2 : 1 < high - low) (hle : m * n ≤ T) : BinI T n m high ∧ high - m < high - low := by
 have := h.lt
 exact ⟨⟨hle, h.hi, by omega, h.le⟩, by omega⟩
theorem BinI.high {T n low high m : Nat} (h : BinI T n low high) (hm : m = (low + high) / 2) (h2 : 1 < high - low) (hle : ¬ m * n ≤ T) : BinI T n low m ∧ m - low < high - low := by
 have := h.lt; have := h.le
 exact ⟨⟨h.lo, by omega, by omega, by omega⟩, by omega⟩
theorem BinI.done {T n low high : Nat} (h : BinI T n low high) (h2 : high - low ≤ 1) : low * n ≤ T ∧ T < (low + 1) * n := by
 have h3 := h.lt
 have : high = low + 1 := by omega
 rw [← this]
 exact ⟨h.lo, h.hi⟩
theorem bin_gt {low high : Nat} (hlt : low < high) (h2 : high ≤ 65536) (h : decide ((1 : Int) < IntKind.i64.wrap ((high : Int) - (low : Int))) = true) : 1 < high - low := by
 have := of_decide_eq_true h
 rw [wrap_id (by unfold IR; omega)] at this; omega
theorem bin_ngt {low high : Nat} (hlt : low < high) (h2 : high ≤ 65536) (h : decide ((1 : Int) < IntKind.i64.wrap ((high : Int) - (low : Int))) = false) : high - low ≤ 1 := by
 have := of_decide_eq_false h
 rw [wrap_id (by unfold IR; omega)] at this; omega
theorem bin_mid {low high : Nat} (h1 : low ≤ 65536) (h2 : high ≤ 65536) : IntKind.i64.wrap ((IntKind.i64.wrap ((low : Int) + (high : Int))).tdiv 2) = (((low + high) / 2 : Nat) : Int) := by
 rw [wrap_id (z := (low : Int) + (high : Int)) (by unfold IR; omega), Int.tdiv_eq_ediv_of_nonneg (by omega), wrap_id (by unfold IR; omega)]; omega
theorem cmpE_le {m n : Nat} : decide (cmpE m n ≤ 0) = decide (m ≤ n) := by
 unfold cmpE
 split
 ·rename_i h; rw [decide_eq_true (by omega : m ≤ n)]; rfl
 ·rename_i h
  split
  ·rename_i h2; rw [decide_eq_false (by omega : ¬ m ≤ n)]; rfl
  ·rename_i h2; rw [decide_eq_true (by omega : m ≤ n)]; rfl
theorem iat_cons {x : Nat} {z : Int} {hz : IR z} {l : List Nat} (hx : x < 65536) (e : z = x) : IAt ([C.int z hz] ++ isC l) 0 (x :: l) := by
 rw [show [C.int z hz] ++ isC l = isC (x :: l) from by rw [iC_eq hx e]; rfl]; exact IAt.mk' _
def overC : List (FuncId × NewC) := [(93, cBy), (94, cMinus), (76, cTrim)]
theorem overC_ok : AllC Tryz.prog overC := .cons csBy <| .cons csMinus <| .cons csTrim .nil
def rdC : List (FuncId × Dr) := [(92, dComp), (59, dRWideN)]
theorem rdC_ok : AllR rdC := .cons spComp <| .cons spRWideN .nil
end Go.Proofs.YtocbklodkcdhkaaGreatDoor

namespace Go.Proofs.YtocbklodkcdhkaaGreatDoor
open Go.RowKit
set_option maxRecDepth 100000

theorem IAt.cut {cs : List C} {off : Nat} {l : List Nat} (h : IAt cs off l) (k : Nat) : IAt cs off (l.take k) := by
 obtain ⟨hp, A, B, rfl, rfl⟩ := h
 refine ⟨hp, A, isC (l.drop k) ++ B, ?_, rfl⟩
 conv => lhs; rw [← List.take_append_drop k l]
 rw [isC_append, List.append_assoc]
theorem iat_dig {cs : List C} {off : Nat} {l : List Nat} (h : IAt cs off l) (hd : Dl RB l) : IAt cs off (dig RB (val RB l)) := by
 rw [← take_tlen RB_two hd]; exact h.cut _
theorem val_isOf {cs : List C} {off len m : Nat} (h : IAt cs off (dig RB m)) (hl : (dig RB m).length = len) : val RB (isOf cs off len) = m := by
 rw [← hl, isOf_eq h (dig_Dl RB_two m), val_dig RB_two]
theorem dec_lt {a b m n : Nat} {v : Bool} (e1 : a = m) (e2 : b = n) (h : decide (cmpE a b < 0) = v) : decide (m < n) = v := by subst e1 e2; exact cmpE_neg.symm.trans h
theorem dec_le {a b m n : Nat} {v : Bool} (e1 : a = m) (e2 : b = n) (h : decide (cmpE a b ≤ 0) = v) : decide (m ≤ n) = v := by subst e1 e2; exact cmpE_le.symm.trans h
theorem cons_tl {cap2 x : Nat} {l : List Nat} : (cap2 - (1 + l.length)) * 1 = cap2 - (x :: l).length := by rw [List.length_cons, Nat.mul_one, Nat.add_comm]
theorem cons_cells {x : Nat} {z : Int} {hz : IR z} {l : List Nat} (hx : x < 65536) (e : z = x) (ρ : Rho) : cellsL ρ ([C.int z hz] ++ isC l) = cellsL ρ (isC (x :: l)) := by
 rw [show [C.int z hz] ++ isC l = isC (x :: l) from by rw [iC_eq hx e]; rfl]
theorem slok_1 {m n c : Nat} (h : SliOk (false && decide (m = 0)) n c) : SliOk false n c := ⟨h.1, h.2.1, fun e => by cases e⟩
theorem BinI.one {T n : Nat} (h : T < n) : BinI T n 0 1 := ⟨by omega, by omega, by decide, by decide⟩
theorem BinI.all {T n : Nat} (h : T < 65536 * n) : BinI T n 0 65536 := ⟨by omega, h, by decide, by decide⟩
theorem lowI {la lq : List Nat} {n k : Nat} {r : OI} {hj : k - 1 < la.length} {T low : Nat} (hT : T = la[k - 1] + RB * val RB r.l) (h : OvI la n k lq r) (da : Dl RB la) (hl : low * n ≤ T ∧ T < (low + 1) * n) : low < 65536 := by
 have hx : la[k - 1] < RB := da.get _ hj
 have h1 : RB * (val RB r.l + 1) ≤ RB * n := Nat.mul_le_mul_left _ h.lt
 rw [Nat.mul_add] at h1
 have h2 : low * n < 65536 * n := by rw [← RB_eq]; omega
 exact Nat.lt_of_mul_lt_mul_right h2
set_option maxHeartbeats 40000000 in
theorem csOver : CSp Tryz.prog 75 cOver := csp_of (envN_ok .nil rdC_ok 0 fun _ => false) mixed (mix_ok overC_ok (envN_ok .nil rdC_ok 0 fun _ => false) mixed noF_ok 0) ⟨Tryz.func75, by kernel_rfl, by kernel_rfl⟩ fun args ros K hc => by
 obtain ⟨nla, offa, _, capa, ha, tya, csa, la, nlb, offb, _, capb, hb, tyb, csb, n, rfl,rfl,rfl,rfl,hwa, hwb, da, hn0, sa, sb, hc⟩ := hc
 refine ⟨fun ρ ρ' e => ?_, ?_⟩
 ·have e0 := e 0 (show 0 < 2 by decide)
  have e1 := e 1 (show 1 < 2 by decide)
  simp only [List.map, SV.den, C.den, C.cells, e0, e1]
 conv => whnf
 refine ⟨rfl, la.length, la.length, rfl,rfl,Nat.le_refl _, by omega, fun h2 => ?_⟩
 conv => whnf
 refine loop_st (G := {g : Nat × List Nat × OI × (Nat → Value) // OvI la n g.1 g.2.1 g.2.2.1}) (fun g => (.c (.sli nla 0 offa la.length capa ha) :: .c (.sli nlb 1 offb (dig RB n).length capb hb) :: .c (.val (g.1.2.2.2 2)) :: .c (.val (g.1.2.2.2 3)) :: .c (.val (g.1.2.2.2 4)) :: .c (.val (g.1.2.2.2 5)) :: .c (.sli false 2 0 la.length la.length h2) :: (g.1.2.2.1.sl 3) :: .c (.int ((g.1.1 : Nat) - 1 : Int) (irp ha g.2.hk)) :: .c (.val (g.1.2.2.2 9)) :: .c (.val (g.1.2.2.2 10)) :: .c (.val (g.1.2.2.2 11)) :: .c (.val (g.1.2.2.2 12)) :: .c (.val (g.1.2.2.2 13)) :: .c (.val (g.1.2.2.2 14)) :: .c (.val (g.1.2.2.2 15)) :: .c (.val (g.1.2.2.2 16)) :: .c (.val (g.1.2.2.2 17)) :: .c (.val (g.1.2.2.2 18)) :: .c (.val (g.1.2.2.2 19)) :: .c (.val (g.1.2.2.2 20)) :: .c (.val (g.1.2.2.2 21)) :: .c (.val (g.1.2.2.2 22)) :: .c (.val (g.1.2.2.2 23)) :: .c (.val (g.1.2.2.2 24)) :: .c (.val (g.1.2.2.2 25)) :: .c (.val (g.1.2.2.2 26)) :: .c (.val (g.1.2.2.2 27)) :: .c (.val (g.1.2.2.2 28)) :: .c (.val (g.1.2.2.2 29)) :: .c (.val (g.1.2.2.2 30)) :: .c (.val (g.1.2.2.2 31)) :: .c (.val (g.1.2.2.2 32)) :: .c (.val (g.1.2.2.2 33)) :: .c (.val (g.1.2.2.2 34)) :: .c (.val (g.1.2.2.2 35)) :: .c (.val (g.1.2.2.2 36)) :: .c (.val (g.1.2.2.2 37)) :: .c (.val (g.1.2.2.2 38)) :: .c (.val (g.1.2.2.2 39)) :: .c (.val (g.1.2.2.2 40)) :: .c (.val (g.1.2.2.2 41)) :: .c (.val (g.1.2.2.2 42)) :: .c (.val (g.1.2.2.2 43)) :: .c (.val (g.1.2.2.2 44)) :: .c (.val (g.1.2.2.2 45)) :: .c (.val (g.1.2.2.2 46)) :: .c (.val (g.1.2.2.2 47)) :: .c (.val (g.1.2.2.2 48)) :: .c (.val (g.1.2.2.2 49)) :: .c (.val (g.1.2.2.2 50)) :: .c (.val (g.1.2.2.2 51)) :: .c (.val (g.1.2.2.2 52)) :: .c (.val (g.1.2.2.2 53)) :: .c (.val (g.1.2.2.2 54)) :: .c (.val (g.1.2.2.2 55)) :: .c (.val (g.1.2.2.2 56)) :: .c (.val (g.1.2.2.2 57)) :: .c (.val (g.1.2.2.2 58)) :: .c (.val (g.1.2.2.2 59)) :: .c (.val (g.1.2.2.2 60)) :: .c (.val (g.1.2.2.2 61)) :: [])) (fun g => [⟨tya, true, csa, 0⟩, ⟨tyb, true, csb, 0⟩, ⟨3, false, isC g.1.2.1, 0⟩, g.1.2.2.1.blk]) (fun g => g.1.1) ?_ ?_
 ·refine ⟨[0, 1, 2, 1000 + 3], [0,1,6,7,8], [0,1,2,3], fun vs => ?_⟩
  conv => whnf
  refine ⟨hwa.1, hwb.1, irep_pure _, ?_⟩
  conv => whnf
  refine ⟨_, _, ?_, ?_, ⟨(la.length, List.replicate la.length 0, OI.nil, vs), OvI.start hn0⟩, rfl, rfl⟩
  ·exact ⟨fun _=>rfl,fun _=>rfl,fun _=>rfl,fun _=>rfl,fun _=>rfl,fun _=>rfl,fun _=>rfl,fun _=>rfl,sint_eq (wrap_id (irp ha (Nat.le_refl _))) _ _, fun _=>rfl,fun _=>rfl,fun _=>rfl,stm _⟩
  ·exact ⟨⟨rfl,rfl,rfl, fun _=>rfl⟩, ⟨rfl,rfl,rfl, fun _=>rfl⟩, ⟨rfl,rfl,Nat.sub_self _, fun ρ => by rw [← isC_rep]; rfl⟩, ⟨rfl,rfl,rfl, fun _=>rfl⟩, trivial⟩
 ·rintro ⟨⟨k, lq, r, vs⟩, hI⟩
  have hI : OvI la n k lq r := hI
  conv => whnf
  refine bcase_intro (fun h0 => ?_) (fun h0 => ?_)
  ·have h0 : 0 < k := i_ge h0
   have hkm := hI.hk
   have hka : k - 1 < la.length := by omega
   have hkq : k - 1 < lq.length := by rw [hI.ql]; exact hka
   have hirk : IR ((k - 1 : Nat) : Int) := ltI ha (Nat.le_of_lt hka)
   have hx16 : (la[k - 1]'hka) < 65536 := da.get _ hka
   have dr : Dl RB r.l := by rw [hI.hr]; exact dig_Dl RB_two _
   obtain ⟨T, hT⟩ : ∃ T, T = (la[k - 1]'hka) + RB * val RB r.l := ⟨_, rfl⟩
   have hTv : val RB ((la[k - 1]'hka) :: r.l) = T := by rw [val_cons, hT]
   have dxr : Dl RB ((la[k - 1]'hka) :: r.l) := fun d hd => by
    rcases List.mem_cons.1 hd with rfl | hd
    ·rw [RB_eq]; exact hx16
    ·exact dr d hd
   have hrl : r.l.length ≤ 50000000 := by
    rw [hI.hr]; exact Nat.le_trans (dig_len_mono RB_two (Nat.le_of_lt hI.lt)) sb
   have hTn : T < 65536 * n := by
    have h1 : RB * (val RB r.l + 1) ≤ RB * n := Nat.mul_le_mul_left _ hI.lt
    have hB : RB = 65536 := rfl
    rw [Nat.mul_add] at h1
    rw [hT, ← hB]; omega
   conv => whnf
   conv =>
    arg 2
    tactic' =>
     apply eff_index_sli (hi := hirk) (ho := ?how13) (hT := ?hTw13) (hx := ?hxw13) (hk := ?hkw13) (hlt := ?hltw13)
     case how13 => rfl
     case hTw13 => rfl
     case hxw13 => rfl
     case hkw13 => exact cint (pred_nat h0) hirk
     case hltw13 => exact hka
   conv => whnf
   conv =>
    arg 2
    tactic' =>
     apply eff_load_sub (m := [.int (((la[k - 1]'hka) : Nat) : Int) (ir_dig (da.get _ hka))]) (ho := ?how14) (hT := ?hTw14) (hx := ?hxw14) (hb := ?hbw14) (hm := ?hmw14) (hv := ?hvw14)
     case how14 => rfl
     case hTw14 => rfl
     case hxw14 => rfl
     case hbw14 => rfl
     case hmw14 => exact hwa.int da hka
     case hvw14 => rfl
   conv => whnf
   refine .inl ?_
   conv => whnf
   conv =>
    arg 2
    tactic' => exact (IAt.ow r).all rfl
   conv => whnf
   refine ⟨isC_one _, ?_⟩
   have hroom : (1 + r.l.length) * 1 ≤ 5000000000000 := by omega
   conv => whnf
   refine ⟨⟨rfl,rfl,rfl, fun _=>rfl,hroom⟩, fun cap2 hcap2 => ?_⟩
   have hs := slok_1 hcap2
   conv => whnf
   refine ⟨⟨pureL_append (fun _ _=>rfl) (isC_pure _), trivial⟩, ⟨_, _, _, _, _, _, _, (la[k - 1]'hka) :: r.l, rfl,rfl,Nat.add_comm _ _, iat_cons hx16 rfl, dxr, fun h3 => ?_⟩⟩
   have hr3 : ((la[k - 1]'hka) :: r.l).length ≤ cap2 := by rw [List.length_cons, Nat.add_comm]; exact hs.1
   have hRl : (dig RB T).length = tlen ((la[k - 1]'hka) :: r.l) := by rw [← hTv, tlen_rdig dxr]
   have hRt : IAt (isC ((la[k - 1]'hka) :: r.l)) 0 (dig RB T) := by rw [← hTv]; exact IAt.normd dxr
   have hRs2 : tlen ((la[k - 1]'hka) :: r.l) ≤ 200000000 := Nat.le_trans (tlen_le _) (by rw [List.length_cons]; omega)
   have hRs : tlen ((la[k - 1]'hka) :: r.l) ≤ 1000000000 := Nat.le_trans hRs2 (by decide)
   conv => whnf
   refine ⟨⟨dig RB T, dig RB n, ⟨(by rw [← hTv]; exact iat_dig (iat_cons hx16 rfl) dxr), hRl, by rw [val_dig RB_two], hRs⟩, hwb, rfl, by rw [val_dig RB_two], Nat.le_trans sb (by decide)⟩, ?_⟩
   conv => whnf
   refine bcase_intro (fun hc0 => ?_) (fun hc0 => ?_)
   ·have hlt : T < n := of_decide_eq_true (dec_lt (m := T) (n := n) (val_isOf (by rw [← hTv]; exact iat_dig (iat_cons hx16 rfl) dxr) hRl) (val_isOf hwb rfl) hc0)
    obtain ⟨R, hRe, hRsl, hRbk⟩ : ∃ R : OI, R.l = dig RB T ∧ (OI.ofTrim ((la[k - 1]'hka) :: r.l) cap2 h3 hr3).sl 3 = R.sl 3 ∧ R.blk = (OI.ofTrim ((la[k - 1]'hka) :: r.l) cap2 h3 hr3).blk := ⟨_, by rw [OI.ofTrim_l dxr, hTv], rfl, rfl⟩
    have hRt2 : IAt R.blk.cs 0 (dig RB T) := by rw [← hRe]; exact IAt.ow R
    have hRl2 : (dig RB T).length = R.l.length := by rw [hRe]
    have hRs3 : R.l.length ≤ 200000000 := by rw [← hRl2, hRl]; exact hRs2
    have hRs4 : R.l.length ≤ 1000000000 := Nat.le_trans hRs3 (by decide)
    conv => whnf
    refine loop_cut (G := {g : Nat × Nat × (Nat → Value) // BinI T n g.1 g.2.1}) (X := {x : Nat // x * n ≤ T ∧ T < (x + 1) * n}) (fun g => (.c (.sli nla 0 offa la.length capa ha) :: .c (.sli nlb 1 offb (dig RB n).length capb hb) :: .c (.val (g.1.2.2 2)) :: .c (.val (g.1.2.2 3)) :: .c (.val (g.1.2.2 4)) :: .c (.val (g.1.2.2 5)) :: .c (.sli false 2 0 la.length la.length h2) :: (R.sl 3) :: .c (.int ((k : Nat) - 1 : Int) (irp ha hI.hk)) :: .c (.int (g.1.1 : Nat) (ir_nat (Nat.le_trans (Nat.le_of_lt (Nat.lt_of_lt_of_le g.2.lt g.2.le)) (by decide)))) :: .c (.int (g.1.2.1 : Nat) (ir_nat (Nat.le_trans g.2.le (by decide)))) :: .c (.val (g.1.2.2 11)) :: .c (.val (g.1.2.2 12)) :: .c (.val (g.1.2.2 13)) :: .c (.val (g.1.2.2 14)) :: .c (.val (g.1.2.2 15)) :: .c (.val (g.1.2.2 16)) :: .c (.val (g.1.2.2 17)) :: .c (.val (g.1.2.2 18)) :: .c (.val (g.1.2.2 19)) :: .c (.val (g.1.2.2 20)) :: .c (.val (g.1.2.2 21)) :: .c (.val (g.1.2.2 22)) :: .c (.val (g.1.2.2 23)) :: .c (.val (g.1.2.2 24)) :: .c (.val (g.1.2.2 25)) :: .c (.val (g.1.2.2 26)) :: .c (.val (g.1.2.2 27)) :: .c (.val (g.1.2.2 28)) :: .c (.val (g.1.2.2 29)) :: .c (.val (g.1.2.2 30)) :: .c (.val (g.1.2.2 31)) :: .c (.val (g.1.2.2 32)) :: .c (.val (g.1.2.2 33)) :: .c (.val (g.1.2.2 34)) :: .c (.val (g.1.2.2 35)) :: .c (.val (g.1.2.2 36)) :: .c (.val (g.1.2.2 37)) :: .c (.val (g.1.2.2 38)) :: .c (.val (g.1.2.2 39)) :: .c (.val (g.1.2.2 40)) :: .c (.val (g.1.2.2 41)) :: .c (.val (g.1.2.2 42)) :: .c (.val (g.1.2.2 43)) :: .c (.val (g.1.2.2 44)) :: .c (.val (g.1.2.2 45)) :: .c (.val (g.1.2.2 46)) :: .c (.val (g.1.2.2 47)) :: .c (.val (g.1.2.2 48)) :: .c (.val (g.1.2.2 49)) :: .c (.val (g.1.2.2 50)) :: .c (.val (g.1.2.2 51)) :: .c (.val (g.1.2.2 52)) :: .c (.val (g.1.2.2 53)) :: .c (.val (g.1.2.2 54)) :: .c (.val (g.1.2.2 55)) :: .c (.val (g.1.2.2 56)) :: .c (.val (g.1.2.2 57)) :: .c (.val (g.1.2.2 58)) :: .c (.val (g.1.2.2 59)) :: .c (.val (g.1.2.2 60)) :: .c (.val (g.1.2.2 61)) :: [])) (fun g => [⟨tya, true, csa, 0⟩, ⟨tyb, true, csb, 0⟩, ⟨3, false, isC lq, 0⟩, R.blk]) (fun g => g.1.2.1 - g.1.1) 2 (fun x j => (.c (.sli nla 0 offa la.length capa ha) :: .c (.sli nlb 1 offb (dig RB n).length capb hb) :: j 2 :: j 3 :: j 4 :: j 5 :: .c (.sli false 2 0 la.length la.length h2) :: (R.sl 3) :: .c (.int ((k : Nat) - 1 : Int) (irp ha hI.hk)) :: .c (.int (x.1 : Nat) (ir_nat (by have := lowI hT hI da x.2; omega))) :: j 10 :: j 11 :: j 12 :: j 13 :: j 14 :: j 15 :: j 16 :: j 17 :: j 18 :: j 19 :: j 20 :: j 21 :: j 22 :: j 23 :: j 24 :: j 25 :: j 26 :: j 27 :: j 28 :: j 29 :: j 30 :: j 31 :: j 32 :: j 33 :: j 34 :: j 35 :: j 36 :: j 37 :: j 38 :: j 39 :: j 40 :: j 41 :: j 42 :: j 43 :: j 44 :: j 45 :: j 46 :: j 47 :: j 48 :: j 49 :: j 50 :: j 51 :: j 52 :: j 53 :: j 54 :: j 55 :: j 56 :: j 57 :: j 58 :: j 59 :: j 60 :: j 61 :: [])) (fun x => [⟨tya, true, csa, 0⟩, ⟨tyb, true, csb, 0⟩, ⟨3, false, isC lq, 0⟩, R.blk]) ?_ ?_ ?_
    ·refine ⟨[0,1,2,5], [0,1,6,7,8,9,10], [0,1,2,3], fun vs5 => ?_⟩
     conv => whnf
     refine ⟨hwa.1, hwb.1, isC_pure _, pureL_append (fun _ _=>rfl) (isC_pure _), ?_⟩
     conv => whnf
     refine ⟨_, _, ?_, ?_, ⟨(0, 1, vs5), BinI.one hlt⟩, rfl, rfl⟩
     ·exact ⟨fun _=>rfl,fun _=>rfl,fun _=>rfl,fun _=>rfl,fun _=>rfl,fun _=>rfl,fun _=>rfl,fun ρ => (OI.ofTrim_sl 3 ρ).trans (congrArg (fun z : SV => z.den ρ) hRsl), fun _=>rfl,fun _=>rfl,fun _=>rfl,fun _=>rfl,stm _⟩
     ·exact ⟨⟨rfl,rfl,rfl, fun _=>rfl⟩, ⟨rfl,rfl,rfl, fun _=>rfl⟩, ⟨rfl,rfl,rfl, fun _=>rfl⟩, (by rw [hRbk, OI.ofTrim_blk]; exact ⟨rfl,rfl,cons_tl, fun ρ => cons_cells hx16 rfl ρ⟩), trivial⟩
    ·intro Qx hqx
     rintro ⟨⟨low, high, vs6⟩, hB⟩
     have hB : BinI T n low high := hB
     conv => whnf
     refine bcase_intro (fun hgt => ?_) (fun hgt => ?_)
     ·have hgt := bin_gt hB.lt hB.le hgt
      obtain ⟨m, hm⟩ : ∃ m, m = (low + high) / 2 := ⟨_, rfl⟩
      have hlt := hB.lt
      have hle := hB.le
      have em := (bin_mid (low := low) (high := high) (by omega) (by omega)).trans (congrArg (fun z : Nat => (z : Int)) hm.symm)
      have hm16 : m < 65536 := by omega
      conv => whnf
      refine ⟨⟨hwb.1, trivial⟩, ⟨_, _, _, _, _, _, _, dig RB n, m, _, _, rfl,rfl,rfl, hwb, dig_Dl RB_two n, Nat.le_trans sb (by decide), hm16, em, fun ob _ hob => ?_⟩⟩
      rw [val_dig RB_two] at hob
      have hobl : ob.l.length ≤ 1000000000 := by
       rw [hob]
       refine Nat.le_trans (dig_length_le RB_two (k := (dig RB n).length + 1) ?_) (by omega)
       have h6 := lt_of_dig_length RB_two n
       have h7 : n * m < RB ^ (dig RB n).length * RB := by
        have h8 : n * m ≤ n * RB := Nat.mul_le_mul_left _ (Nat.le_of_lt hm16)
        have h9 : n * RB < RB ^ (dig RB n).length * RB := Nat.mul_lt_mul_of_pos_right h6 RB_pos
        omega
       rw [Nat.pow_succ]; exact h7
      conv => whnf
      refine ⟨⟨ob.l, dig RB T, ⟨IAt.ow ob, rfl, by rw [hob, val_dig RB_two], hobl⟩, hRt2, hRl2, by rw [val_dig RB_two], hRs4⟩, ?_⟩
      conv => whnf
      refine bcase_intro (fun hle2 => ?_) (fun hle2 => ?_)
      ·have hmle : m * n ≤ T := by
        have := of_decide_eq_true (dec_le (m := n * m) (n := T) (val_isOf (by rw [← hob]; exact IAt.ow ob) (congrArg List.length hob).symm) (val_isOf hRt2 hRl2) hle2)
        rwa [Nat.mul_comm]
       obtain ⟨hB2, hmu⟩ := hB.low hm hgt hmle
       conv => whnf
       refine ⟨[0,1,2,3], [0,1,6,7,8,9,10], [0,1,2,3], fun vs7 => ?_⟩
       conv => whnf
       refine ⟨hwa.1, hwb.1, isC_pure _, isC_pure _, ?_⟩
       conv => whnf
       refine ⟨_, _, ?_, ?_, ⟨(m, high, vs7), hB2⟩, hmu, rfl, rfl⟩
       ·exact ⟨fun _=>rfl,fun _=>rfl,fun _=>rfl,fun _=>rfl,fun _=>rfl,fun _=>rfl,fun _=>rfl,fun _=>rfl,fun _=>rfl,sint_eq em _ _, fun _=>rfl,fun _=>rfl,stm _⟩
       ·exact ⟨⟨rfl,rfl,rfl, fun _=>rfl⟩, ⟨rfl,rfl,rfl, fun _=>rfl⟩, ⟨rfl,rfl,rfl, fun _=>rfl⟩, ⟨rfl,rfl,rfl, fun _=>rfl⟩, trivial⟩
      ·have hmle : ¬ m * n ≤ T := by
        have := of_decide_eq_false (dec_le (m := n * m) (n := T) (val_isOf (by rw [← hob]; exact IAt.ow ob) (congrArg List.length hob).symm) (val_isOf hRt2 hRl2) hle2)
        rwa [Nat.mul_comm]
       obtain ⟨hB2, hmu⟩ := hB.high hm hgt hmle
       conv => whnf
       refine ⟨[0,1,2,3], [0,1,6,7,8,9,10], [0,1,2,3], fun vs7 => ?_⟩
       conv => whnf
       refine ⟨hwa.1, hwb.1, isC_pure _, isC_pure _, ?_⟩
       conv => whnf
       refine ⟨_, _, ?_, ?_, ⟨(low, m, vs7), hB2⟩, hmu, rfl, rfl⟩
       ·exact ⟨fun _=>rfl,fun _=>rfl,fun _=>rfl,fun _=>rfl,fun _=>rfl,fun _=>rfl,fun _=>rfl,fun _=>rfl,fun _=>rfl,fun _=>rfl,sint_eq em _ _, fun _=>rfl,stm _⟩
       ·exact ⟨⟨rfl,rfl,rfl, fun _=>rfl⟩, ⟨rfl,rfl,rfl, fun _=>rfl⟩, ⟨rfl,rfl,rfl, fun _=>rfl⟩, ⟨rfl,rfl,rfl, fun _=>rfl⟩, trivial⟩
     ·have hngt := bin_ngt hB.lt hB.le hgt
      conv => whnf
      exact hqx ⟨low, hB.done hngt⟩ (fun i => nth uv (uv :: uv :: _ :: _ :: _ :: _ :: uv :: uv :: uv :: uv :: _ :: _ :: _ :: _ :: _ :: _ :: _ :: _ :: _ :: _ :: _ :: _ :: _ :: _ :: _ :: _ :: _ :: _ :: _ :: _ :: _ :: _ :: _ :: _ :: _ :: _ :: _ :: _ :: _ :: _ :: _ :: _ :: _ :: _ :: _ :: _ :: _ :: _ :: _ :: _ :: _ :: _ :: _ :: _ :: _ :: _ :: _ :: _ :: _ :: _ :: _ :: _ :: []) i)
    ·rintro ⟨low, hlo⟩ jj
     have hlo1 : low * n ≤ T := hlo.1
     have hlo2 : T < (low + 1) * n := hlo.2
     have hlow16 : low < 65536 := lowI (hj := hka) hT hI da hlo
     conv => whnf
     conv =>
      arg 2
      tactic' =>
       apply eff_index_sli (hi := hirk) (ho := ?how11) (hT := ?hTw11) (hx := ?hxw11) (hk := ?hkw11) (hlt := ?hltw11)
       case how11 => rfl
       case hTw11 => rfl
       case hxw11 => rfl
       case hkw11 => exact cint (pred_nat h0) hirk
       case hltw11 => exact hka
     conv => whnf
     conv =>
      arg 2
      tactic' =>
       apply eff_store_at (l := [iC (low)]) (cs := isC (lq.set (k - 1) low)) (ho := ?how12) (hT := ?hTw12) (hx := ?hxw12) (hy := ?hyw12) (hl := ?hlw12) (hb := ?hbw12) (hro := ?hrow12) (hs := ?hsw12)
       case how12 => rfl
       case hTw12 => rfl
       case hxw12 => rfl
       case hyw12 => exact congrArg (fun z => some [z]) (iC_eq hlow16 rfl)
       case hlw12 => exact ⟨rfl, rfl⟩
       case hbw12 => rfl
       case hrow12 => rfl
       case hsw12 => exact splice_is hkq _
     conv => whnf
     rw [forceL_eq]
     conv => whnf
     refine ⟨⟨hwb.1, trivial⟩, ⟨_, _, _, _, _, _, _, dig RB n, low, _, _, rfl,rfl,rfl, hwb, dig_Dl RB_two n, Nat.le_trans sb (by decide), hlow16, rfl, fun ob _ hob => ?_⟩⟩
     rw [val_dig RB_two] at hob
     conv => whnf
     refine ⟨⟨isC_pure _, isC_pure _, trivial⟩, ⟨_, _, _, _, _, _, _, dig RB T, _, _, _, _, _, _, _, ob.l, rfl,rfl,hRl2, rfl, hRt2, IAt.ow ob, dig_Dl RB_two T, by rw [hob]; exact dig_Dl RB_two _, hRs3, by rw [hob, ← hRl2]; exact dig_len_mono RB_two (by rw [Nat.mul_comm]; exact hlo1), by rw [hob, val_dig RB_two, val_dig RB_two, Nat.mul_comm]; exact hlo1, fun os hos => ?_⟩⟩
     rw [hob, val_dig RB_two, val_dig RB_two] at hos
     obtain ⟨hI2, -⟩ := hI.step h0 hn0 (hj := hka) da hT hlo1 hlo2 hos
     conv => whnf
     refine ⟨[0,1,2,5], [0,1,6,7,8], [0,1,2,3], fun vs8 => ?_⟩
     conv => whnf
     refine ⟨hwa.1, hwb.1, isC_pure _, isC_pure _, ?_⟩
     conv => whnf
     refine ⟨_, _, ?_, ?_, ⟨(k - 1, lq.set (k - 1) low, os, vs8), hI2⟩, Nat.sub_lt h0 Nat.one_pos, rfl, rfl⟩
     ·exact ⟨fun _=>rfl,fun _=>rfl,fun _=>rfl,fun _=>rfl,fun _=>rfl,fun _=>rfl,fun _=>rfl,fun _=>rfl,sint_eq (cmp_dec h0 (ltI ha hI.hk)) _ _, fun _=>rfl,fun _=>rfl,fun _=>rfl,stm _⟩
     ·exact ⟨⟨rfl,rfl,rfl, fun _=>rfl⟩, ⟨rfl,rfl,rfl, fun _=>rfl⟩, ⟨rfl,rfl,rfl, fun _=>rfl⟩, ⟨rfl,rfl,rfl, fun _=>rfl⟩, trivial⟩
   ·obtain ⟨R, hRe, hRsl, hRbk⟩ : ∃ R : OI, R.l = dig RB T ∧ (OI.ofTrim ((la[k - 1]'hka) :: r.l) cap2 h3 hr3).sl 3 = R.sl 3 ∧ R.blk = (OI.ofTrim ((la[k - 1]'hka) :: r.l) cap2 h3 hr3).blk := ⟨_, by rw [OI.ofTrim_l dxr, hTv], rfl, rfl⟩
    have hRt2 : IAt R.blk.cs 0 (dig RB T) := by rw [← hRe]; exact IAt.ow R
    have hRl2 : (dig RB T).length = R.l.length := by rw [hRe]
    have hRs3 : R.l.length ≤ 200000000 := by rw [← hRl2, hRl]; exact hRs2
    have hRs4 : R.l.length ≤ 1000000000 := Nat.le_trans hRs3 (by decide)
    conv => whnf
    refine loop_cut (G := {g : Nat × Nat × (Nat → Value) // BinI T n g.1 g.2.1}) (X := {x : Nat // x * n ≤ T ∧ T < (x + 1) * n}) (fun g => (.c (.sli nla 0 offa la.length capa ha) :: .c (.sli nlb 1 offb (dig RB n).length capb hb) :: .c (.val (g.1.2.2 2)) :: .c (.val (g.1.2.2 3)) :: .c (.val (g.1.2.2 4)) :: .c (.val (g.1.2.2 5)) :: .c (.sli false 2 0 la.length la.length h2) :: (R.sl 3) :: .c (.int ((k : Nat) - 1 : Int) (irp ha hI.hk)) :: .c (.int (g.1.1 : Nat) (ir_nat (Nat.le_trans (Nat.le_of_lt (Nat.lt_of_lt_of_le g.2.lt g.2.le)) (by decide)))) :: .c (.int (g.1.2.1 : Nat) (ir_nat (Nat.le_trans g.2.le (by decide)))) :: .c (.val (g.1.2.2 11)) :: .c (.val (g.1.2.2 12)) :: .c (.val (g.1.2.2 13)) :: .c (.val (g.1.2.2 14)) :: .c (.val (g.1.2.2 15)) :: .c (.val (g.1.2.2 16)) :: .c (.val (g.1.2.2 17)) :: .c (.val (g.1.2.2 18)) :: .c (.val (g.1.2.2 19)) :: .c (.val (g.1.2.2 20)) :: .c (.val (g.1.2.2 21)) :: .c (.val (g.1.2.2 22)) :: .c (.val (g.1.2.2 23)) :: .c (.val (g.1.2.2 24)) :: .c (.val (g.1.2.2 25)) :: .c (.val (g.1.2.2 26)) :: .c (.val (g.1.2.2 27)) :: .c (.val (g.1.2.2 28)) :: .c (.val (g.1.2.2 29)) :: .c (.val (g.1.2.2 30)) :: .c (.val (g.1.2.2 31)) :: .c (.val (g.1.2.2 32)) :: .c (.val (g.1.2.2 33)) :: .c (.val (g.1.2.2 34)) :: .c (.val (g.1.2.2 35)) :: .c (.val (g.1.2.2 36)) :: .c (.val (g.1.2.2 37)) :: .c (.val (g.1.2.2 38)) :: .c (.val (g.1.2.2 39)) :: .c (.val (g.1.2.2 40)) :: .c (.val (g.1.2.2 41)) :: .c (.val (g.1.2.2 42)) :: .c (.val (g.1.2.2 43)) :: .c (.val (g.1.2.2 44)) :: .c (.val (g.1.2.2 45)) :: .c (.val (g.1.2.2 46)) :: .c (.val (g.1.2.2 47)) :: .c (.val (g.1.2.2 48)) :: .c (.val (g.1.2.2 49)) :: .c (.val (g.1.2.2 50)) :: .c (.val (g.1.2.2 51)) :: .c (.val (g.1.2.2 52)) :: .c (.val (g.1.2.2 53)) :: .c (.val (g.1.2.2 54)) :: .c (.val (g.1.2.2 55)) :: .c (.val (g.1.2.2 56)) :: .c (.val (g.1.2.2 57)) :: .c (.val (g.1.2.2 58)) :: .c (.val (g.1.2.2 59)) :: .c (.val (g.1.2.2 60)) :: .c (.val (g.1.2.2 61)) :: [])) (fun g => [⟨tya, true, csa, 0⟩, ⟨tyb, true, csb, 0⟩, ⟨3, false, isC lq, 0⟩, R.blk]) (fun g => g.1.2.1 - g.1.1) 2 (fun x j => (.c (.sli nla 0 offa la.length capa ha) :: .c (.sli nlb 1 offb (dig RB n).length capb hb) :: j 2 :: j 3 :: j 4 :: j 5 :: .c (.sli false 2 0 la.length la.length h2) :: (R.sl 3) :: .c (.int ((k : Nat) - 1 : Int) (irp ha hI.hk)) :: .c (.int (x.1 : Nat) (ir_nat (by have := lowI hT hI da x.2; omega))) :: j 10 :: j 11 :: j 12 :: j 13 :: j 14 :: j 15 :: j 16 :: j 17 :: j 18 :: j 19 :: j 20 :: j 21 :: j 22 :: j 23 :: j 24 :: j 25 :: j 26 :: j 27 :: j 28 :: j 29 :: j 30 :: j 31 :: j 32 :: j 33 :: j 34 :: j 35 :: j 36 :: j 37 :: j 38 :: j 39 :: j 40 :: j 41 :: j 42 :: j 43 :: j 44 :: j 45 :: j 46 :: j 47 :: j 48 :: j 49 :: j 50 :: j 51 :: j 52 :: j 53 :: j 54 :: j 55 :: j 56 :: j 57 :: j 58 :: j 59 :: j 60 :: j 61 :: [])) (fun x => [⟨tya, true, csa, 0⟩, ⟨tyb, true, csb, 0⟩, ⟨3, false, isC lq, 0⟩, R.blk]) ?_ ?_ ?_
    ·refine ⟨[0,1,2,5], [0,1,6,7,8,9,10], [0,1,2,3], fun vs5 => ?_⟩
     conv => whnf
     refine ⟨hwa.1, hwb.1, isC_pure _, pureL_append (fun _ _=>rfl) (isC_pure _), ?_⟩
     conv => whnf
     refine ⟨_, _, ?_, ?_, ⟨(0, 65536, vs5), BinI.all hTn⟩, rfl, rfl⟩
     ·exact ⟨fun _=>rfl,fun _=>rfl,fun _=>rfl,fun _=>rfl,fun _=>rfl,fun _=>rfl,fun _=>rfl,fun ρ => (OI.ofTrim_sl 3 ρ).trans (congrArg (fun z : SV => z.den ρ) hRsl), fun _=>rfl,fun _=>rfl,fun _=>rfl,fun _=>rfl,stm _⟩
     ·exact ⟨⟨rfl,rfl,rfl, fun _=>rfl⟩, ⟨rfl,rfl,rfl, fun _=>rfl⟩, ⟨rfl,rfl,rfl, fun _=>rfl⟩, (by rw [hRbk, OI.ofTrim_blk]; exact ⟨rfl,rfl,cons_tl, fun ρ => cons_cells hx16 rfl ρ⟩), trivial⟩
    ·intro Qx hqx
     rintro ⟨⟨low, high, vs6⟩, hB⟩
     have hB : BinI T n low high := hB
     conv => whnf
     refine bcase_intro (fun hgt => ?_) (fun hgt => ?_)
     ·have hgt := bin_gt hB.lt hB.le hgt
      obtain ⟨m, hm⟩ : ∃ m, m = (low + high) / 2 := ⟨_, rfl⟩
      have hlt := hB.lt
      have hle := hB.le
      have em := (bin_mid (low := low) (high := high) (by omega) (by omega)).trans (congrArg (fun z : Nat => (z : Int)) hm.symm)
      have hm16 : m < 65536 := by omega
      conv => whnf
      refine ⟨⟨hwb.1, trivial⟩, ⟨_, _, _, _, _, _, _, dig RB n, m, _, _, rfl,rfl,rfl, hwb, dig_Dl RB_two n, Nat.le_trans sb (by decide), hm16, em, fun ob _ hob => ?_⟩⟩
      rw [val_dig RB_two] at hob
      have hobl : ob.l.length ≤ 1000000000 := by
       rw [hob]
       refine Nat.le_trans (dig_length_le RB_two (k := (dig RB n).length + 1) ?_) (by omega)
       have h6 := lt_of_dig_length RB_two n
       have h7 : n * m < RB ^ (dig RB n).length * RB := by
        have h8 : n * m ≤ n * RB := Nat.mul_le_mul_left _ (Nat.le_of_lt hm16)
        have h9 : n * RB < RB ^ (dig RB n).length * RB := Nat.mul_lt_mul_of_pos_right h6 RB_pos
        omega
       rw [Nat.pow_succ]; exact h7
      conv => whnf
      refine ⟨⟨ob.l, dig RB T, ⟨IAt.ow ob, rfl, by rw [hob, val_dig RB_two], hobl⟩, hRt2, hRl2, by rw [val_dig RB_two], hRs4⟩, ?_⟩
      conv => whnf
      refine bcase_intro (fun hle2 => ?_) (fun hle2 => ?_)
      ·have hmle : m * n ≤ T := by
        have := of_decide_eq_true (dec_le (m := n * m) (n := T) (val_isOf (by rw [← hob]; exact IAt.ow ob) (congrArg List.length hob).symm) (val_isOf hRt2 hRl2) hle2)
        rwa [Nat.mul_comm]
       obtain ⟨hB2, hmu⟩ := hB.low hm hgt hmle
       conv => whnf
       refine ⟨[0,1,2,3], [0,1,6,7,8,9,10], [0,1,2,3], fun vs7 => ?_⟩
       conv => whnf
       refine ⟨hwa.1, hwb.1, isC_pure _, isC_pure _, ?_⟩
       conv => whnf
       refine ⟨_, _, ?_, ?_, ⟨(m, high, vs7), hB2⟩, hmu, rfl, rfl⟩
       ·exact ⟨fun _=>rfl,fun _=>rfl,fun _=>rfl,fun _=>rfl,fun _=>rfl,fun _=>rfl,fun _=>rfl,fun _=>rfl,fun _=>rfl,sint_eq em _ _, fun _=>rfl,fun _=>rfl,stm _⟩
       ·exact ⟨⟨rfl,rfl,rfl, fun _=>rfl⟩, ⟨rfl,rfl,rfl, fun _=>rfl⟩, ⟨rfl,rfl,rfl, fun _=>rfl⟩, ⟨rfl,rfl,rfl, fun _=>rfl⟩, trivial⟩
      ·have hmle : ¬ m * n ≤ T := by
        have := of_decide_eq_false (dec_le (m := n * m) (n := T) (val_isOf (by rw [← hob]; exact IAt.ow ob) (congrArg List.length hob).symm) (val_isOf hRt2 hRl2) hle2)
        rwa [Nat.mul_comm]
       obtain ⟨hB2, hmu⟩ := hB.high hm hgt hmle
       conv => whnf
       refine ⟨[0,1,2,3], [0,1,6,7,8,9,10], [0,1,2,3], fun vs7 => ?_⟩
       conv => whnf
       refine ⟨hwa.1, hwb.1, isC_pure _, isC_pure _, ?_⟩
       conv => whnf
       refine ⟨_, _, ?_, ?_, ⟨(low, m, vs7), hB2⟩, hmu, rfl, rfl⟩
       ·exact ⟨fun _=>rfl,fun _=>rfl,fun _=>rfl,fun _=>rfl,fun _=>rfl,fun _=>rfl,fun _=>rfl,fun _=>rfl,fun _=>rfl,fun _=>rfl,sint_eq em _ _, fun _=>rfl,stm _⟩
       ·exact ⟨⟨rfl,rfl,rfl, fun _=>rfl⟩, ⟨rfl,rfl,rfl, fun _=>rfl⟩, ⟨rfl,rfl,rfl, fun _=>rfl⟩, ⟨rfl,rfl,rfl, fun _=>rfl⟩, trivial⟩
     ·have hngt := bin_ngt hB.lt hB.le hgt
      conv => whnf
      exact hqx ⟨low, hB.done hngt⟩ (fun i => nth uv (uv :: uv :: _ :: _ :: _ :: _ :: uv :: uv :: uv :: uv :: _ :: _ :: _ :: _ :: _ :: _ :: _ :: _ :: _ :: _ :: _ :: _ :: _ :: _ :: _ :: _ :: _ :: _ :: _ :: _ :: _ :: _ :: _ :: _ :: _ :: _ :: _ :: _ :: _ :: _ :: _ :: _ :: _ :: _ :: _ :: _ :: _ :: _ :: _ :: _ :: _ :: _ :: _ :: _ :: _ :: _ :: _ :: _ :: _ :: _ :: _ :: _ :: []) i)
    ·rintro ⟨low, hlo⟩ jj
     have hlo1 : low * n ≤ T := hlo.1
     have hlo2 : T < (low + 1) * n := hlo.2
     have hlow16 : low < 65536 := lowI (hj := hka) hT hI da hlo
     conv => whnf
     conv =>
      arg 2
      tactic' =>
       apply eff_index_sli (hi := hirk) (ho := ?how11) (hT := ?hTw11) (hx := ?hxw11) (hk := ?hkw11) (hlt := ?hltw11)
       case how11 => rfl
       case hTw11 => rfl
       case hxw11 => rfl
       case hkw11 => exact cint (pred_nat h0) hirk
       case hltw11 => exact hka
     conv => whnf
     conv =>
      arg 2
      tactic' =>
       apply eff_store_at (l := [iC (low)]) (cs := isC (lq.set (k - 1) low)) (ho := ?how12) (hT := ?hTw12) (hx := ?hxw12) (hy := ?hyw12) (hl := ?hlw12) (hb := ?hbw12) (hro := ?hrow12) (hs := ?hsw12)
       case how12 => rfl
       case hTw12 => rfl
       case hxw12 => rfl
       case hyw12 => exact congrArg (fun z => some [z]) (iC_eq hlow16 rfl)
       case hlw12 => exact ⟨rfl, rfl⟩
       case hbw12 => rfl
       case hrow12 => rfl
       case hsw12 => exact splice_is hkq _
     conv => whnf
     rw [forceL_eq]
     conv => whnf
     refine ⟨⟨hwb.1, trivial⟩, ⟨_, _, _, _, _, _, _, dig RB n, low, _, _, rfl,rfl,rfl, hwb, dig_Dl RB_two n, Nat.le_trans sb (by decide), hlow16, rfl, fun ob _ hob => ?_⟩⟩
     rw [val_dig RB_two] at hob
     conv => whnf
     refine ⟨⟨isC_pure _, isC_pure _, trivial⟩, ⟨_, _, _, _, _, _, _, dig RB T, _, _, _, _, _, _, _, ob.l, rfl,rfl,hRl2, rfl, hRt2, IAt.ow ob, dig_Dl RB_two T, by rw [hob]; exact dig_Dl RB_two _, hRs3, by rw [hob, ← hRl2]; exact dig_len_mono RB_two (by rw [Nat.mul_comm]; exact hlo1), by rw [hob, val_dig RB_two, val_dig RB_two, Nat.mul_comm]; exact hlo1, fun os hos => ?_⟩⟩
     rw [hob, val_dig RB_two, val_dig RB_two] at hos
     obtain ⟨hI2, -⟩ := hI.step h0 hn0 (hj := hka) da hT hlo1 hlo2 hos
     conv => whnf
     refine ⟨[0,1,2,5], [0,1,6,7,8], [0,1,2,3], fun vs8 => ?_⟩
     conv => whnf
     refine ⟨hwa.1, hwb.1, isC_pure _, isC_pure _, ?_⟩
     conv => whnf
     refine ⟨_, _, ?_, ?_, ⟨(k - 1, lq.set (k - 1) low, os, vs8), hI2⟩, Nat.sub_lt h0 Nat.one_pos, rfl, rfl⟩
     ·exact ⟨fun _=>rfl,fun _=>rfl,fun _=>rfl,fun _=>rfl,fun _=>rfl,fun _=>rfl,fun _=>rfl,fun _=>rfl,sint_eq (cmp_dec h0 (ltI ha hI.hk)) _ _, fun _=>rfl,fun _=>rfl,fun _=>rfl,stm _⟩
     ·exact ⟨⟨rfl,rfl,rfl, fun _=>rfl⟩, ⟨rfl,rfl,rfl, fun _=>rfl⟩, ⟨rfl,rfl,rfl, fun _=>rfl⟩, ⟨rfl,rfl,rfl, fun _=>rfl⟩, trivial⟩
  ·have h0 : k = 0 := i_lt h0
   subst h0
   obtain ⟨hq1, hr1⟩ := hI.last hn0
   conv => whnf
   refine ⟨⟨isC_pure lq, trivial⟩, ⟨_, _, _, _, _, _, _, lq, rfl,rfl,hI.ql, ⟨isC_pure lq, [], [], by rw [List.append_nil]; rfl, rfl⟩, hI.dq, fun h6 => ?_⟩⟩
   conv => whnf
   refine ⟨[0,1,2,3], [0,1,2,3], fun vs9 => ?_⟩
   conv => whnf
   refine ⟨hwa.1, hwb.1, isC_pure _, isC_pure _, ?_⟩
   conv => whnf
   refine ⟨_, [(OI.ofTrim lq la.length h6 (Nat.le_of_eq hI.ql)).blk, r.blk], rfl, ⟨⟨rfl,rfl,rfl, fun _=>rfl⟩, ⟨rfl,rfl,rfl, fun _=>rfl⟩, ⟨rfl,rfl,?_, fun ρ => ?_⟩, ⟨rfl,rfl,rfl, fun _=>rfl⟩, trivial⟩, ⟨OI.new _, OI.new _, trivial⟩, .tup [(OI.ofTrim lq la.length h6 (Nat.le_of_eq hI.ql)).t 2, r.t 3], fun ρ => tup2_den (ofTrim_t 2 ρ) rfl, hc _ r ?_ ?_⟩
   ·rw [OI.ofTrim_blk]; have := hI.ql; show 0 = la.length - lq.length; omega
   ·rw [OI.ofTrim_blk]
   ·rw [OI.ofTrim_l hI.dq, hq1]
   ·rw [hr1]; exact hI.hr
end Go.Proofs.YtocbklodkcdhkaaGreatDoor

namespace Go.Proofs.YtocbklodkcdhkaaGreatDoor
open Go.RowKit
set_option maxRecDepth 100000

theorem Num.len16 {k : Nat} {b : Bool} {s : ByteArray} {z : Int} (h : Num (k + 7) b s z) (hk : k ≤ 80000000) : (dig RB z.natAbs).length ≤ 50000000 := rdig_len_of h.sm (by omega)
def rquoC : List (FuncId × NewC) := [(74, cDigits), (75, cOver)]
theorem rquoC_ok : AllC Tryz.prog rquoC := .cons csDigits <| .cons csOver .nil
theorem isOf_ow (o : OI) {n : Nat} (h : o.l = dig RB n) : isOf o.blk.cs 0 o.l.length = o.l := isOf_oi o (rdl_eq h)
set_option maxHeartbeats 4000000 in
theorem spRQuoA : SpOk Tryz.prog 58 dQuoA := sp_num2H ⟨Tryz.func58, by kernel_rfl, by kernel_rfl⟩ (envN_ok .nil rdC_ok 0 fun _ => false) (mix_ok rquoC_ok (envN_ok .nil rdC_ok 0 fun _ => false) mixed noF_ok 0) (fun _ _ _ _ => rfl) fun X Y kX kY b s c t nX nY => by
 conv => whnf
 refine ⟨fun _ _=>rfl,trivial, ⟨_, c, t, rfl,rfl,NumA.raw, (nY.sz kY), fun oy hoy => ?_⟩⟩
 rw [nY.natAbs] at hoy
 conv => whnf
 refine bcase_intro (fun hz => ?_) (fun hz => ?_)
 ·have hz : Y.z = 0 := by
   have h1 : oy.l.length = 0 := by have := of_decide_eq_true hz; omega
   rw [hoy] at h1
   have := (dig_len_zero RB_two).1 h1
   omega
  have e1 : (0 : Int) = X.z.tdiv Y.z := by rw [hz]; exact (Int.tdiv_zero _).symm
  have e2 : (0 : Int) = remZ X.z Y.z := by rw [hz]; rfl
  have e3 : ∀ ρ : Rho, (T1.c (.val (.bool false))).den ρ = (T1.c (.val (.bool (decide (Y.z ≠ 0))))).den ρ := fun _ => by rw [hz]; rfl
  conv => whnf
  exact fun ρ => tup3_den (wid_agg _ _ e1 ρ) (wid_agg _ _ e2 ρ) (e3 ρ)
 ·have hz : Y.z ≠ 0 := fun e => of_decide_eq_false hz (by rw [hoy, e, Int.natAbs_zero, dig_zero]; rfl)
  have hn0 : 0 < Y.z.natAbs := by omega
  conv => whnf
  refine ⟨fun _ _=>rfl,trivial, ⟨_, b, s, rfl,rfl,NumA.raw, (nX.sz kX), fun ox hox => ?_⟩⟩
  rw [nX.natAbs] at hox
  have hvx : val RB ox.l = X.z.natAbs := by rw [hox, val_dig RB_two]
  have hqz : ∀ n : Nat, n = X.z.natAbs / Y.z.natAbs → n = (X.z.tdiv Y.z).natAbs := fun n e => by rw [e, Int.natAbs_tdiv]; rfl
  have hrz : X.z.natAbs % Y.z.natAbs = (remZ X.z Y.z).natAbs := by unfold remZ; rw [if_neg hz, Int.natAbs_tmod]
  have hrs : X.z.natAbs % Y.z.natAbs ≠ 0 → (b = true ↔ remZ X.z Y.z < 0) := fun h0 => by unfold remZ; rw [if_neg hz]; exact rem_sign nX.sgn h0
  conv => whnf
  refine ⟨⟨isC_pure _, isC_pure _, trivial⟩, ⟨_, _, _, _, _, _, _, ox.l, _, _, _, _, _, _, _, Y.z.natAbs, rfl,rfl,rfl, (congrArg List.length hoy).symm, IAt.ow ox, iat_eq oy hoy, rdl_eq hox, hn0, by rw [hox]; exact nX.len16 kX, by rw [hoy]; exact nY.len16 kY, fun oq or hoq hor => ?_⟩⟩
  rw [hvx] at hoq hor
  have hv1 : val RB oq.l = X.z.natAbs / Y.z.natAbs := by rw [hoq, val_dig RB_two]
  have hv2 : val RB or.l = X.z.natAbs % Y.z.natAbs := by rw [hor, val_dig RB_two]
  have hl1 : oq.l.length ≤ 1000000000 := by rw [hoq]; exact Nat.le_trans (dig_len_mono RB_two (Nat.div_le_self _ _)) (Nat.le_trans (nX.len16 kX) (by decide))
  have hl2 : or.l.length ≤ 1000000000 := by rw [hor]; exact Nat.le_trans (dig_len_mono RB_two (Nat.mod_le _ _)) (Nat.le_trans (nX.len16 kX) (by decide))
  conv => whnf
  refine ⟨⟨oq.l, IAt.ow oq, rfl, rdl_eq hoq, hl1⟩, ?_⟩
  conv => whnf
  refine ⟨⟨or.l, IAt.ow or, rfl, rdl_eq hor, hl2⟩, ?_⟩
  conv => whnf
  refine fun ρ => tup3_den ?_ ?_ ?_
  ·rw [isOf_ow oq hoq, hv1]
   exact wv_agg _ (hqz _ rfl) (fun h0 => quo_sign nX.sgn nY.sgn h0) ρ
  ·rw [isOf_ow or hor, hv2]
   exact wv_agg _ hrz hrs ρ
  ·show Value.bool true = Value.bool (decide (Y.z ≠ 0))
   rw [decide_eq_true hz]
end Go.Proofs.YtocbklodkcdhkaaGreatDoor

namespace Go.Proofs.YtocbklodkcdhkaaGreatDoor
open Go.RowKit
set_option maxRecDepth 100000

def RGcdI (g : Nat) (ox oy : OI) : Prop := Nat.gcd (val RB ox.l) (val RB oy.l) = g ∧ ox.l = dig RB (val RB ox.l) ∧ oy.l = dig RB (val RB oy.l) ∧ ox.l.length ≤ 50000000 ∧ oy.l.length ≤ 50000000
set_option maxHeartbeats 8000000 in
theorem spRGcdA : SpOk Tryz.prog 56 dGcdA := sp_num2H ⟨Tryz.func56, by kernel_rfl, by kernel_rfl⟩ (envN_ok .nil rdC_ok 0 fun _ => false) (mix_ok rquoC_ok (envN_ok .nil rdC_ok 0 fun _ => false) mixed noF_ok 0) (fun _ _ _ _ => rfl) fun X Y kX kY b s c t nX nY => by
 conv => whnf
 refine ⟨fun _ _=>rfl,trivial, ⟨_, b, s, rfl,rfl,NumA.raw, (nX.sz kX), fun ox hox => ?_⟩⟩
 rw [nX.natAbs] at hox
 conv => whnf
 refine ⟨fun _ _=>rfl,trivial, ⟨_, c, t, rfl,rfl,NumA.raw, (nY.sz kY), fun oy hoy => ?_⟩⟩
 rw [nY.natAbs] at hoy
 have hvx : val RB ox.l = X.z.natAbs := by rw [hox, val_dig RB_two]
 have hvy : val RB oy.l = Y.z.natAbs := by rw [hoy, val_dig RB_two]
 conv => whnf
 refine loop_cut (G := {g : OI × OI × (Nat → Value) // RGcdI (Nat.gcd X.z.natAbs Y.z.natAbs) g.1 g.2.1}) (X := {x : OI × OI // val RB x.1.l = (Nat.gcd X.z.natAbs Y.z.natAbs) ∧ x.1.l = dig RB (val RB x.1.l) ∧ x.1.l.length ≤ 50000000}) (fun g => (.c (.val (g.1.2.2 0)) :: .c (.val (g.1.2.2 1)) :: .c (.val (g.1.2.2 2)) :: .c (.val (g.1.2.2 3)) :: .c (.ptr 0 0) :: (g.1.1.sl 1) :: (g.1.2.1.sl 2) :: .c (.val (g.1.2.2 7)) :: .c (.val (g.1.2.2 8)) :: .c (.val (g.1.2.2 9)) :: .c (.val (g.1.2.2 10)) :: .c (.val (g.1.2.2 11)) :: .c (.val (g.1.2.2 12)) :: .c (.val (g.1.2.2 13)) :: .c (.val (g.1.2.2 14)) :: .c (.val (g.1.2.2 15)) :: .c (.val (g.1.2.2 16)) :: .c (.val (g.1.2.2 17)) :: .c (.val (g.1.2.2 18)) :: .c (.val (g.1.2.2 19)) :: .c (.val (g.1.2.2 20)) :: .c (.val (g.1.2.2 21)) :: .c (.val (g.1.2.2 22)) :: .c (.val (g.1.2.2 23)) :: .c (.val (g.1.2.2 24)) :: .c (.val (g.1.2.2 25)) :: [])) (fun g => [⟨43, false, [.wid 0 0 (by unfold Sm; decide)], 0⟩, g.1.1.blk, g.1.2.1.blk]) (fun g => val RB g.1.2.1.l) 0 (fun x j => (j 0 :: j 1 :: j 2 :: j 3 :: .c (.ptr 0 0) :: (x.1.1.sl 1) :: j 6 :: j 7 :: j 8 :: j 9 :: j 10 :: j 11 :: j 12 :: j 13 :: j 14 :: j 15 :: j 16 :: j 17 :: j 18 :: j 19 :: j 20 :: j 21 :: j 22 :: j 23 :: j 24 :: j 25 :: [])) (fun x => [⟨43, false, [.wid 0 0 (by unfold Sm; decide)], 0⟩, x.1.1.blk, x.1.2.blk]) ?_ ?_ ?_
 ·refine ⟨[2,3,4], [4,5,6], [0,1,2], fun vs => ?_⟩
  conv => whnf
  refine ⟨fun _ _=>rfl,isC_pure _, isC_pure _, ?_⟩
  conv => whnf
  refine ⟨_, _, ?_, ?_, ⟨(ox, oy, vs), by rw [hvx, hvy], by rw [hvx]; exact hox, by rw [hvy]; exact hoy, by rw [hox]; exact nX.len16 kX, by rw [hoy]; exact nY.len16 kY⟩, rfl, rfl⟩
  ·exact ⟨fun _=>rfl,fun _=>rfl,fun _=>rfl,fun _=>rfl,fun _=>rfl,fun _=>rfl,fun _=>rfl,fun _=>rfl,fun _=>rfl,fun _=>rfl,fun _=>rfl,fun _=>rfl,stm _⟩
  ·exact ⟨⟨rfl,rfl,rfl, fun _=>rfl⟩, ⟨rfl,rfl,rfl, fun _=>rfl⟩, ⟨rfl,rfl,rfl, fun _=>rfl⟩, trivial⟩
 ·intro Qx hqx
  rintro ⟨⟨ox, oy, vs3⟩, h1, h2, h3, h4, h5⟩
  have h1 : Nat.gcd (val RB ox.l) (val RB oy.l) = (Nat.gcd X.z.natAbs Y.z.natAbs) := h1
  have h2 : ox.l = dig RB (val RB ox.l) := h2
  have h3 : oy.l = dig RB (val RB oy.l) := h3
  have h4 : ox.l.length ≤ 50000000 := h4
  have h5 : oy.l.length ≤ 50000000 := h5
  conv => whnf
  refine bcase_intro (fun h0 => ?_) (fun h0 => ?_)
  ·have h0 : 0 < oy.l.length := nz_gt h0
   have hn0 : 0 < val RB oy.l := by
    rcases Nat.eq_zero_or_pos (val RB oy.l) with h1 | h1
    ·rw [h1, dig_zero] at h3; rw [h3] at h0; exact absurd h0 (Nat.lt_irrefl 0)
    ·exact h1
   conv => whnf
   refine ⟨⟨isC_pure _, isC_pure _, trivial⟩, ⟨_, _, _, _, _, _, _, ox.l, _, _, _, _, _, _, _, val RB oy.l, rfl,rfl,rfl, (congrArg List.length h3).symm, IAt.ow ox, iat_eq oy h3, rdl_eq h2, hn0, h4, h5, fun oq or hoq hor => ?_⟩⟩
   have hv2 : val RB or.l = val RB ox.l % val RB oy.l := by rw [hor, val_dig RB_two]
   have hl2 : or.l.length ≤ 50000000 := by rw [hor]; exact Nat.le_trans (dig_len_mono RB_two (Nat.mod_le _ _)) (by rw [← h2]; exact h4)
   conv => whnf
   refine ⟨[0,2,4], [4,5,6], [0,1,2], fun vs2 => ?_⟩
   conv => whnf
   refine ⟨fun _ _=>rfl,isC_pure _, isC_pure _, ?_⟩
   conv => whnf
   refine ⟨_, _, ?_, ?_, ⟨(oy, or, vs2), by rw [hv2, Nat.gcd_comm, ← Nat.gcd_rec, Nat.gcd_comm]; exact h1, h3, by rw [hv2]; exact hor, h5, hl2⟩, by show val RB or.l < val RB oy.l; rw [hv2]; exact Nat.mod_lt _ hn0, rfl, rfl⟩
   ·exact ⟨fun _=>rfl,fun _=>rfl,fun _=>rfl,fun _=>rfl,fun _=>rfl,fun _=>rfl,fun _=>rfl,fun _=>rfl,fun _=>rfl,fun _=>rfl,fun _=>rfl,fun _=>rfl,stm _⟩
   ·exact ⟨⟨rfl,rfl,rfl, fun _=>rfl⟩, ⟨rfl,rfl,rfl, fun _=>rfl⟩, ⟨rfl,rfl,rfl, fun _=>rfl⟩, trivial⟩
  ·have h0 : oy.l.length = 0 := len_zero h0
   conv => whnf
   exact hqx ⟨(ox, oy), by rw [← h1, List.eq_nil_of_length_eq_zero h0]; exact (Nat.gcd_zero_right _).symm, h2, h4⟩ (fun i => nth uv (_ :: _ :: _ :: _ :: uv :: uv :: _ :: _ :: _ :: _ :: _ :: _ :: _ :: _ :: _ :: _ :: _ :: _ :: _ :: _ :: _ :: _ :: _ :: _ :: _ :: _ :: []) i)
 ·rintro ⟨⟨ox, oy⟩, h1, h2, h4⟩ jj
  have h1 : val RB ox.l = (Nat.gcd X.z.natAbs Y.z.natAbs) := h1
  have h2 : ox.l = dig RB (val RB ox.l) := h2
  have h4 : ox.l.length ≤ 50000000 := h4
  conv => whnf
  refine ⟨⟨ox.l, IAt.ow ox, rfl, by rw [h2]; exact dig_Dl RB_two _, Nat.le_trans h4 (by decide)⟩, ?_⟩
  conv => whnf
  intro ρ
  rw [isOf_ow ox h2]
  exact wv_sv _ h1 (fun _ => ⟨fun h => (by cases h), fun h => absurd h (by omega)⟩) ρ
end Go.Proofs.YtocbklodkcdhkaaGreatDoor

namespace Go.Proofs.YtocbklodkcdhkaaGreatDoor
open Go.RowKit
set_option maxRecDepth 100000

def rfracE : List (FuncId × Dn) := (58, dQuoA) :: (56, dGcdA) :: baseA
theorem rfracE_ok : AllOk rfracE := .cons spRQuoA <| .cons spRGcdA baseA_ok
theorem gs_neg {n d : Int} (h : decide (d.sign < 0) = true) : -((n.gcd d : Nat) : Int) = gsgn n d := by
 have h := of_decide_eq_true h
 have h1 : d.sign = -1 := by
  rcases Int.lt_trichotomy d 0 with h2 | h2 | h2
  ·exact Int.sign_eq_neg_one_of_neg h2
  ·subst h2; exact absurd h (by decide)
  ·rw [Int.sign_eq_one_of_pos h2] at h; exact absurd h (by decide)
 unfold gsgn; rw [h1]; omega
theorem gs_pos {n d : Int} (h : decide (d.sign < 0) = false) (h0 : d ≠ 0) : ((n.gcd d : Nat) : Int) = gsgn n d := by
 have h := of_decide_eq_false h
 have h1 : d.sign = 1 := by
  rcases Int.lt_trichotomy d 0 with h2 | h2 | h2
  ·rw [Int.sign_eq_neg_one_of_neg h2] at h; exact absurd (by decide) h
  ·exact absurd h2 h0
  ·exact Int.sign_eq_one_of_pos h2
 unfold gsgn; rw [h1, Int.mul_one]
set_option maxHeartbeats 4000000 in
theorem spRFracA : SpOk Tryz.prog 33 dFracA := sp_num2H ⟨Tryz.func33, by kernel_rfl, by kernel_rfl⟩ (envN_ok rfracE_ok .nil 0 fun _ => false) (mix_ok .nil (envN_ok rfracE_ok .nil 0 fun _ => false) mixed noF_ok 0) (fun _ _ _ _ => rfl) fun X Y kX kY b s c t nX nY => by
 have hs8 : 8 * s.size ≤ 80000000 := by have := nX.2; omega
 have ht8 : 8 * t.size ≤ 80000000 := by have := nY.2; omega
 have hg8 : 8 * s.size + 8 * t.size ≤ 80000000 := by have := nX.2; have := nY.2; omega
 have eX : ival b s.data.toList = X.z := nX.1
 have eY : ival c t.data.toList = Y.z := nY.1
 conv => whnf
 refine ⟨ht8, ?_⟩
 conv => whnf
 refine bcase_intro (fun hz => ?_) (fun hz => ?_)
 ·have hz : Y.z = 0 := eY ▸ sign_zero hz
  conv => whnf
  refine fun ρ => tup2_sv (wid2_agg _ _ _ _ (by unfold fracN; rw [if_pos hz]) (by unfold fracD; rw [if_pos hz]) ρ) (bool_t1 (by rw [hz]; rfl) ρ)
 ·have hz : Y.z ≠ 0 := eY ▸ sign_nz hz
  conv => whnf
  refine ⟨⟨hs8, ht8⟩, ?_⟩
  conv => whnf
  refine bcase_intro (fun hn => ?_) (fun hn => ?_)
  ·have eg := gs_neg (n := ival b s.data.toList) hn
   conv => whnf
   refine ⟨hg8, ?_⟩
   conv => whnf
   refine ⟨⟨hs8, hg8⟩, ?_⟩
   conv => whnf
   refine ⟨⟨ht8, hg8⟩, ?_⟩
   conv => whnf
   refine fun ρ => tup2_sv (wid2_agg _ _ _ _ ?_ ?_ ρ) (bool_t1 (decide_eq_true hz).symm ρ)
   ·unfold fracN; rw [if_neg hz, ← eX, ← eY, ← eg]
   ·unfold fracD; rw [if_neg hz, ← eX, ← eY, ← eg]
  ·have eg := gs_pos (n := ival b s.data.toList) hn (fun e => hz (eY.symm.trans e))
   conv => whnf
   refine ⟨⟨hs8, hg8⟩, ?_⟩
   conv => whnf
   refine ⟨⟨ht8, hg8⟩, ?_⟩
   conv => whnf
   refine fun ρ => tup2_sv (wid2_agg _ _ _ _ ?_ ?_ ρ) (bool_t1 (decide_eq_true hz).symm ρ)
   ·unfold fracN; rw [if_neg hz, ← eX, ← eY, ← eg]
   ·unfold fracD; rw [if_neg hz, ← eX, ← eY, ← eg]
end Go.Proofs.YtocbklodkcdhkaaGreatDoor
