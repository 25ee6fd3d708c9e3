/- Digits of the reference, by the reckoner: over. Digits of the reference, by the reckoner: over. The reference's Quo, by the reckoner. The reference's Parse, by the reckoner. -/
import Derived.Test.YtbhcmajeoamloaaDoorIaa
import Derived.Test.YtbhcmajeoamloaaDoorLwa
namespace Go.Proofs.YtbhcmajeoamloaaDoor
open Go.RowKit
set_option maxRecDepth 100000

/-- quotient and remainder of digits -/
def cOver : NewC := fun args ros K => ∃ nla offa lena capa ha tya csa la nlb offb lenb capb hb tyb csb n, args = [.c (.sli nla 0 offa lena capa ha), .c (.sli nlb 1 offb lenb capb hb)] ∧ ros = [⟨tya, true, csa, 0⟩, ⟨tyb, true, csb, 0⟩] ∧
  la.length = lena ∧ (dig RB n).length = lenb ∧ IAt csa offa la ∧ IAt csb offb (dig RB n) ∧ Dl RB la ∧ 0 < n ∧ lena ≤ 50000000 ∧ lenb ≤ 50000000 ∧ ∀ oq or : OI, oq.l = dig RB (val RB la / n) → or.l = dig RB (val RB la % n) → K (.tup [oq.t 2, or.t 3]) [oq.blk, or.blk]
structure OvI (la : List Nat) (n k : Nat) (lq : List Nat) (r : OI) : Prop where
  hk : k ≤ la.length
  ql : lq.length = la.length
  dq : Dl RB lq
  hr : r.l = dig RB (val RB r.l)
  lt : val RB r.l < n
  hv : val RB (la.drop k) = n * val RB (lq.drop k) + val RB r.l
theorem OvI.start {la : List Nat} {n : Nat} (hn : 0 < n) : OvI la n la.length (List.replicate la.length 0) OI.nil := ⟨Nat.le_refl _, List.length_replicate, Dl.replicate RB_pos _, by show [] = dig RB 0; rw [dig_zero], hn, by rw [List.drop_of_length_le (Nat.le_refl _), List.drop_of_length_le (by rw [List.length_replicate]; exact Nat.le_refl _)]; simp [val, OI.nil]⟩
theorem OvI.step {la lq : List Nat} {n k : Nat} {r o : OI} (h : OvI la n k lq r) (hk : 0 < k) (hn : 0 < n) {hj : k - 1 < la.length} (da : Dl RB la) {T low : Nat} (hT : T = la[k - 1] + RB * val RB r.l) (hl : low * n ≤ T) (hl2 : T < (low + 1) * n) (ho : o.l = dig RB (T - n * low)) : OvI la n (k - 1) (lq.set (k - 1) low) o ∧ low < 65536 := by
  have hx : la[k - 1] < RB := da.get _ hj
  have hq : T / n = low := by
    have h1 := Nat.div_lt_iff_lt_mul (x := T) (y := low + 1) hn
    have h2 := (Nat.le_div_iff_mul_le hn).2 hl
    have h3 := h1.2 hl2
    omega
  have hm : T - n * low = T % n := by rw [← hq]; have := Nat.div_add_mod T n; omega
  have hlow : low < RB := by
    rw [← hq, Nat.div_lt_iff_lt_mul hn, hT]
    have h1 : RB * (val RB r.l + 1) ≤ RB * n := Nat.mul_le_mul_left _ h.lt
    rw [Nat.mul_add] at h1
    omega
  have hs := small_step (B := RB) (d := n) hk h.hk (by rw [h.ql]; exact h.hk) h.hv
  rw [getD_get hj, show val RB r.l * RB + la[k - 1] = T by rw [hT, Nat.mul_comm]; omega, hq] at hs
  have hv : val RB o.l = T % n := by rw [ho, val_dig RB_two, hm]
  exact ⟨⟨by have := h.hk; omega, by rw [List.length_set]; exact h.ql, h.dq.set _ hlow, by rw [hv, ← hm]; exact ho, by rw [hv]; exact Nat.mod_lt _ hn, by rw [hv]; exact hs⟩, by rw [RB_eq] at hlow; exact hlow⟩
theorem OvI.last {la lq : List Nat} {n : Nat} {r : OI} (h : OvI la n 0 lq r) (hn : 0 < n) : val RB lq = val RB la / n ∧ val RB la % n = val RB r.l := by
  have hv := h.hv
  rw [List.drop_zero, List.drop_zero] at hv
  rw [hv, Nat.mul_add_div hn, Nat.div_eq_of_lt h.lt, Nat.mul_add_mod, Nat.mod_eq_of_lt h.lt]
  exact ⟨rfl, rfl⟩
structure BinI (T n low high : Nat) : Prop where
  lo : low * n ≤ T
  hi : T < high * n
  lt : low < high
  le : high ≤ 65536
theorem BinI.low {T n low high m : Nat} (h : BinI T n low high) (hm : m = (low + high) / 2) (h2 : 1 < high - low) (hle : m * n ≤ T) : BinI T n m high ∧ high - m < high - low := by
  have := h.lt
  exact ⟨⟨hle, h.hi, by omega, h.le⟩, by omega⟩
theorem BinI.high {T n low high m : Nat} (h : BinI T n low high) (hm : m = (low + high) / 2) (h2 : 1 < high - low) (hle : ¬ m * n ≤ T) : BinI T n low m ∧ m - low < high - low := by
  have := h.lt; have := h.le
  exact ⟨⟨h.lo, by omega, by omega, by omega⟩, by omega⟩
theorem BinI.done {T n low high : Nat} (h : BinI T n low high) (h2 : high - low ≤ 1) : low * n ≤ T ∧ T < (low + 1) * n := by
  have h3 := h.lt
  have : high = low + 1 := by omega
  rw [← this]
  exact ⟨h.lo, h.hi⟩
theorem bin_gt {low high : Nat} (hlt : low < high) (h2 : high ≤ 65536) (h : decide ((1 : Int) < IntKind.i64.wrap ((high : Int) - (low : Int))) = true) : 1 < high - low := by
  have := of_decide_eq_true h
  rw [wrap_id (by unfold IR; omega)] at this; omega
theorem bin_ngt {low high : Nat} (hlt : low < high) (h2 : high ≤ 65536) (h : decide ((1 : Int) < IntKind.i64.wrap ((high : Int) - (low : Int))) = false) : high - low ≤ 1 := by
  have := of_decide_eq_false h
  rw [wrap_id (by unfold IR; omega)] at this; omega
theorem bin_mid {low high : Nat} (h1 : low ≤ 65536) (h2 : high ≤ 65536) : IntKind.i64.wrap ((IntKind.i64.wrap ((low : Int) + (high : Int))).tdiv 2) = (((low + high) / 2 : Nat) : Int) := by
  rw [wrap_id (z := (low : Int) + (high : Int)) (by unfold IR; omega), Int.tdiv_eq_ediv_of_nonneg (by omega), wrap_id (by unfold IR; omega)]; omega
theorem cmpE_le {m n : Nat} : decide (cmpE m n ≤ 0) = decide (m ≤ n) := by
  unfold cmpE
  split
  · rename_i h; rw [decide_eq_true (by omega : m ≤ n)]; rfl
  · rename_i h
    split
    · rename_i h2; rw [decide_eq_false (by omega : ¬ m ≤ n)]; rfl
    · rename_i h2; rw [decide_eq_true (by omega : m ≤ n)]; rfl
theorem iat_cons {x : Nat} {z : Int} {hz : IR z} {l : List Nat} (hx : x < 65536) (e : z = x) : IAt ([C.int z hz] ++ isC l) 0 (x :: l) := by
  rw [show [C.int z hz] ++ isC l = isC (x :: l) from by rw [iC_eq hx e]; rfl]; exact IAt.mk' _
def overC : List (FuncId × NewC) := [(69, cBy), (62, cMinus), (70, cTrim)]
theorem overC_ok : AllC Tryd.prog overC := .cons csBy <| .cons csMinus <| .cons csTrim .nil
def rdC : List (FuncId × Dr) := [(61, dComp), (57, dRWideN)]
theorem rdC_ok : AllR rdC := .cons spComp <| .cons spRWideN .nil
end Go.Proofs.YtbhcmajeoamloaaDoor

namespace Go.Proofs.YtbhcmajeoamloaaDoor
open Go.RowKit
set_option maxRecDepth 100000

theorem IAt.cut {cs : List C} {off : Nat} {l : List Nat} (h : IAt cs off l) (k : Nat) : IAt cs off (l.take k) := by
  obtain ⟨hp, A, B, rfl, rfl⟩ := h
  refine ⟨hp, A, isC (l.drop k) ++ B, ?_, rfl⟩
  conv => lhs; rw [← List.take_append_drop k l]
  rw [isC_append, List.append_assoc]
theorem iat_dig {cs : List C} {off : Nat} {l : List Nat} (h : IAt cs off l) (hd : Dl RB l) : IAt cs off (dig RB (val RB l)) := by
  rw [← take_tlen RB_two hd]; exact h.cut _
theorem val_isOf {cs : List C} {off len m : Nat} (h : IAt cs off (dig RB m)) (hl : (dig RB m).length = len) : val RB (isOf cs off len) = m := by
  rw [← hl, isOf_eq h (dig_Dl RB_two m), val_dig RB_two]
theorem cmp_at {a b m n : Nat} (e1 : a = m) (e2 : b = n) : cmpE a b = cmpE m n := by subst e1 e2; rfl
theorem dec_lt {a b m n : Nat} {v : Bool} (e1 : a = m) (e2 : b = n) (h : decide (cmpE a b < 0) = v) : decide (m < n) = v := by subst e1 e2; exact cmpE_neg.symm.trans h
theorem dec_le {a b m n : Nat} {v : Bool} (e1 : a = m) (e2 : b = n) (h : decide (cmpE a b ≤ 0) = v) : decide (m ≤ n) = v := by subst e1 e2; exact cmpE_le.symm.trans h
theorem cons_tl {cap2 x : Nat} {l : List Nat} : (cap2 - (1 + l.length)) * 1 = cap2 - (x :: l).length := by rw [List.length_cons, Nat.mul_one, Nat.add_comm]
theorem cons_cells {x : Nat} {z : Int} {hz : IR z} {l : List Nat} (hx : x < 65536) (e : z = x) (ρ : Rho) : cellsL ρ ([C.int z hz] ++ isC l) = cellsL ρ (isC (x :: l)) := by
  rw [show [C.int z hz] ++ isC l = isC (x :: l) from by rw [iC_eq hx e]; rfl]
theorem slok_1 {m n c : Nat} (h : SliOk (false && decide (m = 0)) n c) : SliOk false n c := ⟨h.1, h.2.1, fun e => by cases e⟩
theorem BinI.one {T n : Nat} (h : T < n) : BinI T n 0 1 := ⟨by omega, by omega, by decide, by decide⟩
theorem BinI.all {T n : Nat} (h : T < 65536 * n) : BinI T n 0 65536 := ⟨by omega, h, by decide, by decide⟩
theorem lowI {la lq : List Nat} {n k : Nat} {r : OI} {hj : k - 1 < la.length} {T low : Nat} (hT : T = la[k - 1] + RB * val RB r.l) (h : OvI la n k lq r) (da : Dl RB la) (hl : low * n ≤ T ∧ T < (low + 1) * n) : low < 65536 := by
  have hx : la[k - 1] < RB := da.get _ hj
  have h1 : RB * (val RB r.l + 1) ≤ RB * n := Nat.mul_le_mul_left _ h.lt
  rw [Nat.mul_add] at h1
  have h2 : low * n < 65536 * n := by rw [← RB_eq]; omega
  exact Nat.lt_of_mul_lt_mul_right h2
set_option maxHeartbeats 40000000 in
theorem csOver : CSp Tryd.prog 65 cOver := csp_of (envN_ok .nil rdC_ok 0 fun _ => false) mixed (mix_ok overC_ok (envN_ok .nil rdC_ok 0 fun _ => false) mixed noF_ok 0) ⟨Tryd.func65, by kernel_rfl, by kernel_rfl⟩ fun args ros K hc => by
  obtain ⟨nla, offa, _, capa, ha, tya, csa, la, nlb, offb, _, capb, hb, tyb, csb, n, rfl, rfl, rfl, rfl, hwa, hwb, da, hn0, sa, sb, hc⟩ := hc
  refine ⟨fun ρ ρ' e => ?_, ?_⟩
  · have e0 := e 0 (show 0 < 2 by decide)
    have e1 := e 1 (show 1 < 2 by decide)
    simp only [List.map, SV.den, C.den, C.cells, e0, e1]
  conv => whnf
  refine ⟨rfl, la.length, la.length, rfl, rfl, Nat.le_refl _, by omega, fun h2 => ?_⟩
  conv => whnf
  refine loop_st (G := {g : Nat × List Nat × OI × (Nat → Value) // OvI la n g.1 g.2.1 g.2.2.1}) (fun g => (.c (.sli nla 0 offa la.length capa ha) :: .c (.sli nlb 1 offb (dig RB n).length capb hb) :: .c (.val (g.1.2.2.2 2)) :: .c (.val (g.1.2.2.2 3)) :: .c (.val (g.1.2.2.2 4)) :: .c (.val (g.1.2.2.2 5)) :: .c (.sli false 2 0 la.length la.length h2) :: (g.1.2.2.1.sl 3) :: .c (.int ((g.1.1 : Nat) - 1 : Int) (irp ha g.2.hk)) :: .c (.val (g.1.2.2.2 9)) :: .c (.val (g.1.2.2.2 10)) :: .c (.val (g.1.2.2.2 11)) :: .c (.val (g.1.2.2.2 12)) :: .c (.val (g.1.2.2.2 13)) :: .c (.val (g.1.2.2.2 14)) :: .c (.val (g.1.2.2.2 15)) :: .c (.val (g.1.2.2.2 16)) :: .c (.val (g.1.2.2.2 17)) :: .c (.val (g.1.2.2.2 18)) :: .c (.val (g.1.2.2.2 19)) :: .c (.val (g.1.2.2.2 20)) :: .c (.val (g.1.2.2.2 21)) :: .c (.val (g.1.2.2.2 22)) :: .c (.val (g.1.2.2.2 23)) :: .c (.val (g.1.2.2.2 24)) :: .c (.val (g.1.2.2.2 25)) :: .c (.val (g.1.2.2.2 26)) :: .c (.val (g.1.2.2.2 27)) :: .c (.val (g.1.2.2.2 28)) :: .c (.val (g.1.2.2.2 29)) :: .c (.val (g.1.2.2.2 30)) :: .c (.val (g.1.2.2.2 31)) :: .c (.val (g.1.2.2.2 32)) :: .c (.val (g.1.2.2.2 33)) :: .c (.val (g.1.2.2.2 34)) :: .c (.val (g.1.2.2.2 35)) :: .c (.val (g.1.2.2.2 36)) :: .c (.val (g.1.2.2.2 37)) :: .c (.val (g.1.2.2.2 38)) :: .c (.val (g.1.2.2.2 39)) :: .c (.val (g.1.2.2.2 40)) :: .c (.val (g.1.2.2.2 41)) :: .c (.val (g.1.2.2.2 42)) :: .c (.val (g.1.2.2.2 43)) :: .c (.val (g.1.2.2.2 44)) :: .c (.val (g.1.2.2.2 45)) :: .c (.val (g.1.2.2.2 46)) :: .c (.val (g.1.2.2.2 47)) :: .c (.val (g.1.2.2.2 48)) :: .c (.val (g.1.2.2.2 49)) :: .c (.val (g.1.2.2.2 50)) :: .c (.val (g.1.2.2.2 51)) :: .c (.val (g.1.2.2.2 52)) :: .c (.val (g.1.2.2.2 53)) :: .c (.val (g.1.2.2.2 54)) :: .c (.val (g.1.2.2.2 55)) :: .c (.val (g.1.2.2.2 56)) :: .c (.val (g.1.2.2.2 57)) :: .c (.val (g.1.2.2.2 58)) :: .c (.val (g.1.2.2.2 59)) :: .c (.val (g.1.2.2.2 60)) :: .c (.val (g.1.2.2.2 61)) :: [])) (fun g => [⟨tya, true, csa, 0⟩, ⟨tyb, true, csb, 0⟩, ⟨3, false, isC g.1.2.1, 0⟩, g.1.2.2.1.blk]) (fun g => g.1.1) ?_ ?_
  · refine ⟨[0, 1, 2, 1000 + 3], [0, 1, 6, 7, 8], [0, 1, 2, 3], fun vs => ?_⟩
    conv => whnf
    refine ⟨hwa.1, hwb.1, irep_pure _, ?_⟩
    conv => whnf
    refine ⟨_, _, ?_, ?_, ⟨(la.length, List.replicate la.length 0, OI.nil, vs), OvI.start hn0⟩, rfl, rfl⟩
    · exact ⟨fun _ => rfl, fun _ => rfl, fun _ => rfl, fun _ => rfl, fun _ => rfl, fun _ => rfl, fun _ => rfl, fun _ => rfl, sint_eq (wrap_id (irp ha (Nat.le_refl _))) _ _, fun _ => rfl, fun _ => rfl, fun _ => rfl, fun _ => rfl, fun _ => rfl, fun _ => rfl, fun _ => rfl, fun _ => rfl, fun _ => rfl, fun _ => rfl, fun _ => rfl, fun _ => rfl, fun _ => rfl, fun _ => rfl, fun _ => rfl, fun _ => rfl, fun _ => rfl, fun _ => rfl, fun _ => rfl, fun _ => rfl, fun _ => rfl, fun _ => rfl, fun _ => rfl, fun _ => rfl, fun _ => rfl, fun _ => rfl, fun _ => rfl, fun _ => rfl, fun _ => rfl, fun _ => rfl, fun _ => rfl, fun _ => rfl, fun _ => rfl, fun _ => rfl, fun _ => rfl, fun _ => rfl, fun _ => rfl, fun _ => rfl, fun _ => rfl, fun _ => rfl, fun _ => rfl, fun _ => rfl, fun _ => rfl, fun _ => rfl, fun _ => rfl, fun _ => rfl, fun _ => rfl, fun _ => rfl, fun _ => rfl, fun _ => rfl, fun _ => rfl, fun _ => rfl, fun _ => rfl, trivial⟩
    · exact ⟨⟨rfl, rfl, rfl, fun _ => rfl⟩, ⟨rfl, rfl, rfl, fun _ => rfl⟩, ⟨rfl, rfl, Nat.sub_self _, fun ρ => by rw [← isC_rep]; rfl⟩, ⟨rfl, rfl, rfl, fun _ => rfl⟩, trivial⟩
  · rintro ⟨⟨k, lq, r, vs⟩, hI⟩
    have hI : OvI la n k lq r := hI
    conv => whnf
    refine bcase_intro (fun h0 => ?_) (fun h0 => ?_)
    · have h0 : 0 < k := i_ge h0
      have hkm := hI.hk
      have hka : k - 1 < la.length := by omega
      have hkq : k - 1 < lq.length := by rw [hI.ql]; exact hka
      have hirk : IR ((k - 1 : Nat) : Int) := ltI ha (Nat.le_of_lt hka)
      have hx16 : (la[k - 1]'hka) < 65536 := da.get _ hka
      have dr : Dl RB r.l := by rw [hI.hr]; exact dig_Dl RB_two _
      obtain ⟨T, hT⟩ : ∃ T, T = (la[k - 1]'hka) + RB * val RB r.l := ⟨_, rfl⟩
      have hTv : val RB ((la[k - 1]'hka) :: r.l) = T := by rw [val_cons, hT]
      have dxr : Dl RB ((la[k - 1]'hka) :: r.l) := fun d hd => by
        rcases List.mem_cons.1 hd with rfl | hd
        · rw [RB_eq]; exact hx16
        · exact dr d hd
      have hrl : r.l.length ≤ 50000000 := by
        rw [hI.hr]; exact Nat.le_trans (dig_len_mono RB_two (Nat.le_of_lt hI.lt)) sb
      have hTn : T < 65536 * n := by
        have h1 : RB * (val RB r.l + 1) ≤ RB * n := Nat.mul_le_mul_left _ hI.lt
        have hB : RB = 65536 := rfl
        rw [Nat.mul_add] at h1
        rw [hT, ← hB]; omega
      conv => whnf
      conv =>
        arg 2
        tactic' =>
          apply eff_index_sli (hi := hirk) (ho := ?how13) (hT := ?hTw13) (hx := ?hxw13) (hk := ?hkw13) (hlt := ?hltw13)
          case how13 => rfl
          case hTw13 => rfl
          case hxw13 => rfl
          case hkw13 => exact cint (pred_nat h0) hirk
          case hltw13 => exact hka
      conv => whnf
      conv =>
        arg 2
        tactic' =>
          apply eff_load_sub (m := [.int (((la[k - 1]'hka) : Nat) : Int) (ir_dig (da.get _ hka))]) (ho := ?how14) (hT := ?hTw14) (hx := ?hxw14) (hb := ?hbw14) (hm := ?hmw14) (hv := ?hvw14)
          case how14 => rfl
          case hTw14 => rfl
          case hxw14 => rfl
          case hbw14 => rfl
          case hmw14 => exact hwa.int da hka
          case hvw14 => rfl
      conv => whnf
      refine .inl ?_
      conv => whnf
      conv =>
        arg 2
        tactic' => exact (IAt.ow r).all rfl
      conv => whnf
      refine ⟨isC_one _, ?_⟩
      have hroom : (1 + r.l.length) * 1 ≤ 5000000000000 := by omega
      conv => whnf
      refine ⟨⟨rfl, rfl, rfl, fun _ => rfl, hroom⟩, fun cap2 hcap2 => ?_⟩
      have hs := slok_1 hcap2
      conv => whnf
      refine ⟨⟨pureL_append (fun _ _ => rfl) (isC_pure _), trivial⟩, ⟨_, _, _, _, _, _, _, (la[k - 1]'hka) :: r.l, rfl, rfl, Nat.add_comm _ _, iat_cons hx16 rfl, dxr, fun h3 => ?_⟩⟩
      have hr3 : ((la[k - 1]'hka) :: r.l).length ≤ cap2 := by rw [List.length_cons, Nat.add_comm]; exact hs.1
      have hRl : (dig RB T).length = tlen ((la[k - 1]'hka) :: r.l) := by rw [← hTv, tlen_rdig dxr]
      have hRt : IAt (isC ((la[k - 1]'hka) :: r.l)) 0 (dig RB T) := by rw [← hTv]; exact IAt.normd dxr
      have hRs2 : tlen ((la[k - 1]'hka) :: r.l) ≤ 200000000 := Nat.le_trans (tlen_le _) (by rw [List.length_cons]; omega)
      have hRs : tlen ((la[k - 1]'hka) :: r.l) ≤ 1000000000 := Nat.le_trans hRs2 (by decide)
      conv => whnf
      refine ⟨⟨dig RB T, dig RB n, ⟨(by rw [← hTv]; exact iat_dig (iat_cons hx16 rfl) dxr), hRl, by rw [val_dig RB_two], hRs⟩, hwb, rfl, by rw [val_dig RB_two], Nat.le_trans sb (by decide)⟩, ?_⟩
      conv => whnf
      refine bcase_intro (fun hc0 => ?_) (fun hc0 => ?_)
      · have hlt : T < n := of_decide_eq_true (dec_lt (m := T) (n := n) (val_isOf (by rw [← hTv]; exact iat_dig (iat_cons hx16 rfl) dxr) hRl) (val_isOf hwb rfl) hc0)
        obtain ⟨R, hRe, hRsl, hRbk⟩ : ∃ R : OI, R.l = dig RB T ∧ (OI.ofTrim ((la[k - 1]'hka) :: r.l) cap2 h3 hr3).sl 3 = R.sl 3 ∧ R.blk = (OI.ofTrim ((la[k - 1]'hka) :: r.l) cap2 h3 hr3).blk := ⟨_, by rw [OI.ofTrim_l dxr, hTv], rfl, rfl⟩
        have hRt2 : IAt R.blk.cs 0 (dig RB T) := by rw [← hRe]; exact IAt.ow R
        have hRl2 : (dig RB T).length = R.l.length := by rw [hRe]
        have hRs3 : R.l.length ≤ 200000000 := by rw [← hRl2, hRl]; exact hRs2
        have hRs4 : R.l.length ≤ 1000000000 := Nat.le_trans hRs3 (by decide)
        conv => whnf
        refine loop_cut (G := {g : Nat × Nat × (Nat → Value) // BinI T n g.1 g.2.1}) (X := {x : Nat // x * n ≤ T ∧ T < (x + 1) * n}) (fun g => (.c (.sli nla 0 offa la.length capa ha) :: .c (.sli nlb 1 offb (dig RB n).length capb hb) :: .c (.val (g.1.2.2 2)) :: .c (.val (g.1.2.2 3)) :: .c (.val (g.1.2.2 4)) :: .c (.val (g.1.2.2 5)) :: .c (.sli false 2 0 la.length la.length h2) :: (R.sl 3) :: .c (.int ((k : Nat) - 1 : Int) (irp ha hI.hk)) :: .c (.int (g.1.1 : Nat) (ir_nat (Nat.le_trans (Nat.le_of_lt (Nat.lt_of_lt_of_le g.2.lt g.2.le)) (by decide)))) :: .c (.int (g.1.2.1 : Nat) (ir_nat (Nat.le_trans g.2.le (by decide)))) :: .c (.val (g.1.2.2 11)) :: .c (.val (g.1.2.2 12)) :: .c (.val (g.1.2.2 13)) :: .c (.val (g.1.2.2 14)) :: .c (.val (g.1.2.2 15)) :: .c (.val (g.1.2.2 16)) :: .c (.val (g.1.2.2 17)) :: .c (.val (g.1.2.2 18)) :: .c (.val (g.1.2.2 19)) :: .c (.val (g.1.2.2 20)) :: .c (.val (g.1.2.2 21)) :: .c (.val (g.1.2.2 22)) :: .c (.val (g.1.2.2 23)) :: .c (.val (g.1.2.2 24)) :: .c (.val (g.1.2.2 25)) :: .c (.val (g.1.2.2 26)) :: .c (.val (g.1.2.2 27)) :: .c (.val (g.1.2.2 28)) :: .c (.val (g.1.2.2 29)) :: .c (.val (g.1.2.2 30)) :: .c (.val (g.1.2.2 31)) :: .c (.val (g.1.2.2 32)) :: .c (.val (g.1.2.2 33)) :: .c (.val (g.1.2.2 34)) :: .c (.val (g.1.2.2 35)) :: .c (.val (g.1.2.2 36)) :: .c (.val (g.1.2.2 37)) :: .c (.val (g.1.2.2 38)) :: .c (.val (g.1.2.2 39)) :: .c (.val (g.1.2.2 40)) :: .c (.val (g.1.2.2 41)) :: .c (.val (g.1.2.2 42)) :: .c (.val (g.1.2.2 43)) :: .c (.val (g.1.2.2 44)) :: .c (.val (g.1.2.2 45)) :: .c (.val (g.1.2.2 46)) :: .c (.val (g.1.2.2 47)) :: .c (.val (g.1.2.2 48)) :: .c (.val (g.1.2.2 49)) :: .c (.val (g.1.2.2 50)) :: .c (.val (g.1.2.2 51)) :: .c (.val (g.1.2.2 52)) :: .c (.val (g.1.2.2 53)) :: .c (.val (g.1.2.2 54)) :: .c (.val (g.1.2.2 55)) :: .c (.val (g.1.2.2 56)) :: .c (.val (g.1.2.2 57)) :: .c (.val (g.1.2.2 58)) :: .c (.val (g.1.2.2 59)) :: .c (.val (g.1.2.2 60)) :: .c (.val (g.1.2.2 61)) :: [])) (fun g => [⟨tya, true, csa, 0⟩, ⟨tyb, true, csb, 0⟩, ⟨3, false, isC lq, 0⟩, R.blk]) (fun g => g.1.2.1 - g.1.1) 2 (fun x j => (.c (.sli nla 0 offa la.length capa ha) :: .c (.sli nlb 1 offb (dig RB n).length capb hb) :: j 2 :: j 3 :: j 4 :: j 5 :: .c (.sli false 2 0 la.length la.length h2) :: (R.sl 3) :: .c (.int ((k : Nat) - 1 : Int) (irp ha hI.hk)) :: .c (.int (x.1 : Nat) (ir_nat (by have := lowI hT hI da x.2; omega))) :: j 10 :: j 11 :: j 12 :: j 13 :: j 14 :: j 15 :: j 16 :: j 17 :: j 18 :: j 19 :: j 20 :: j 21 :: j 22 :: j 23 :: j 24 :: j 25 :: j 26 :: j 27 :: j 28 :: j 29 :: j 30 :: j 31 :: j 32 :: j 33 :: j 34 :: j 35 :: j 36 :: j 37 :: j 38 :: j 39 :: j 40 :: j 41 :: j 42 :: j 43 :: j 44 :: j 45 :: j 46 :: j 47 :: j 48 :: j 49 :: j 50 :: j 51 :: j 52 :: j 53 :: j 54 :: j 55 :: j 56 :: j 57 :: j 58 :: j 59 :: j 60 :: j 61 :: [])) (fun x => [⟨tya, true, csa, 0⟩, ⟨tyb, true, csb, 0⟩, ⟨3, false, isC lq, 0⟩, R.blk]) ?_ ?_ ?_
        · refine ⟨[0, 1, 2, 5], [0, 1, 6, 7, 8, 9, 10], [0, 1, 2, 3], fun vs5 => ?_⟩
          conv => whnf
          refine ⟨hwa.1, hwb.1, isC_pure _, pureL_append (fun _ _ => rfl) (isC_pure _), ?_⟩
          conv => whnf
          refine ⟨_, _, ?_, ?_, ⟨(0, 1, vs5), BinI.one hlt⟩, rfl, rfl⟩
          · exact ⟨fun _ => rfl, fun _ => rfl, fun _ => rfl, fun _ => rfl, fun _ => rfl, fun _ => rfl, fun _ => rfl, fun ρ => (OI.ofTrim_sl 3 ρ).trans (congrArg (fun z : SV => z.den ρ) hRsl), fun _ => rfl, fun _ => rfl, fun _ => rfl, fun _ => rfl, fun _ => rfl, fun _ => rfl, fun _ => rfl, fun _ => rfl, fun _ => rfl, fun _ => rfl, fun _ => rfl, fun _ => rfl, fun _ => rfl, fun _ => rfl, fun _ => rfl, fun _ => rfl, fun _ => rfl, fun _ => rfl, fun _ => rfl, fun _ => rfl, fun _ => rfl, fun _ => rfl, fun _ => rfl, fun _ => rfl, fun _ => rfl, fun _ => rfl, fun _ => rfl, fun _ => rfl, fun _ => rfl, fun _ => rfl, fun _ => rfl, fun _ => rfl, fun _ => rfl, fun _ => rfl, fun _ => rfl, fun _ => rfl, fun _ => rfl, fun _ => rfl, fun _ => rfl, fun _ => rfl, fun _ => rfl, fun _ => rfl, fun _ => rfl, fun _ => rfl, fun _ => rfl, fun _ => rfl, fun _ => rfl, fun _ => rfl, fun _ => rfl, fun _ => rfl, fun _ => rfl, fun _ => rfl, fun _ => rfl, fun _ => rfl, trivial⟩
          · exact ⟨⟨rfl, rfl, rfl, fun _ => rfl⟩, ⟨rfl, rfl, rfl, fun _ => rfl⟩, ⟨rfl, rfl, rfl, fun _ => rfl⟩, (by rw [hRbk, OI.ofTrim_blk]; exact ⟨rfl, rfl, cons_tl, fun ρ => cons_cells hx16 rfl ρ⟩), trivial⟩
        · intro Qx hqx
          rintro ⟨⟨low, high, vs6⟩, hB⟩
          have hB : BinI T n low high := hB
          conv => whnf
          refine bcase_intro (fun hgt => ?_) (fun hgt => ?_)
          · have hgt := bin_gt hB.lt hB.le hgt
            obtain ⟨m, hm⟩ : ∃ m, m = (low + high) / 2 := ⟨_, rfl⟩
            have hlt := hB.lt
            have hle := hB.le
            have em := (bin_mid (low := low) (high := high) (by omega) (by omega)).trans (congrArg (fun z : Nat => (z : Int)) hm.symm)
            have hm16 : m < 65536 := by omega
            conv => whnf
            refine ⟨⟨hwb.1, trivial⟩, ⟨_, _, _, _, _, _, _, dig RB n, m, _, _, rfl, rfl, rfl, hwb, dig_Dl RB_two n, Nat.le_trans sb (by decide), hm16, em, fun ob _ hob => ?_⟩⟩
            rw [val_dig RB_two] at hob
            have hobl : ob.l.length ≤ 1000000000 := by
              rw [hob]
              refine Nat.le_trans (dig_length_le RB_two (k := (dig RB n).length + 1) ?_) (by omega)
              have h6 := lt_of_dig_length RB_two n
              have h7 : n * m < RB ^ (dig RB n).length * RB := by
                have h8 : n * m ≤ n * RB := Nat.mul_le_mul_left _ (Nat.le_of_lt hm16)
                have h9 : n * RB < RB ^ (dig RB n).length * RB := Nat.mul_lt_mul_of_pos_right h6 RB_pos
                omega
              rw [Nat.pow_succ]; exact h7
            conv => whnf
            refine ⟨⟨ob.l, dig RB T, ⟨IAt.ow ob, rfl, by rw [hob, val_dig RB_two], hobl⟩, hRt2, hRl2, by rw [val_dig RB_two], hRs4⟩, ?_⟩
            conv => whnf
            refine bcase_intro (fun hle2 => ?_) (fun hle2 => ?_)
            · have hmle : m * n ≤ T := by
                have := of_decide_eq_true (dec_le (m := n * m) (n := T) (val_isOf (by rw [← hob]; exact IAt.ow ob) (congrArg List.length hob).symm) (val_isOf hRt2 hRl2) hle2)
                rwa [Nat.mul_comm]
              obtain ⟨hB2, hmu⟩ := hB.low hm hgt hmle
              conv => whnf
              refine ⟨[0, 1, 2, 3], [0, 1, 6, 7, 8, 9, 10], [0, 1, 2, 3], fun vs7 => ?_⟩
              conv => whnf
              refine ⟨hwa.1, hwb.1, isC_pure _, isC_pure _, ?_⟩
              conv => whnf
              refine ⟨_, _, ?_, ?_, ⟨(m, high, vs7), hB2⟩, hmu, rfl, rfl⟩
              · exact ⟨fun _ => rfl, fun _ => rfl, fun _ => rfl, fun _ => rfl, fun _ => rfl, fun _ => rfl, fun _ => rfl, fun _ => rfl, fun _ => rfl, sint_eq em _ _, fun _ => rfl, fun _ => rfl, fun _ => rfl, fun _ => rfl, fun _ => rfl, fun _ => rfl, fun _ => rfl, fun _ => rfl, fun _ => rfl, fun _ => rfl, fun _ => rfl, fun _ => rfl, fun _ => rfl, fun _ => rfl, fun _ => rfl, fun _ => rfl, fun _ => rfl, fun _ => rfl, fun _ => rfl, fun _ => rfl, fun _ => rfl, fun _ => rfl, fun _ => rfl, fun _ => rfl, fun _ => rfl, fun _ => rfl, fun _ => rfl, fun _ => rfl, fun _ => rfl, fun _ => rfl, fun _ => rfl, fun _ => rfl, fun _ => rfl, fun _ => rfl, fun _ => rfl, fun _ => rfl, fun _ => rfl, fun _ => rfl, fun _ => rfl, fun _ => rfl, fun _ => rfl, fun _ => rfl, fun _ => rfl, fun _ => rfl, fun _ => rfl, fun _ => rfl, fun _ => rfl, fun _ => rfl, fun _ => rfl, fun _ => rfl, fun _ => rfl, fun _ => rfl, trivial⟩
              · exact ⟨⟨rfl, rfl, rfl, fun _ => rfl⟩, ⟨rfl, rfl, rfl, fun _ => rfl⟩, ⟨rfl, rfl, rfl, fun _ => rfl⟩, ⟨rfl, rfl, rfl, fun _ => rfl⟩, trivial⟩
            · have hmle : ¬ m * n ≤ T := by
                have := of_decide_eq_false (dec_le (m := n * m) (n := T) (val_isOf (by rw [← hob]; exact IAt.ow ob) (congrArg List.length hob).symm) (val_isOf hRt2 hRl2) hle2)
                rwa [Nat.mul_comm]
              obtain ⟨hB2, hmu⟩ := hB.high hm hgt hmle
              conv => whnf
              refine ⟨[0, 1, 2, 3], [0, 1, 6, 7, 8, 9, 10], [0, 1, 2, 3], fun vs7 => ?_⟩
              conv => whnf
              refine ⟨hwa.1, hwb.1, isC_pure _, isC_pure _, ?_⟩
              conv => whnf
              refine ⟨_, _, ?_, ?_, ⟨(low, m, vs7), hB2⟩, hmu, rfl, rfl⟩
              · exact ⟨fun _ => rfl, fun _ => rfl, fun _ => rfl, fun _ => rfl, fun _ => rfl, fun _ => rfl, fun _ => rfl, fun _ => rfl, fun _ => rfl, fun _ => rfl, sint_eq em _ _, fun _ => rfl, fun _ => rfl, fun _ => rfl, fun _ => rfl, fun _ => rfl, fun _ => rfl, fun _ => rfl, fun _ => rfl, fun _ => rfl, fun _ => rfl, fun _ => rfl, fun _ => rfl, fun _ => rfl, fun _ => rfl, fun _ => rfl, fun _ => rfl, fun _ => rfl, fun _ => rfl, fun _ => rfl, fun _ => rfl, fun _ => rfl, fun _ => rfl, fun _ => rfl, fun _ => rfl, fun _ => rfl, fun _ => rfl, fun _ => rfl, fun _ => rfl, fun _ => rfl, fun _ => rfl, fun _ => rfl, fun _ => rfl, fun _ => rfl, fun _ => rfl, fun _ => rfl, fun _ => rfl, fun _ => rfl, fun _ => rfl, fun _ => rfl, fun _ => rfl, fun _ => rfl, fun _ => rfl, fun _ => rfl, fun _ => rfl, fun _ => rfl, fun _ => rfl, fun _ => rfl, fun _ => rfl, fun _ => rfl, fun _ => rfl, fun _ => rfl, trivial⟩
              · exact ⟨⟨rfl, rfl, rfl, fun _ => rfl⟩, ⟨rfl, rfl, rfl, fun _ => rfl⟩, ⟨rfl, rfl, rfl, fun _ => rfl⟩, ⟨rfl, rfl, rfl, fun _ => rfl⟩, trivial⟩
          · have hngt := bin_ngt hB.lt hB.le hgt
            conv => whnf
            exact hqx ⟨low, hB.done hngt⟩ (fun i => nth uv (uv :: uv :: _ :: _ :: _ :: _ :: uv :: uv :: uv :: uv :: _ :: _ :: _ :: _ :: _ :: _ :: _ :: _ :: _ :: _ :: _ :: _ :: _ :: _ :: _ :: _ :: _ :: _ :: _ :: _ :: _ :: _ :: _ :: _ :: _ :: _ :: _ :: _ :: _ :: _ :: _ :: _ :: _ :: _ :: _ :: _ :: _ :: _ :: _ :: _ :: _ :: _ :: _ :: _ :: _ :: _ :: _ :: _ :: _ :: _ :: _ :: _ :: []) i)
        · rintro ⟨low, hlo⟩ jj
          have hlo1 : low * n ≤ T := hlo.1
          have hlo2 : T < (low + 1) * n := hlo.2
          have hlow16 : low < 65536 := lowI (hj := hka) hT hI da hlo
          conv => whnf
          conv =>
            arg 2
            tactic' =>
              apply eff_index_sli (hi := hirk) (ho := ?how11) (hT := ?hTw11) (hx := ?hxw11) (hk := ?hkw11) (hlt := ?hltw11)
              case how11 => rfl
              case hTw11 => rfl
              case hxw11 => rfl
              case hkw11 => exact cint (pred_nat h0) hirk
              case hltw11 => exact hka
          conv => whnf
          conv =>
            arg 2
            tactic' =>
              apply eff_store_at (l := [iC (low)]) (cs := isC (lq.set (k - 1) low)) (ho := ?how12) (hT := ?hTw12) (hx := ?hxw12) (hy := ?hyw12) (hl := ?hlw12) (hb := ?hbw12) (hro := ?hrow12) (hs := ?hsw12)
              case how12 => rfl
              case hTw12 => rfl
              case hxw12 => rfl
              case hyw12 => exact congrArg (fun z => some [z]) (iC_eq hlow16 rfl)
              case hlw12 => exact ⟨rfl, rfl⟩
              case hbw12 => rfl
              case hrow12 => rfl
              case hsw12 => exact splice_is hkq _
          conv => whnf
          rw [forceL_eq]
          conv => whnf
          refine ⟨⟨hwb.1, trivial⟩, ⟨_, _, _, _, _, _, _, dig RB n, low, _, _, rfl, rfl, rfl, hwb, dig_Dl RB_two n, Nat.le_trans sb (by decide), hlow16, rfl, fun ob _ hob => ?_⟩⟩
          rw [val_dig RB_two] at hob
          conv => whnf
          refine ⟨⟨isC_pure _, isC_pure _, trivial⟩, ⟨_, _, _, _, _, _, _, dig RB T, _, _, _, _, _, _, _, ob.l, rfl, rfl, hRl2, rfl, hRt2, IAt.ow ob, dig_Dl RB_two T, by rw [hob]; exact dig_Dl RB_two _, hRs3, by rw [hob, ← hRl2]; exact dig_len_mono RB_two (by rw [Nat.mul_comm]; exact hlo1), by rw [hob, val_dig RB_two, val_dig RB_two, Nat.mul_comm]; exact hlo1, fun os hos => ?_⟩⟩
          rw [hob, val_dig RB_two, val_dig RB_two] at hos
          obtain ⟨hI2, -⟩ := hI.step h0 hn0 (hj := hka) da hT hlo1 hlo2 hos
          conv => whnf
          refine ⟨[0, 1, 2, 5], [0, 1, 6, 7, 8], [0, 1, 2, 3], fun vs8 => ?_⟩
          conv => whnf
          refine ⟨hwa.1, hwb.1, isC_pure _, isC_pure _, ?_⟩
          conv => whnf
          refine ⟨_, _, ?_, ?_, ⟨(k - 1, lq.set (k - 1) low, os, vs8), hI2⟩, Nat.sub_lt h0 Nat.one_pos, rfl, rfl⟩
          · exact ⟨fun _ => rfl, fun _ => rfl, fun _ => rfl, fun _ => rfl, fun _ => rfl, fun _ => rfl, fun _ => rfl, fun _ => rfl, sint_eq (cmp_dec h0 (ltI ha hI.hk)) _ _, fun _ => rfl, fun _ => rfl, fun _ => rfl, fun _ => rfl, fun _ => rfl, fun _ => rfl, fun _ => rfl, fun _ => rfl, fun _ => rfl, fun _ => rfl, fun _ => rfl, fun _ => rfl, fun _ => rfl, fun _ => rfl, fun _ => rfl, fun _ => rfl, fun _ => rfl, fun _ => rfl, fun _ => rfl, fun _ => rfl, fun _ => rfl, fun _ => rfl, fun _ => rfl, fun _ => rfl, fun _ => rfl, fun _ => rfl, fun _ => rfl, fun _ => rfl, fun _ => rfl, fun _ => rfl, fun _ => rfl, fun _ => rfl, fun _ => rfl, fun _ => rfl, fun _ => rfl, fun _ => rfl, fun _ => rfl, fun _ => rfl, fun _ => rfl, fun _ => rfl, fun _ => rfl, fun _ => rfl, fun _ => rfl, fun _ => rfl, fun _ => rfl, fun _ => rfl, fun _ => rfl, fun _ => rfl, fun _ => rfl, fun _ => rfl, fun _ => rfl, fun _ => rfl, fun _ => rfl, trivial⟩
          · exact ⟨⟨rfl, rfl, rfl, fun _ => rfl⟩, ⟨rfl, rfl, rfl, fun _ => rfl⟩, ⟨rfl, rfl, rfl, fun _ => rfl⟩, ⟨rfl, rfl, rfl, fun _ => rfl⟩, trivial⟩
      · obtain ⟨R, hRe, hRsl, hRbk⟩ : ∃ R : OI, R.l = dig RB T ∧ (OI.ofTrim ((la[k - 1]'hka) :: r.l) cap2 h3 hr3).sl 3 = R.sl 3 ∧ R.blk = (OI.ofTrim ((la[k - 1]'hka) :: r.l) cap2 h3 hr3).blk := ⟨_, by rw [OI.ofTrim_l dxr, hTv], rfl, rfl⟩
        have hRt2 : IAt R.blk.cs 0 (dig RB T) := by rw [← hRe]; exact IAt.ow R
        have hRl2 : (dig RB T).length = R.l.length := by rw [hRe]
        have hRs3 : R.l.length ≤ 200000000 := by rw [← hRl2, hRl]; exact hRs2
        have hRs4 : R.l.length ≤ 1000000000 := Nat.le_trans hRs3 (by decide)
        conv => whnf
        refine loop_cut (G := {g : Nat × Nat × (Nat → Value) // BinI T n g.1 g.2.1}) (X := {x : Nat // x * n ≤ T ∧ T < (x + 1) * n}) (fun g => (.c (.sli nla 0 offa la.length capa ha) :: .c (.sli nlb 1 offb (dig RB n).length capb hb) :: .c (.val (g.1.2.2 2)) :: .c (.val (g.1.2.2 3)) :: .c (.val (g.1.2.2 4)) :: .c (.val (g.1.2.2 5)) :: .c (.sli false 2 0 la.length la.length h2) :: (R.sl 3) :: .c (.int ((k : Nat) - 1 : Int) (irp ha hI.hk)) :: .c (.int (g.1.1 : Nat) (ir_nat (Nat.le_trans (Nat.le_of_lt (Nat.lt_of_lt_of_le g.2.lt g.2.le)) (by decide)))) :: .c (.int (g.1.2.1 : Nat) (ir_nat (Nat.le_trans g.2.le (by decide)))) :: .c (.val (g.1.2.2 11)) :: .c (.val (g.1.2.2 12)) :: .c (.val (g.1.2.2 13)) :: .c (.val (g.1.2.2 14)) :: .c (.val (g.1.2.2 15)) :: .c (.val (g.1.2.2 16)) :: .c (.val (g.1.2.2 17)) :: .c (.val (g.1.2.2 18)) :: .c (.val (g.1.2.2 19)) :: .c (.val (g.1.2.2 20)) :: .c (.val (g.1.2.2 21)) :: .c (.val (g.1.2.2 22)) :: .c (.val (g.1.2.2 23)) :: .c (.val (g.1.2.2 24)) :: .c (.val (g.1.2.2 25)) :: .c (.val (g.1.2.2 26)) :: .c (.val (g.1.2.2 27)) :: .c (.val (g.1.2.2 28)) :: .c (.val (g.1.2.2 29)) :: .c (.val (g.1.2.2 30)) :: .c (.val (g.1.2.2 31)) :: .c (.val (g.1.2.2 32)) :: .c (.val (g.1.2.2 33)) :: .c (.val (g.1.2.2 34)) :: .c (.val (g.1.2.2 35)) :: .c (.val (g.1.2.2 36)) :: .c (.val (g.1.2.2 37)) :: .c (.val (g.1.2.2 38)) :: .c (.val (g.1.2.2 39)) :: .c (.val (g.1.2.2 40)) :: .c (.val (g.1.2.2 41)) :: .c (.val (g.1.2.2 42)) :: .c (.val (g.1.2.2 43)) :: .c (.val (g.1.2.2 44)) :: .c (.val (g.1.2.2 45)) :: .c (.val (g.1.2.2 46)) :: .c (.val (g.1.2.2 47)) :: .c (.val (g.1.2.2 48)) :: .c (.val (g.1.2.2 49)) :: .c (.val (g.1.2.2 50)) :: .c (.val (g.1.2.2 51)) :: .c (.val (g.1.2.2 52)) :: .c (.val (g.1.2.2 53)) :: .c (.val (g.1.2.2 54)) :: .c (.val (g.1.2.2 55)) :: .c (.val (g.1.2.2 56)) :: .c (.val (g.1.2.2 57)) :: .c (.val (g.1.2.2 58)) :: .c (.val (g.1.2.2 59)) :: .c (.val (g.1.2.2 60)) :: .c (.val (g.1.2.2 61)) :: [])) (fun g => [⟨tya, true, csa, 0⟩, ⟨tyb, true, csb, 0⟩, ⟨3, false, isC lq, 0⟩, R.blk]) (fun g => g.1.2.1 - g.1.1) 2 (fun x j => (.c (.sli nla 0 offa la.length capa ha) :: .c (.sli nlb 1 offb (dig RB n).length capb hb) :: j 2 :: j 3 :: j 4 :: j 5 :: .c (.sli false 2 0 la.length la.length h2) :: (R.sl 3) :: .c (.int ((k : Nat) - 1 : Int) (irp ha hI.hk)) :: .c (.int (x.1 : Nat) (ir_nat (by have := lowI hT hI da x.2; omega))) :: j 10 :: j 11 :: j 12 :: j 13 :: j 14 :: j 15 :: j 16 :: j 17 :: j 18 :: j 19 :: j 20 :: j 21 :: j 22 :: j 23 :: j 24 :: j 25 :: j 26 :: j 27 :: j 28 :: j 29 :: j 30 :: j 31 :: j 32 :: j 33 :: j 34 :: j 35 :: j 36 :: j 37 :: j 38 :: j 39 :: j 40 :: j 41 :: j 42 :: j 43 :: j 44 :: j 45 :: j 46 :: j 47 :: j 48 :: j 49 :: j 50 :: j 51 :: j 52 :: j 53 :: j 54 :: j 55 :: j 56 :: j 57 :: j 58 :: j 59 :: j 60 :: j 61 :: [])) (fun x => [⟨tya, true, csa, 0⟩, ⟨tyb, true, csb, 0⟩, ⟨3, false, isC lq, 0⟩, R.blk]) ?_ ?_ ?_
        · refine ⟨[0, 1, 2, 5], [0, 1, 6, 7, 8, 9, 10], [0, 1, 2, 3], fun vs5 => ?_⟩
          conv => whnf
          refine ⟨hwa.1, hwb.1, isC_pure _, pureL_append (fun _ _ => rfl) (isC_pure _), ?_⟩
          conv => whnf
          refine ⟨_, _, ?_, ?_, ⟨(0, 65536, vs5), BinI.all hTn⟩, rfl, rfl⟩
          · exact ⟨fun _ => rfl, fun _ => rfl, fun _ => rfl, fun _ => rfl, fun _ => rfl, fun _ => rfl, fun _ => rfl, fun ρ => (OI.ofTrim_sl 3 ρ).trans (congrArg (fun z : SV => z.den ρ) hRsl), fun _ => rfl, fun _ => rfl, fun _ => rfl, fun _ => rfl, fun _ => rfl, fun _ => rfl, fun _ => rfl, fun _ => rfl, fun _ => rfl, fun _ => rfl, fun _ => rfl, fun _ => rfl, fun _ => rfl, fun _ => rfl, fun _ => rfl, fun _ => rfl, fun _ => rfl, fun _ => rfl, fun _ => rfl, fun _ => rfl, fun _ => rfl, fun _ => rfl, fun _ => rfl, fun _ => rfl, fun _ => rfl, fun _ => rfl, fun _ => rfl, fun _ => rfl, fun _ => rfl, fun _ => rfl, fun _ => rfl, fun _ => rfl, fun _ => rfl, fun _ => rfl, fun _ => rfl, fun _ => rfl, fun _ => rfl, fun _ => rfl, fun _ => rfl, fun _ => rfl, fun _ => rfl, fun _ => rfl, fun _ => rfl, fun _ => rfl, fun _ => rfl, fun _ => rfl, fun _ => rfl, fun _ => rfl, fun _ => rfl, fun _ => rfl, fun _ => rfl, fun _ => rfl, fun _ => rfl, fun _ => rfl, trivial⟩
          · exact ⟨⟨rfl, rfl, rfl, fun _ => rfl⟩, ⟨rfl, rfl, rfl, fun _ => rfl⟩, ⟨rfl, rfl, rfl, fun _ => rfl⟩, (by rw [hRbk, OI.ofTrim_blk]; exact ⟨rfl, rfl, cons_tl, fun ρ => cons_cells hx16 rfl ρ⟩), trivial⟩
        · intro Qx hqx
          rintro ⟨⟨low, high, vs6⟩, hB⟩
          have hB : BinI T n low high := hB
          conv => whnf
          refine bcase_intro (fun hgt => ?_) (fun hgt => ?_)
          · have hgt := bin_gt hB.lt hB.le hgt
            obtain ⟨m, hm⟩ : ∃ m, m = (low + high) / 2 := ⟨_, rfl⟩
            have hlt := hB.lt
            have hle := hB.le
            have em := (bin_mid (low := low) (high := high) (by omega) (by omega)).trans (congrArg (fun z : Nat => (z : Int)) hm.symm)
            have hm16 : m < 65536 := by omega
            conv => whnf
            refine ⟨⟨hwb.1, trivial⟩, ⟨_, _, _, _, _, _, _, dig RB n, m, _, _, rfl, rfl, rfl, hwb, dig_Dl RB_two n, Nat.le_trans sb (by decide), hm16, em, fun ob _ hob => ?_⟩⟩
            rw [val_dig RB_two] at hob
            have hobl : ob.l.length ≤ 1000000000 := by
              rw [hob]
              refine Nat.le_trans (dig_length_le RB_two (k := (dig RB n).length + 1) ?_) (by omega)
              have h6 := lt_of_dig_length RB_two n
              have h7 : n * m < RB ^ (dig RB n).length * RB := by
                have h8 : n * m ≤ n * RB := Nat.mul_le_mul_left _ (Nat.le_of_lt hm16)
                have h9 : n * RB < RB ^ (dig RB n).length * RB := Nat.mul_lt_mul_of_pos_right h6 RB_pos
                omega
              rw [Nat.pow_succ]; exact h7
            conv => whnf
            refine ⟨⟨ob.l, dig RB T, ⟨IAt.ow ob, rfl, by rw [hob, val_dig RB_two], hobl⟩, hRt2, hRl2, by rw [val_dig RB_two], hRs4⟩, ?_⟩
            conv => whnf
            refine bcase_intro (fun hle2 => ?_) (fun hle2 => ?_)
            · have hmle : m * n ≤ T := by
                have := of_decide_eq_true (dec_le (m := n * m) (n := T) (val_isOf (by rw [← hob]; exact IAt.ow ob) (congrArg List.length hob).symm) (val_isOf hRt2 hRl2) hle2)
                rwa [Nat.mul_comm]
              obtain ⟨hB2, hmu⟩ := hB.low hm hgt hmle
              conv => whnf
              refine ⟨[0, 1, 2, 3], [0, 1, 6, 7, 8, 9, 10], [0, 1, 2, 3], fun vs7 => ?_⟩
              conv => whnf
              refine ⟨hwa.1, hwb.1, isC_pure _, isC_pure _, ?_⟩
              conv => whnf
              refine ⟨_, _, ?_, ?_, ⟨(m, high, vs7), hB2⟩, hmu, rfl, rfl⟩
              · exact ⟨fun _ => rfl, fun _ => rfl, fun _ => rfl, fun _ => rfl, fun _ => rfl, fun _ => rfl, fun _ => rfl, fun _ => rfl, fun _ => rfl, sint_eq em _ _, fun _ => rfl, fun _ => rfl, fun _ => rfl, fun _ => rfl, fun _ => rfl, fun _ => rfl, fun _ => rfl, fun _ => rfl, fun _ => rfl, fun _ => rfl, fun _ => rfl, fun _ => rfl, fun _ => rfl, fun _ => rfl, fun _ => rfl, fun _ => rfl, fun _ => rfl, fun _ => rfl, fun _ => rfl, fun _ => rfl, fun _ => rfl, fun _ => rfl, fun _ => rfl, fun _ => rfl, fun _ => rfl, fun _ => rfl, fun _ => rfl, fun _ => rfl, fun _ => rfl, fun _ => rfl, fun _ => rfl, fun _ => rfl, fun _ => rfl, fun _ => rfl, fun _ => rfl, fun _ => rfl, fun _ => rfl, fun _ => rfl, fun _ => rfl, fun _ => rfl, fun _ => rfl, fun _ => rfl, fun _ => rfl, fun _ => rfl, fun _ => rfl, fun _ => rfl, fun _ => rfl, fun _ => rfl, fun _ => rfl, fun _ => rfl, fun _ => rfl, fun _ => rfl, trivial⟩
              · exact ⟨⟨rfl, rfl, rfl, fun _ => rfl⟩, ⟨rfl, rfl, rfl, fun _ => rfl⟩, ⟨rfl, rfl, rfl, fun _ => rfl⟩, ⟨rfl, rfl, rfl, fun _ => rfl⟩, trivial⟩
            · have hmle : ¬ m * n ≤ T := by
                have := of_decide_eq_false (dec_le (m := n * m) (n := T) (val_isOf (by rw [← hob]; exact IAt.ow ob) (congrArg List.length hob).symm) (val_isOf hRt2 hRl2) hle2)
                rwa [Nat.mul_comm]
              obtain ⟨hB2, hmu⟩ := hB.high hm hgt hmle
              conv => whnf
              refine ⟨[0, 1, 2, 3], [0, 1, 6, 7, 8, 9, 10], [0, 1, 2, 3], fun vs7 => ?_⟩
              conv => whnf
              refine ⟨hwa.1, hwb.1, isC_pure _, isC_pure _, ?_⟩
              conv => whnf
              refine ⟨_, _, ?_, ?_, ⟨(low, m, vs7), hB2⟩, hmu, rfl, rfl⟩
              · exact ⟨fun _ => rfl, fun _ => rfl, fun _ => rfl, fun _ => rfl, fun _ => rfl, fun _ => rfl, fun _ => rfl, fun _ => rfl, fun _ => rfl, fun _ => rfl, sint_eq em _ _, fun _ => rfl, fun _ => rfl, fun _ => rfl, fun _ => rfl, fun _ => rfl, fun _ => rfl, fun _ => rfl, fun _ => rfl, fun _ => rfl, fun _ => rfl, fun _ => rfl, fun _ => rfl, fun _ => rfl, fun _ => rfl, fun _ => rfl, fun _ => rfl, fun _ => rfl, fun _ => rfl, fun _ => rfl, fun _ => rfl, fun _ => rfl, fun _ => rfl, fun _ => rfl, fun _ => rfl, fun _ => rfl, fun _ => rfl, fun _ => rfl, fun _ => rfl, fun _ => rfl, fun _ => rfl, fun _ => rfl, fun _ => rfl, fun _ => rfl, fun _ => rfl, fun _ => rfl, fun _ => rfl, fun _ => rfl, fun _ => rfl, fun _ => rfl, fun _ => rfl, fun _ => rfl, fun _ => rfl, fun _ => rfl, fun _ => rfl, fun _ => rfl, fun _ => rfl, fun _ => rfl, fun _ => rfl, fun _ => rfl, fun _ => rfl, fun _ => rfl, trivial⟩
              · exact ⟨⟨rfl, rfl, rfl, fun _ => rfl⟩, ⟨rfl, rfl, rfl, fun _ => rfl⟩, ⟨rfl, rfl, rfl, fun _ => rfl⟩, ⟨rfl, rfl, rfl, fun _ => rfl⟩, trivial⟩
          · have hngt := bin_ngt hB.lt hB.le hgt
            conv => whnf
            exact hqx ⟨low, hB.done hngt⟩ (fun i => nth uv (uv :: uv :: _ :: _ :: _ :: _ :: uv :: uv :: uv :: uv :: _ :: _ :: _ :: _ :: _ :: _ :: _ :: _ :: _ :: _ :: _ :: _ :: _ :: _ :: _ :: _ :: _ :: _ :: _ :: _ :: _ :: _ :: _ :: _ :: _ :: _ :: _ :: _ :: _ :: _ :: _ :: _ :: _ :: _ :: _ :: _ :: _ :: _ :: _ :: _ :: _ :: _ :: _ :: _ :: _ :: _ :: _ :: _ :: _ :: _ :: _ :: _ :: []) i)
        · rintro ⟨low, hlo⟩ jj
          have hlo1 : low * n ≤ T := hlo.1
          have hlo2 : T < (low + 1) * n := hlo.2
          have hlow16 : low < 65536 := lowI (hj := hka) hT hI da hlo
          conv => whnf
          conv =>
            arg 2
            tactic' =>
              apply eff_index_sli (hi := hirk) (ho := ?how11) (hT := ?hTw11) (hx := ?hxw11) (hk := ?hkw11) (hlt := ?hltw11)
              case how11 => rfl
              case hTw11 => rfl
              case hxw11 => rfl
              case hkw11 => exact cint (pred_nat h0) hirk
              case hltw11 => exact hka
          conv => whnf
          conv =>
            arg 2
            tactic' =>
              apply eff_store_at (l := [iC (low)]) (cs := isC (lq.set (k - 1) low)) (ho := ?how12) (hT := ?hTw12) (hx := ?hxw12) (hy := ?hyw12) (hl := ?hlw12) (hb := ?hbw12) (hro := ?hrow12) (hs := ?hsw12)
              case how12 => rfl
              case hTw12 => rfl
              case hxw12 => rfl
              case hyw12 => exact congrArg (fun z => some [z]) (iC_eq hlow16 rfl)
              case hlw12 => exact ⟨rfl, rfl⟩
              case hbw12 => rfl
              case hrow12 => rfl
              case hsw12 => exact splice_is hkq _
          conv => whnf
          rw [forceL_eq]
          conv => whnf
          refine ⟨⟨hwb.1, trivial⟩, ⟨_, _, _, _, _, _, _, dig RB n, low, _, _, rfl, rfl, rfl, hwb, dig_Dl RB_two n, Nat.le_trans sb (by decide), hlow16, rfl, fun ob _ hob => ?_⟩⟩
          rw [val_dig RB_two] at hob
          conv => whnf
          refine ⟨⟨isC_pure _, isC_pure _, trivial⟩, ⟨_, _, _, _, _, _, _, dig RB T, _, _, _, _, _, _, _, ob.l, rfl, rfl, hRl2, rfl, hRt2, IAt.ow ob, dig_Dl RB_two T, by rw [hob]; exact dig_Dl RB_two _, hRs3, by rw [hob, ← hRl2]; exact dig_len_mono RB_two (by rw [Nat.mul_comm]; exact hlo1), by rw [hob, val_dig RB_two, val_dig RB_two, Nat.mul_comm]; exact hlo1, fun os hos => ?_⟩⟩
          rw [hob, val_dig RB_two, val_dig RB_two] at hos
          obtain ⟨hI2, -⟩ := hI.step h0 hn0 (hj := hka) da hT hlo1 hlo2 hos
          conv => whnf
          refine ⟨[0, 1, 2, 5], [0, 1, 6, 7, 8], [0, 1, 2, 3], fun vs8 => ?_⟩
          conv => whnf
          refine ⟨hwa.1, hwb.1, isC_pure _, isC_pure _, ?_⟩
          conv => whnf
          refine ⟨_, _, ?_, ?_, ⟨(k - 1, lq.set (k - 1) low, os, vs8), hI2⟩, Nat.sub_lt h0 Nat.one_pos, rfl, rfl⟩
          · exact ⟨fun _ => rfl, fun _ => rfl, fun _ => rfl, fun _ => rfl, fun _ => rfl, fun _ => rfl, fun _ => rfl, fun _ => rfl, sint_eq (cmp_dec h0 (ltI ha hI.hk)) _ _, fun _ => rfl, fun _ => rfl, fun _ => rfl, fun _ => rfl, fun _ => rfl, fun _ => rfl, fun _ => rfl, fun _ => rfl, fun _ => rfl, fun _ => rfl, fun _ => rfl, fun _ => rfl, fun _ => rfl, fun _ => rfl, fun _ => rfl, fun _ => rfl, fun _ => rfl, fun _ => rfl, fun _ => rfl, fun _ => rfl, fun _ => rfl, fun _ => rfl, fun _ => rfl, fun _ => rfl, fun _ => rfl, fun _ => rfl, fun _ => rfl, fun _ => rfl, fun _ => rfl, fun _ => rfl, fun _ => rfl, fun _ => rfl, fun _ => rfl, fun _ => rfl, fun _ => rfl, fun _ => rfl, fun _ => rfl, fun _ => rfl, fun _ => rfl, fun _ => rfl, fun _ => rfl, fun _ => rfl, fun _ => rfl, fun _ => rfl, fun _ => rfl, fun _ => rfl, fun _ => rfl, fun _ => rfl, fun _ => rfl, fun _ => rfl, fun _ => rfl, fun _ => rfl, fun _ => rfl, trivial⟩
          · exact ⟨⟨rfl, rfl, rfl, fun _ => rfl⟩, ⟨rfl, rfl, rfl, fun _ => rfl⟩, ⟨rfl, rfl, rfl, fun _ => rfl⟩, ⟨rfl, rfl, rfl, fun _ => rfl⟩, trivial⟩
    · have h0 : k = 0 := i_lt h0
      subst h0
      obtain ⟨hq1, hr1⟩ := hI.last hn0
      conv => whnf
      refine ⟨⟨isC_pure lq, trivial⟩, ⟨_, _, _, _, _, _, _, lq, rfl, rfl, hI.ql, ⟨isC_pure lq, [], [], by rw [List.append_nil]; rfl, rfl⟩, hI.dq, fun h6 => ?_⟩⟩
      conv => whnf
      refine ⟨[0, 1, 2, 3], [0, 1, 2, 3], fun vs9 => ?_⟩
      conv => whnf
      refine ⟨hwa.1, hwb.1, isC_pure _, isC_pure _, ?_⟩
      conv => whnf
      refine ⟨_, [(OI.ofTrim lq la.length h6 (Nat.le_of_eq hI.ql)).blk, r.blk], rfl, ⟨⟨rfl, rfl, rfl, fun _ => rfl⟩, ⟨rfl, rfl, rfl, fun _ => rfl⟩, ⟨rfl, rfl, ?_, fun ρ => ?_⟩, ⟨rfl, rfl, rfl, fun _ => rfl⟩, trivial⟩, ⟨OI.new _, OI.new _, trivial⟩, .tup [(OI.ofTrim lq la.length h6 (Nat.le_of_eq hI.ql)).t 2, r.t 3], fun ρ => tup2_den (ofTrim_t 2 ρ) rfl, hc _ r ?_ ?_⟩
      · rw [OI.ofTrim_blk]; have := hI.ql; show 0 = la.length - lq.length; omega
      · rw [OI.ofTrim_blk]
      · rw [OI.ofTrim_l hI.dq, hq1]
      · rw [hr1]; exact hI.hr
end Go.Proofs.YtbhcmajeoamloaaDoor

namespace Go.Proofs.YtbhcmajeoamloaaDoor
open Go.RowKit
set_option maxRecDepth 100000

theorem Num.len16 {k : Nat} {b : Bool} {s : ByteArray} {z : Int} (h : Num (k + 7) b s z) (hk : k ≤ 80000000) : (dig RB z.natAbs).length ≤ 50000000 := rdig_len_of h.sm (by omega)
def rquoC : List (FuncId × NewC) := [(59, cDigits), (65, cOver)]
theorem rquoC_ok : AllC Tryd.prog rquoC := .cons csDigits <| .cons csOver .nil
theorem isOf_ow (o : OI) {n : Nat} (h : o.l = dig RB n) : isOf o.blk.cs 0 o.l.length = o.l := isOf_oi o (rdl_eq h)
set_option maxHeartbeats 4000000 in
theorem spRQuoA : SpOk Tryd.prog 63 dQuoA := sp_num2H ⟨Tryd.func63, by kernel_rfl, by kernel_rfl⟩ (envN_ok .nil rdC_ok 0 fun _ => false) (mix_ok rquoC_ok (envN_ok .nil rdC_ok 0 fun _ => false) mixed noF_ok 0) (fun _ _ _ _ => rfl) fun X Y kX kY b s c t nX nY => by
  conv => whnf
  refine ⟨fun _ _ => rfl, trivial, ⟨_, c, t, rfl, rfl, NumA.raw, (nY.sz kY), fun oy hoy => ?_⟩⟩
  rw [nY.natAbs] at hoy
  conv => whnf
  refine bcase_intro (fun hz => ?_) (fun hz => ?_)
  · have hz : Y.z = 0 := by
      have h1 : oy.l.length = 0 := by have := of_decide_eq_true hz; omega
      rw [hoy] at h1
      have := (dig_len_zero RB_two).1 h1
      omega
    have e1 : (0 : Int) = X.z.tdiv Y.z := by rw [hz]; exact (Int.tdiv_zero _).symm
    have e2 : (0 : Int) = remZ X.z Y.z := by rw [hz]; rfl
    have e3 : ∀ ρ : Rho, (T1.c (.val (.bool false))).den ρ = (T1.c (.val (.bool (decide (Y.z ≠ 0))))).den ρ := fun _ => by rw [hz]; rfl
    conv => whnf
    exact fun ρ => tup3_den (wid_agg _ _ e1 ρ) (wid_agg _ _ e2 ρ) (e3 ρ)
  · have hz : Y.z ≠ 0 := fun e => of_decide_eq_false hz (by rw [hoy, e, Int.natAbs_zero, dig_zero]; rfl)
    have hn0 : 0 < Y.z.natAbs := by omega
    conv => whnf
    refine ⟨fun _ _ => rfl, trivial, ⟨_, b, s, rfl, rfl, NumA.raw, (nX.sz kX), fun ox hox => ?_⟩⟩
    rw [nX.natAbs] at hox
    have hvx : val RB ox.l = X.z.natAbs := by rw [hox, val_dig RB_two]
    have hqz : ∀ n : Nat, n = X.z.natAbs / Y.z.natAbs → n = (X.z.tdiv Y.z).natAbs := fun n e => by rw [e, Int.natAbs_tdiv]; rfl
    have hrz : X.z.natAbs % Y.z.natAbs = (remZ X.z Y.z).natAbs := by unfold remZ; rw [if_neg hz, Int.natAbs_tmod]
    have hrs : X.z.natAbs % Y.z.natAbs ≠ 0 → (b = true ↔ remZ X.z Y.z < 0) := fun h0 => by unfold remZ; rw [if_neg hz]; exact rem_sign nX.sgn h0
    conv => whnf
    refine ⟨⟨isC_pure _, isC_pure _, trivial⟩, ⟨_, _, _, _, _, _, _, ox.l, _, _, _, _, _, _, _, Y.z.natAbs, rfl, rfl, rfl, (congrArg List.length hoy).symm, IAt.ow ox, iat_eq oy hoy, rdl_eq hox, hn0, by rw [hox]; exact nX.len16 kX, by rw [hoy]; exact nY.len16 kY, fun oq or hoq hor => ?_⟩⟩
    rw [hvx] at hoq hor
    have hv1 : val RB oq.l = X.z.natAbs / Y.z.natAbs := by rw [hoq, val_dig RB_two]
    have hv2 : val RB or.l = X.z.natAbs % Y.z.natAbs := by rw [hor, val_dig RB_two]
    have hl1 : oq.l.length ≤ 1000000000 := by rw [hoq]; exact Nat.le_trans (dig_len_mono RB_two (Nat.div_le_self _ _)) (Nat.le_trans (nX.len16 kX) (by decide))
    have hl2 : or.l.length ≤ 1000000000 := by rw [hor]; exact Nat.le_trans (dig_len_mono RB_two (Nat.mod_le _ _)) (Nat.le_trans (nX.len16 kX) (by decide))
    conv => whnf
    refine ⟨⟨oq.l, IAt.ow oq, rfl, rdl_eq hoq, hl1⟩, ?_⟩
    conv => whnf
    refine ⟨⟨or.l, IAt.ow or, rfl, rdl_eq hor, hl2⟩, ?_⟩
    conv => whnf
    refine fun ρ => tup3_den ?_ ?_ ?_
    · rw [isOf_ow oq hoq, hv1]
      exact wv_agg _ (hqz _ rfl) (fun h0 => quo_sign nX.sgn nY.sgn h0) ρ
    · rw [isOf_ow or hor, hv2]
      exact wv_agg _ hrz hrs ρ
    · show Value.bool true = Value.bool (decide (Y.z ≠ 0))
      rw [decide_eq_true hz]
end Go.Proofs.YtbhcmajeoamloaaDoor

namespace Go.Proofs.YtbhcmajeoamloaaDoor
open Go.RowKit
set_option maxRecDepth 100000

theorem eff_index_chr {T : TypeId → Option TI} {op : Op} {ev : Operand → SV} {hp : Nat → Option Blk} {t : TypeId} {x y : Operand} (ho : op = .index t x y) {sz : Nat} {ag : Bool} {z : List C} {eq : Option (List K)} (hT : T t = some ⟨sz, ag, z, .string, eq⟩)
    {s : ByteArray} (hx : ev x = .c (.val (.string s))) {i : Nat} {hi : IR i} (hk : ev y = .c (.int i hi)) (hlt : i < s.size) {c : UInt8} (hc : s.data[i]?.getD 0 = c) : eff T op ev hp = some (.val (.c (.val (.int .u8 (c.toNat : Int))))) := by
  subst ho; subst hc
  simp only [eff, hT, hx, hk]
  show (if i < s.size then _ else _) = _
  rw [if_pos hlt]
theorem size_list (s : ByteArray) : s.data.toList.length = s.size := Array.length_toList
theorem at_list {s : ByteArray} {i : Nat} (h : i < s.data.toList.length) : s.data[i]?.getD 0 = s.data.toList[i] := by
  rw [← Array.getElem?_toList, List.getElem?_eq_getElem h]; rfl
theorem cut_none {s : ByteArray} (h : s.size = 0) : cutB s dash = false ∧ cutS s dash = s := by
  have hb : cutB s dash = false := cut_no (decide_eq_false (by show ¬ ((1 : Int) ≤ (s.size : Int)); omega))
  exact ⟨hb, by unfold cutS; rw [hb]; rfl⟩
theorem cut_c {s : ByteArray} {c : UInt8} (h : 0 < s.size) (hc : s.data[0]?.getD 0 = c) : cutB s dash = (c == 45) := by
  rw [cut_eq (decide_eq_true (by show (1 : Int) ≤ (s.size : Int); omega)), ByteArray.toList_eq, ByteArray.toList_eq]
  obtain ⟨r, h1⟩ : ∃ r, s.data.toList = c :: r := by
    rw [← Array.getElem?_toList] at hc
    cases hs : s.data.toList with
    | nil => have := size_list s; rw [hs] at this; simp at this; omega
    | cons a l => rw [hs] at hc; simp at hc; exact ⟨l, by rw [hc]⟩
  have h2 : (s.extract 0 dash.size).data.toList = [c] := by
    rw [ByteArray.data_extract, Array.toList_extract, h1]; rfl
  rw [h2]
  show ([c] == [45]) = _
  simp
theorem c_dash (c : UInt8) : (c == 45) = ((c.toNat : Int) == 45) := by
  by_cases h : c = 45
  · subst h; rfl
  · have h2 : c.toNat ≠ 45 := fun e => h (UInt8.toNat_inj.1 e)
    rw [beq_false_of_ne h, beq_false_of_ne (by omega)]
theorem cut_yes {s : ByteArray} (hb : cutB s dash = true) : s.extract 1 s.size = cutS s dash := by unfold cutS; rw [hb]; rfl
theorem cut_not {s : ByteArray} (hb : cutB s dash = false) : s = cutS s dash := by unfold cutS; rw [hb]; rfl
structure RParI (l : List UInt8) (i : Nat) (x : OI) : Prop where
  hi : i ≤ l.length
  dl : Dl RB x.l
  hv : val RB x.l < 10 ^ i
  hp : parseG 0 l = parseG (val RB x.l) (l.drop i)
  len : x.l.length ≤ i + 4
theorem RParI.start (l : List UInt8) : RParI l 0 OI.nil := ⟨Nat.zero_le _, Dl.nil _, Nat.one_pos, rfl, Nat.zero_le _⟩
theorem RParI.bad {l : List UInt8} {i : Nat} {x : OI} (h : RParI l i x) {hi : i < l.length} (hb : l[i].toNat < 48 ∨ 57 < l[i].toNat) : parseG 0 l = none := by
  rw [h.hp, List.drop_eq_getElem_cons hi]
  unfold parseG
  rw [if_pos hb]
theorem RParI.by10 {l : List UInt8} {i : Nat} {x o : OI} (h : RParI l i x) (ho : o.l = dig RB (val RB x.l * 10)) : o.l.length ≤ i + 1 := by
  rw [ho]
  refine dig_length_le RB_two (k := i + 1) ?_
  have h7 := h.hv
  have h8 : val RB x.l * 10 < 10 ^ (i + 1) := by rw [Nat.pow_succ]; omega
  exact Nat.lt_of_lt_of_le h8 (Nat.pow_le_pow_left (by rw [RB_eq]; decide) _)
theorem RParI.step {l : List UInt8} {i : Nat} {x o : OI} (h : RParI l i x) {hi : i < l.length} (hb : ¬ (l[i].toNat < 48 ∨ 57 < l[i].toNat)) (hd : Dl RB o.l) (hv : val RB o.l = val RB x.l * 10 + (l[i].toNat - 48)) (hl : o.l.length ≤ i + 5) : RParI l (i + 1) o := by
  refine ⟨hi, hd, ?_, ?_, hl⟩
  · rw [hv, Nat.pow_succ]; have := h.hv; omega
  · rw [h.hp, List.drop_eq_getElem_cons hi, hv]
    conv => lhs; unfold parseG
    rw [if_neg hb]
theorem wrap_suc {i : Nat} (h : i ≤ 10000) : IntKind.i64.wrap ((i : Int) + 1) = ((i + 1 : Nat) : Int) := by rw [wrap_id (by unfold IR; omega)]; omega
theorem digit_i64 {c : UInt8} (h : 48 ≤ c.toNat) : IntKind.i64.wrap (IntKind.u8.wrap ((c.toNat : Int) - 48)) = ((c.toNat - 48 : Nat) : Int) := by
  have h2 := UInt8.toNat_lt c
  unfold IntKind.wrap; simp [IntKind.bits, IntKind.signed]; omega
def rparC : List (FuncId × NewC) := (69, cBy) :: (60, cPlus) :: (70, cTrim) :: rquoC
theorem rparC_ok : AllC Tryd.prog rparC := .cons csBy <| .cons csPlus <| .cons csTrim rquoC_ok
set_option maxHeartbeats 8000000 in
theorem spRParse : SpOk Tryd.prog 26 dParse := by
  refine ⟨⟨_, Tryd.func26, by kernel_rfl, by kernel_rfl⟩, fun args q v hd => ?_⟩
  unfold dParse at hd
  split at hd
  · rename_i s
    cases hd
    refine ⟨fun _ _ => rfl, fun hp ρ w => ?_⟩
    have hp : s.size ≤ 10000 := hp _ rfl
    refine pure_okH (envN_ok .nil rdC_ok 0 fun i => i == 11) mixed (mix_ok rparC_ok (envN_ok .nil rdC_ok 0 fun i => i == 11) mixed noF_ok 0) ⟨Tryd.func26, by kernel_rfl, by kernel_rfl⟩ (v := parseV s) (fun _ _ => rfl) (fun _ _ => rfl) ?_ ρ w
    have hsz : IR s.size := by unfold IR; omega
    have hts := cut_le s dash
    have hs10 : (cutS s dash).data.toList.length ≤ 10000 := by rw [Array.length_toList]; exact Nat.le_trans hts hp
    have hsz2 : IR (cutS s dash).size := by unfold IR; omega
    conv => whnf
    conv =>
      arg 2
      tactic' =>
        apply eff_len_str (ho := ?how12) (hc := ?hcw12) (ha := ?haw12) (ht := ?htw12) (hT := ?hTw12) (hx := ?hxw12) (h := ?hw12)
        case how12 => rfl
        case hcw12 => rfl
        case haw12 => rfl
        case htw12 => rfl
        case hTw12 => rfl
        case hxw12 => rfl
        case hw12 => exact hsz
    conv => whnf
    refine bcase_intro (fun hl => ?_) (fun hl => ?_)
    · have hl0 : 0 < s.size := by have := of_decide_eq_true hl; omega
      have hil0 : 0 < s.data.toList.length := by rw [size_list]; exact hl0
      obtain ⟨c0, hc0⟩ : ∃ c, s.data[0]?.getD 0 = c := ⟨_, rfl⟩
      have hcut := cut_c hl0 hc0
      conv => whnf
      conv =>
        arg 2
        tactic' =>
          apply eff_index_chr (i := 0) (c := c0) (ho := ?how13) (hT := ?hTw13) (hx := ?hxw13) (hk := ?hkw13) (hlt := ?hltw13) (hc := ?hcw13)
          case how13 => rfl
          case hTw13 => rfl
          case hxw13 => rfl
          case hkw13 => rfl
          case hltw13 => exact hl0
          case hcw13 => exact hc0
      conv => whnf
      refine bcase_intro (fun hm => ?_) (fun hm => ?_)
      · have hb1 : cutB s dash = true := (hcut.trans (c_dash c0)).trans hm
        conv => whnf
        conv =>
          arg 2
          tactic' =>
            apply eff_slice_str (ho := ?how14) (hT := ?hTw14) (hx := ?hxw14) (hl := ?hlw14) (hk := ?hkw14) (hle := ?hlew14)
            case how14 => rfl
            case hTw14 => rfl
            case hxw14 => rfl
            case hlw14 => rfl
            case hkw14 => rfl
            case hlew14 => exact ⟨hl0, Nat.le_refl _⟩
        conv => whnf
        refine loop_st (G := {g : Nat × OI × (Nat → Value) // RParI (cutS s dash).data.toList g.1 g.2.1}) (fun g => (.c (.val (g.1.2.2 0)) :: .c (.val (g.1.2.2 1)) :: .c (.ptr 0 0) :: .c (.val (g.1.2.2 3)) :: .c (.val (.bool (cutB s dash))) :: .c (.val (.string (cutS s dash))) :: (g.1.2.1.sl 1) :: .c (.int (g.1.1 : Nat) (ir_nat (Nat.le_trans g.2.hi (Nat.le_trans hs10 (by decide))))) :: .c (.val (g.1.2.2 8)) :: .c (.val (g.1.2.2 9)) :: .c (.val (g.1.2.2 10)) :: .c (.val (g.1.2.2 11)) :: .c (.val (g.1.2.2 12)) :: .c (.val (g.1.2.2 13)) :: .c (.val (g.1.2.2 14)) :: .c (.val (g.1.2.2 15)) :: .c (.val (g.1.2.2 16)) :: .c (.val (g.1.2.2 17)) :: .c (.val (g.1.2.2 18)) :: .c (.val (g.1.2.2 19)) :: .c (.val (g.1.2.2 20)) :: .c (.val (g.1.2.2 21)) :: .c (.val (g.1.2.2 22)) :: .c (.val (g.1.2.2 23)) :: .c (.val (g.1.2.2 24)) :: .c (.val (g.1.2.2 25)) :: .c (.val (g.1.2.2 26)) :: .c (.val (g.1.2.2 27)) :: .c (.val (g.1.2.2 28)) :: .c (.val (g.1.2.2 29)) :: .c (.val (g.1.2.2 30)) :: .c (.val (g.1.2.2 31)) :: .c (.val (g.1.2.2 32)) :: .c (.val (g.1.2.2 33)) :: .c (.val (g.1.2.2 34)) :: .c (.val (g.1.2.2 35)) :: .c (.val (g.1.2.2 36)) :: .c (.val (g.1.2.2 37)) :: .c (.val (g.1.2.2 38)) :: .c (.val (g.1.2.2 39)) :: .c (.val (g.1.2.2 40)) :: .c (.val (g.1.2.2 41)) :: .c (.val (g.1.2.2 42)) :: .c (.val (g.1.2.2 43)) :: .c (.val (g.1.2.2 44)) :: .c (.val (g.1.2.2 45)) :: .c (.val (g.1.2.2 46)) :: .c (.val (g.1.2.2 47)) :: .c (.val (g.1.2.2 48)) :: .c (.val (g.1.2.2 49)) :: .c (.val (g.1.2.2 50)) :: .c (.val (g.1.2.2 51)) :: [])) (fun g => [⟨27, false, [.wid 0 0 (by unfold Sm; decide)], 0⟩, g.1.2.1.blk]) (fun g => (cutS s dash).size - g.1.1) ?_ ?_
        · refine ⟨[0, 1000 + 3], [2, 4, 5, 6, 7], [0, 1], fun vs => ?_⟩
          conv => whnf
          refine ⟨fun _ _ => rfl, ?_⟩
          conv => whnf
          refine ⟨_, _, ?_, ?_, ⟨(0, OI.nil, vs), RParI.start _⟩, rfl, rfl⟩
          · exact ⟨fun _ => rfl, fun _ => rfl, fun _ => rfl, fun _ => rfl, fun _ => congrArg Value.bool ((hcut.trans (c_dash c0)).symm), fun _ => congrArg Value.string (cut_yes hb1), fun _ => rfl, fun _ => rfl, fun _ => rfl, fun _ => rfl, fun _ => rfl, fun _ => rfl, fun _ => rfl, fun _ => rfl, fun _ => rfl, fun _ => rfl, fun _ => rfl, fun _ => rfl, fun _ => rfl, fun _ => rfl, fun _ => rfl, fun _ => rfl, fun _ => rfl, fun _ => rfl, fun _ => rfl, fun _ => rfl, fun _ => rfl, fun _ => rfl, fun _ => rfl, fun _ => rfl, fun _ => rfl, fun _ => rfl, fun _ => rfl, fun _ => rfl, fun _ => rfl, fun _ => rfl, fun _ => rfl, fun _ => rfl, fun _ => rfl, fun _ => rfl, fun _ => rfl, fun _ => rfl, fun _ => rfl, fun _ => rfl, fun _ => rfl, fun _ => rfl, fun _ => rfl, fun _ => rfl, fun _ => rfl, fun _ => rfl, fun _ => rfl, fun _ => rfl, trivial⟩
          · exact ⟨⟨rfl, rfl, rfl, fun _ => rfl⟩, ⟨rfl, rfl, rfl, fun _ => rfl⟩, trivial⟩
        · rintro ⟨⟨i, x, vs⟩, hI⟩
          have hI : RParI (cutS s dash).data.toList i x := hI
          have hilen := hI.hi
          have hI_le : i ≤ 10000 := Nat.le_trans hI.hi hs10
          have hxl : x.l.length ≤ 10004 := Nat.le_trans hI.len (Nat.add_le_add_right hI_le 4)
          conv => whnf
          conv =>
            arg 2
            tactic' =>
              apply eff_len_str (ho := ?how15) (hc := ?hcw15) (ha := ?haw15) (ht := ?htw15) (hT := ?hTw15) (hx := ?hxw15) (h := ?hw15)
              case how15 => rfl
              case hcw15 => rfl
              case haw15 => rfl
              case htw15 => rfl
              case hTw15 => rfl
              case hxw15 => rfl
              case hw15 => exact hsz2
          conv => whnf
          refine bcase_intro (fun hlt => ?_) (fun hlt => ?_)
          · have hlt : i < (cutS s dash).size := n_lt hlt
            have hil : i < (cutS s dash).data.toList.length := Nat.lt_of_lt_of_eq hlt Array.length_toList.symm
            conv => whnf
            conv =>
              arg 2
              tactic' =>
                apply eff_index_chr (i := i) (c := ((cutS s dash).data.toList[i]'hil)) (ho := ?how16) (hT := ?hTw16) (hx := ?hxw16) (hk := ?hkw16) (hlt := ?hltw16) (hc := ?hcw16)
                case how16 => rfl
                case hTw16 => rfl
                case hxw16 => rfl
                case hkw16 => rfl
                case hltw16 => exact hlt
                case hcw16 => exact at_list hil
            conv => whnf
            refine bcase_intro (fun hc1 => ?_) (fun hc1 => ?_)
            · have hc1 : ((cutS s dash).data.toList[i]'hil).toNat < 48 := lt_48 hc1
              have hn : parseG 0 (cutS s dash).data.toList = none := hI.bad (hi := hil) (.inl hc1)
              obtain ⟨hbz, hbo⟩ := par_none hn
              conv => whnf
              exact fun ρ => tup2_sv (wid_agg _ _ hbz ρ) (bool_t1 hbo ρ)
            · have hc1 : 48 ≤ ((cutS s dash).data.toList[i]'hil).toNat := nlt_48 hc1
              conv => whnf
              conv =>
                arg 2
                tactic' =>
                  apply eff_index_chr (i := i) (c := ((cutS s dash).data.toList[i]'hil)) (ho := ?how17) (hT := ?hTw17) (hx := ?hxw17) (hk := ?hkw17) (hlt := ?hltw17) (hc := ?hcw17)
                  case how17 => rfl
                  case hTw17 => rfl
                  case hxw17 => rfl
                  case hkw17 => rfl
                  case hltw17 => exact hlt
                  case hcw17 => exact at_list hil
              conv => whnf
              refine bcase_intro (fun hc2 => ?_) (fun hc2 => ?_)
              · have hc2 : 57 < ((cutS s dash).data.toList[i]'hil).toNat := gt_57 hc2
                have hn : parseG 0 (cutS s dash).data.toList = none := hI.bad (hi := hil) (.inr hc2)
                obtain ⟨hbz, hbo⟩ := par_none hn
                conv => whnf
                exact fun ρ => tup2_sv (wid_agg _ _ hbz ρ) (bool_t1 hbo ρ)
              · have hc2 : ((cutS s dash).data.toList[i]'hil).toNat ≤ 57 := ngt_57 hc2
                have hng : ¬ (((cutS s dash).data.toList[i]'hil).toNat < 48 ∨ 57 < ((cutS s dash).data.toList[i]'hil).toNat) := by omega
                have hd16 : ((cutS s dash).data.toList[i]'hil).toNat - 48 < 65536 := by omega
                have e1 := digit_i64 hc1
                conv => whnf
                refine imp_via (Z := ?Z1_0 ∧ ?Z1_1 ∧ ?Z1_2) (fun hmg => ?cur1) ?nxt1
                case cur1 =>
                  refine ⟨?_, ?_, ?_, trivial⟩
                  · conv => whnf
                    exact hmg.1
                  · conv => whnf
                    exact hmg.2.1
                  · conv => whnf
                    exact hmg.2.2
                case nxt1 =>
                  refine imp_via (Z := ?Z2_0 ∧ ?Z2_1 ∧ ?Z2_2) (fun hmg => ?cur2) ?nxt2
                  case cur2 =>
                    refine ⟨?_, ?_, ?_⟩
                    · refine ⟨?_, ?_, ?_, trivial⟩
                      · clear hmg
                        conv => whnf
                        refine ⟨⟨isC_pure _, trivial⟩, ⟨_, _, _, _, _, _, _, x.l, 10, _, _, rfl, rfl, rfl, IAt.ow x, hI.dl, Nat.le_trans hxl (by decide), by decide, rfl, fun om _ hom => ?_⟩⟩
                        have homl := hI.by10 hom
                        have homd := rdl_eq hom
                        conv => whnf
                        refine ⟨?_, ?_, trivial⟩
                        · conv => whnf
                          refine ⟨?_, trivial⟩
                          · conv => whnf
                            refine ⟨?_, trivial⟩
                            · conv => whnf
                              conv =>
                                arg 2
                                tactic' =>
                                  apply eff_index_chr (i := i) (c := ((cutS s dash).data.toList[i]'hil)) (ho := ?how11) (hT := ?hTw11) (hx := ?hxw11) (hk := ?hkw11) (hlt := ?hltw11) (hc := ?hcw11)
                                  case how11 => rfl
                                  case hTw11 => rfl
                                  case hxw11 => rfl
                                  case hkw11 => rfl
                                  case hltw11 => exact hlt
                                  case hcw11 => exact at_list hil
                              conv => whnf
                              conv => whnf
                              refine ⟨?_, trivial⟩
                              · conv => whnf
                                refine ⟨?_, trivial⟩
                                · conv => whnf
                                  refine ⟨?_, trivial⟩
                                  · conv => whnf
                                    refine ⟨⟨fun _ _ => rfl, trivial⟩, ⟨_, _, _, _, _, _, _, [((cutS s dash).data.toList[i]'hil).toNat - 48], rfl, rfl, rfl, IAt.word hd16 e1, Dl.one (by rw [RB_eq]; exact hd16), fun h9 => ?_⟩⟩
                                    conv => whnf
                                    refine ⟨⟨isC_pure _, fun _ _ => rfl, trivial⟩, ⟨_, _, _, _, _, _, _, om.l, _, _, _, _, _, _, _, dig RB (val RB [((cutS s dash).data.toList[i]'hil).toNat - 48]), rfl, rfl, rfl, tlen_rdig (Dl.one (by rw [RB_eq]; exact hd16)), IAt.ow om, iat_dig (IAt.word hd16 e1) (Dl.one (by rw [RB_eq]; exact hd16)), homd, dig_Dl RB_two _, by omega, Nat.le_trans (tlen_le1 _) (by decide), fun oa _ hod hoa hol => ?_⟩⟩
                                    have hv2 : val RB oa.l = val RB x.l * 10 + (((cutS s dash).data.toList[i]'hil).toNat - 48) := by rw [hoa, hom, val_dig RB_two, val_dig RB_two]; simp [val]
                                    have htl1 := tlen_le1 (((cutS s dash).data.toList[i]'hil).toNat - 48)
                                    have hol2 : oa.l.length ≤ i + 5 := by omega
                                    conv => whnf
                                    refine ⟨[0, 4], [2, 4, 5, 6, 7], [0, 1], fun vs2 => ?_⟩
                                    conv => whnf
                                    refine ⟨fun _ _ => rfl, isC_pure _, ?_⟩
                                    conv => whnf
                                    refine ⟨_, _, ?_, ?_, ⟨(i + 1, oa, vs2), hI.step (hi := hil) hng hod hv2 hol2⟩, (by omega : (cutS s dash).size - (i + 1) < (cutS s dash).size - i), rfl, rfl⟩
                                    · exact ⟨fun _ => rfl, fun _ => rfl, fun _ => rfl, fun _ => rfl, fun _ => rfl, fun _ => rfl, fun _ => rfl, sint_eq (wrap_suc hI_le) _ _, fun _ => rfl, fun _ => rfl, fun _ => rfl, fun _ => rfl, fun _ => rfl, fun _ => rfl, fun _ => rfl, fun _ => rfl, fun _ => rfl, fun _ => rfl, fun _ => rfl, fun _ => rfl, fun _ => rfl, fun _ => rfl, fun _ => rfl, fun _ => rfl, fun _ => rfl, fun _ => rfl, fun _ => rfl, fun _ => rfl, fun _ => rfl, fun _ => rfl, fun _ => rfl, fun _ => rfl, fun _ => rfl, fun _ => rfl, fun _ => rfl, fun _ => rfl, fun _ => rfl, fun _ => rfl, fun _ => rfl, fun _ => rfl, fun _ => rfl, fun _ => rfl, fun _ => rfl, fun _ => rfl, fun _ => rfl, fun _ => rfl, fun _ => rfl, fun _ => rfl, fun _ => rfl, fun _ => rfl, fun _ => rfl, fun _ => rfl, trivial⟩
                                    · exact ⟨⟨rfl, rfl, rfl, fun _ => rfl⟩, ⟨rfl, rfl, rfl, fun _ => rfl⟩, trivial⟩
                        · conv => whnf
                          refine ⟨?_, trivial⟩
                          · conv => whnf
                            refine ⟨?_, trivial⟩
                            · conv => whnf
                              conv =>
                                arg 2
                                tactic' =>
                                  apply eff_index_chr (i := i) (c := ((cutS s dash).data.toList[i]'hil)) (ho := ?how11) (hT := ?hTw11) (hx := ?hxw11) (hk := ?hkw11) (hlt := ?hltw11) (hc := ?hcw11)
                                  case how11 => rfl
                                  case hTw11 => rfl
                                  case hxw11 => rfl
                                  case hkw11 => rfl
                                  case hltw11 => exact hlt
                                  case hcw11 => exact at_list hil
                              conv => whnf
                              conv => whnf
                              refine ⟨?_, trivial⟩
                              · conv => whnf
                                refine ⟨?_, trivial⟩
                                · conv => whnf
                                  refine ⟨?_, trivial⟩
                                  · conv => whnf
                                    refine ⟨⟨fun _ _ => rfl, trivial⟩, ⟨_, _, _, _, _, _, _, [((cutS s dash).data.toList[i]'hil).toNat - 48], rfl, rfl, rfl, IAt.word hd16 e1, Dl.one (by rw [RB_eq]; exact hd16), fun h9 => ?_⟩⟩
                                    conv => whnf
                                    refine ⟨⟨isC_pure _, fun _ _ => rfl, trivial⟩, ⟨_, _, _, _, _, _, _, om.l, _, _, _, _, _, _, _, dig RB (val RB [((cutS s dash).data.toList[i]'hil).toNat - 48]), rfl, rfl, rfl, tlen_rdig (Dl.one (by rw [RB_eq]; exact hd16)), IAt.ow om, iat_dig (IAt.word hd16 e1) (Dl.one (by rw [RB_eq]; exact hd16)), homd, dig_Dl RB_two _, by omega, Nat.le_trans (tlen_le1 _) (by decide), fun oa _ hod hoa hol => ?_⟩⟩
                                    have hv2 : val RB oa.l = val RB x.l * 10 + (((cutS s dash).data.toList[i]'hil).toNat - 48) := by rw [hoa, hom, val_dig RB_two, val_dig RB_two]; simp [val]
                                    have htl1 := tlen_le1 (((cutS s dash).data.toList[i]'hil).toNat - 48)
                                    have hol2 : oa.l.length ≤ i + 5 := by omega
                                    conv => whnf
                                    refine ⟨[0, 4], [2, 4, 5, 6, 7], [0, 1], fun vs2 => ?_⟩
                                    conv => whnf
                                    refine ⟨fun _ _ => rfl, isC_pure _, ?_⟩
                                    conv => whnf
                                    refine ⟨_, _, ?_, ?_, ⟨(i + 1, oa, vs2), hI.step (hi := hil) hng hod hv2 hol2⟩, (by omega : (cutS s dash).size - (i + 1) < (cutS s dash).size - i), rfl, rfl⟩
                                    · exact ⟨fun _ => rfl, fun _ => rfl, fun _ => rfl, fun _ => rfl, fun _ => rfl, fun _ => rfl, fun _ => rfl, sint_eq (wrap_suc hI_le) _ _, fun _ => rfl, fun _ => rfl, fun _ => rfl, fun _ => rfl, fun _ => rfl, fun _ => rfl, fun _ => rfl, fun _ => rfl, fun _ => rfl, fun _ => rfl, fun _ => rfl, fun _ => rfl, fun _ => rfl, fun _ => rfl, fun _ => rfl, fun _ => rfl, fun _ => rfl, fun _ => rfl, fun _ => rfl, fun _ => rfl, fun _ => rfl, fun _ => rfl, fun _ => rfl, fun _ => rfl, fun _ => rfl, fun _ => rfl, fun _ => rfl, fun _ => rfl, fun _ => rfl, fun _ => rfl, fun _ => rfl, fun _ => rfl, fun _ => rfl, fun _ => rfl, fun _ => rfl, fun _ => rfl, fun _ => rfl, fun _ => rfl, fun _ => rfl, fun _ => rfl, fun _ => rfl, fun _ => rfl, fun _ => rfl, fun _ => rfl, trivial⟩
                                    · exact ⟨⟨rfl, rfl, rfl, fun _ => rfl⟩, ⟨rfl, rfl, rfl, fun _ => rfl⟩, trivial⟩
                      · conv => whnf
                        exact hmg.1
                      · conv => whnf
                        exact hmg.2.1
                    · refine ⟨?_, ?_, trivial⟩
                      · conv => whnf
                        exact hmg.1
                      · conv => whnf
                        exact hmg.2.2
                    · refine ⟨?_, ?_, trivial⟩
                      · conv => whnf
                        exact hmg.2.1
                      · conv => whnf
                        exact hmg.2.2
                  case nxt2 =>
                    refine imp_via (Z := ?Z3_0 ∧ ?Z3_1) (fun hmg => ?cur3) ?nxt3
                    case cur3 =>
                      refine ⟨?_, ?_, ?_⟩
                      · refine ⟨?_, ?_, trivial⟩
                        · clear hmg
                          conv => whnf
                          refine ⟨⟨isC_pure _, trivial⟩, ⟨_, _, _, _, _, _, _, x.l, 10, _, _, rfl, rfl, rfl, IAt.ow x, hI.dl, Nat.le_trans hxl (by decide), by decide, rfl, fun om _ hom => ?_⟩⟩
                          have homl := hI.by10 hom
                          have homd := rdl_eq hom
                          conv => whnf
                          refine ⟨?_, trivial⟩
                          · conv => whnf
                            refine ⟨?_, trivial⟩
                            · conv => whnf
                              conv =>
                                arg 2
                                tactic' =>
                                  apply eff_index_chr (i := i) (c := ((cutS s dash).data.toList[i]'hil)) (ho := ?how11) (hT := ?hTw11) (hx := ?hxw11) (hk := ?hkw11) (hlt := ?hltw11) (hc := ?hcw11)
                                  case how11 => rfl
                                  case hTw11 => rfl
                                  case hxw11 => rfl
                                  case hkw11 => rfl
                                  case hltw11 => exact hlt
                                  case hcw11 => exact at_list hil
                              conv => whnf
                              conv => whnf
                              refine ⟨?_, trivial⟩
                              · conv => whnf
                                refine ⟨?_, trivial⟩
                                · conv => whnf
                                  refine ⟨?_, trivial⟩
                                  · conv => whnf
                                    refine ⟨⟨fun _ _ => rfl, trivial⟩, ⟨_, _, _, _, _, _, _, [((cutS s dash).data.toList[i]'hil).toNat - 48], rfl, rfl, rfl, IAt.word hd16 e1, Dl.one (by rw [RB_eq]; exact hd16), fun h9 => ?_⟩⟩
                                    conv => whnf
                                    refine ⟨⟨isC_pure _, fun _ _ => rfl, trivial⟩, ⟨_, _, _, _, _, _, _, om.l, _, _, _, _, _, _, _, dig RB (val RB [((cutS s dash).data.toList[i]'hil).toNat - 48]), rfl, rfl, rfl, tlen_rdig (Dl.one (by rw [RB_eq]; exact hd16)), IAt.ow om, iat_dig (IAt.word hd16 e1) (Dl.one (by rw [RB_eq]; exact hd16)), homd, dig_Dl RB_two _, by omega, Nat.le_trans (tlen_le1 _) (by decide), fun oa _ hod hoa hol => ?_⟩⟩
                                    have hv2 : val RB oa.l = val RB x.l * 10 + (((cutS s dash).data.toList[i]'hil).toNat - 48) := by rw [hoa, hom, val_dig RB_two, val_dig RB_two]; simp [val]
                                    have htl1 := tlen_le1 (((cutS s dash).data.toList[i]'hil).toNat - 48)
                                    have hol2 : oa.l.length ≤ i + 5 := by omega
                                    conv => whnf
                                    refine ⟨[0, 4], [2, 4, 5, 6, 7], [0, 1], fun vs2 => ?_⟩
                                    conv => whnf
                                    refine ⟨fun _ _ => rfl, isC_pure _, ?_⟩
                                    conv => whnf
                                    refine ⟨_, _, ?_, ?_, ⟨(i + 1, oa, vs2), hI.step (hi := hil) hng hod hv2 hol2⟩, (by omega : (cutS s dash).size - (i + 1) < (cutS s dash).size - i), rfl, rfl⟩
                                    · exact ⟨fun _ => rfl, fun _ => rfl, fun _ => rfl, fun _ => rfl, fun _ => rfl, fun _ => rfl, fun _ => rfl, sint_eq (wrap_suc hI_le) _ _, fun _ => rfl, fun _ => rfl, fun _ => rfl, fun _ => rfl, fun _ => rfl, fun _ => rfl, fun _ => rfl, fun _ => rfl, fun _ => rfl, fun _ => rfl, fun _ => rfl, fun _ => rfl, fun _ => rfl, fun _ => rfl, fun _ => rfl, fun _ => rfl, fun _ => rfl, fun _ => rfl, fun _ => rfl, fun _ => rfl, fun _ => rfl, fun _ => rfl, fun _ => rfl, fun _ => rfl, fun _ => rfl, fun _ => rfl, fun _ => rfl, fun _ => rfl, fun _ => rfl, fun _ => rfl, fun _ => rfl, fun _ => rfl, fun _ => rfl, fun _ => rfl, fun _ => rfl, fun _ => rfl, fun _ => rfl, fun _ => rfl, fun _ => rfl, fun _ => rfl, fun _ => rfl, fun _ => rfl, fun _ => rfl, fun _ => rfl, trivial⟩
                                    · exact ⟨⟨rfl, rfl, rfl, fun _ => rfl⟩, ⟨rfl, rfl, rfl, fun _ => rfl⟩, trivial⟩
                        · conv => whnf
                          exact hmg.1
                      · refine ⟨?_, ?_, trivial⟩
                        · clear hmg
                          conv => whnf
                          refine ⟨⟨isC_pure _, trivial⟩, ⟨_, _, _, _, _, _, _, x.l, 10, _, _, rfl, rfl, rfl, IAt.ow x, hI.dl, Nat.le_trans hxl (by decide), by decide, rfl, fun om _ hom => ?_⟩⟩
                          have homl := hI.by10 hom
                          have homd := rdl_eq hom
                          conv => whnf
                          refine ⟨?_, trivial⟩
                          · conv => whnf
                            refine ⟨?_, trivial⟩
                            · conv => whnf
                              conv =>
                                arg 2
                                tactic' =>
                                  apply eff_index_chr (i := i) (c := ((cutS s dash).data.toList[i]'hil)) (ho := ?how11) (hT := ?hTw11) (hx := ?hxw11) (hk := ?hkw11) (hlt := ?hltw11) (hc := ?hcw11)
                                  case how11 => rfl
                                  case hTw11 => rfl
                                  case hxw11 => rfl
                                  case hkw11 => rfl
                                  case hltw11 => exact hlt
                                  case hcw11 => exact at_list hil
                              conv => whnf
                              conv => whnf
                              refine ⟨?_, trivial⟩
                              · conv => whnf
                                refine ⟨?_, trivial⟩
                                · conv => whnf
                                  refine ⟨?_, trivial⟩
                                  · conv => whnf
                                    refine ⟨⟨fun _ _ => rfl, trivial⟩, ⟨_, _, _, _, _, _, _, [((cutS s dash).data.toList[i]'hil).toNat - 48], rfl, rfl, rfl, IAt.word hd16 e1, Dl.one (by rw [RB_eq]; exact hd16), fun h9 => ?_⟩⟩
                                    conv => whnf
                                    refine ⟨⟨isC_pure _, fun _ _ => rfl, trivial⟩, ⟨_, _, _, _, _, _, _, om.l, _, _, _, _, _, _, _, dig RB (val RB [((cutS s dash).data.toList[i]'hil).toNat - 48]), rfl, rfl, rfl, tlen_rdig (Dl.one (by rw [RB_eq]; exact hd16)), IAt.ow om, iat_dig (IAt.word hd16 e1) (Dl.one (by rw [RB_eq]; exact hd16)), homd, dig_Dl RB_two _, by omega, Nat.le_trans (tlen_le1 _) (by decide), fun oa _ hod hoa hol => ?_⟩⟩
                                    have hv2 : val RB oa.l = val RB x.l * 10 + (((cutS s dash).data.toList[i]'hil).toNat - 48) := by rw [hoa, hom, val_dig RB_two, val_dig RB_two]; simp [val]
                                    have htl1 := tlen_le1 (((cutS s dash).data.toList[i]'hil).toNat - 48)
                                    have hol2 : oa.l.length ≤ i + 5 := by omega
                                    conv => whnf
                                    refine ⟨[0, 4], [2, 4, 5, 6, 7], [0, 1], fun vs2 => ?_⟩
                                    conv => whnf
                                    refine ⟨fun _ _ => rfl, isC_pure _, ?_⟩
                                    conv => whnf
                                    refine ⟨_, _, ?_, ?_, ⟨(i + 1, oa, vs2), hI.step (hi := hil) hng hod hv2 hol2⟩, (by omega : (cutS s dash).size - (i + 1) < (cutS s dash).size - i), rfl, rfl⟩
                                    · exact ⟨fun _ => rfl, fun _ => rfl, fun _ => rfl, fun _ => rfl, fun _ => rfl, fun _ => rfl, fun _ => rfl, sint_eq (wrap_suc hI_le) _ _, fun _ => rfl, fun _ => rfl, fun _ => rfl, fun _ => rfl, fun _ => rfl, fun _ => rfl, fun _ => rfl, fun _ => rfl, fun _ => rfl, fun _ => rfl, fun _ => rfl, fun _ => rfl, fun _ => rfl, fun _ => rfl, fun _ => rfl, fun _ => rfl, fun _ => rfl, fun _ => rfl, fun _ => rfl, fun _ => rfl, fun _ => rfl, fun _ => rfl, fun _ => rfl, fun _ => rfl, fun _ => rfl, fun _ => rfl, fun _ => rfl, fun _ => rfl, fun _ => rfl, fun _ => rfl, fun _ => rfl, fun _ => rfl, fun _ => rfl, fun _ => rfl, fun _ => rfl, fun _ => rfl, fun _ => rfl, fun _ => rfl, fun _ => rfl, fun _ => rfl, fun _ => rfl, fun _ => rfl, fun _ => rfl, fun _ => rfl, trivial⟩
                                    · exact ⟨⟨rfl, rfl, rfl, fun _ => rfl⟩, ⟨rfl, rfl, rfl, fun _ => rfl⟩, trivial⟩
                        · conv => whnf
                          exact hmg.1
                      · refine ⟨?_, ?_, trivial⟩
                        · conv => whnf
                          exact hmg.1
                        · conv => whnf
                          conv =>
                            arg 2
                            tactic' =>
                              apply eff_index_chr (i := i) (c := ((cutS s dash).data.toList[i]'hil)) (ho := ?how11) (hT := ?hTw11) (hx := ?hxw11) (hk := ?hkw11) (hlt := ?hltw11) (hc := ?hcw11)
                              case how11 => rfl
                              case hTw11 => rfl
                              case hxw11 => rfl
                              case hkw11 => rfl
                              case hltw11 => exact hlt
                              case hcw11 => exact at_list hil
                          conv => whnf
                          conv => whnf
                          exact hmg.2
                    case nxt3 =>
                      refine imp_via (Z := ?Z4_0 ∧ ?Z4_1) (fun hmg => ?cur4) ?nxt4
                      case cur4 =>
                        refine ⟨?_, ?_⟩
                        · refine ⟨?_, ?_, trivial⟩
                          · clear hmg
                            conv => whnf
                            refine ⟨⟨isC_pure _, trivial⟩, ⟨_, _, _, _, _, _, _, x.l, 10, _, _, rfl, rfl, rfl, IAt.ow x, hI.dl, Nat.le_trans hxl (by decide), by decide, rfl, fun om _ hom => ?_⟩⟩
                            have homl := hI.by10 hom
                            have homd := rdl_eq hom
                            conv => whnf
                            refine ⟨?_, trivial⟩
                            · conv => whnf
                              conv =>
                                arg 2
                                tactic' =>
                                  apply eff_index_chr (i := i) (c := ((cutS s dash).data.toList[i]'hil)) (ho := ?how11) (hT := ?hTw11) (hx := ?hxw11) (hk := ?hkw11) (hlt := ?hltw11) (hc := ?hcw11)
                                  case how11 => rfl
                                  case hTw11 => rfl
                                  case hxw11 => rfl
                                  case hkw11 => rfl
                                  case hltw11 => exact hlt
                                  case hcw11 => exact at_list hil
                              conv => whnf
                              conv => whnf
                              refine ⟨?_, trivial⟩
                              · conv => whnf
                                refine ⟨?_, trivial⟩
                                · conv => whnf
                                  refine ⟨?_, trivial⟩
                                  · conv => whnf
                                    refine ⟨⟨fun _ _ => rfl, trivial⟩, ⟨_, _, _, _, _, _, _, [((cutS s dash).data.toList[i]'hil).toNat - 48], rfl, rfl, rfl, IAt.word hd16 e1, Dl.one (by rw [RB_eq]; exact hd16), fun h9 => ?_⟩⟩
                                    conv => whnf
                                    refine ⟨⟨isC_pure _, fun _ _ => rfl, trivial⟩, ⟨_, _, _, _, _, _, _, om.l, _, _, _, _, _, _, _, dig RB (val RB [((cutS s dash).data.toList[i]'hil).toNat - 48]), rfl, rfl, rfl, tlen_rdig (Dl.one (by rw [RB_eq]; exact hd16)), IAt.ow om, iat_dig (IAt.word hd16 e1) (Dl.one (by rw [RB_eq]; exact hd16)), homd, dig_Dl RB_two _, by omega, Nat.le_trans (tlen_le1 _) (by decide), fun oa _ hod hoa hol => ?_⟩⟩
                                    have hv2 : val RB oa.l = val RB x.l * 10 + (((cutS s dash).data.toList[i]'hil).toNat - 48) := by rw [hoa, hom, val_dig RB_two, val_dig RB_two]; simp [val]
                                    have htl1 := tlen_le1 (((cutS s dash).data.toList[i]'hil).toNat - 48)
                                    have hol2 : oa.l.length ≤ i + 5 := by omega
                                    conv => whnf
                                    refine ⟨[0, 4], [2, 4, 5, 6, 7], [0, 1], fun vs2 => ?_⟩
                                    conv => whnf
                                    refine ⟨fun _ _ => rfl, isC_pure _, ?_⟩
                                    conv => whnf
                                    refine ⟨_, _, ?_, ?_, ⟨(i + 1, oa, vs2), hI.step (hi := hil) hng hod hv2 hol2⟩, (by omega : (cutS s dash).size - (i + 1) < (cutS s dash).size - i), rfl, rfl⟩
                                    · exact ⟨fun _ => rfl, fun _ => rfl, fun _ => rfl, fun _ => rfl, fun _ => rfl, fun _ => rfl, fun _ => rfl, sint_eq (wrap_suc hI_le) _ _, fun _ => rfl, fun _ => rfl, fun _ => rfl, fun _ => rfl, fun _ => rfl, fun _ => rfl, fun _ => rfl, fun _ => rfl, fun _ => rfl, fun _ => rfl, fun _ => rfl, fun _ => rfl, fun _ => rfl, fun _ => rfl, fun _ => rfl, fun _ => rfl, fun _ => rfl, fun _ => rfl, fun _ => rfl, fun _ => rfl, fun _ => rfl, fun _ => rfl, fun _ => rfl, fun _ => rfl, fun _ => rfl, fun _ => rfl, fun _ => rfl, fun _ => rfl, fun _ => rfl, fun _ => rfl, fun _ => rfl, fun _ => rfl, fun _ => rfl, fun _ => rfl, fun _ => rfl, fun _ => rfl, fun _ => rfl, fun _ => rfl, fun _ => rfl, fun _ => rfl, fun _ => rfl, fun _ => rfl, fun _ => rfl, fun _ => rfl, trivial⟩
                                    · exact ⟨⟨rfl, rfl, rfl, fun _ => rfl⟩, ⟨rfl, rfl, rfl, fun _ => rfl⟩, trivial⟩
                          · conv => whnf
                            conv =>
                              arg 2
                              tactic' =>
                                apply eff_index_chr (i := i) (c := ((cutS s dash).data.toList[i]'hil)) (ho := ?how11) (hT := ?hTw11) (hx := ?hxw11) (hk := ?hkw11) (hlt := ?hltw11) (hc := ?hcw11)
                                case how11 => rfl
                                case hTw11 => rfl
                                case hxw11 => rfl
                                case hkw11 => rfl
                                case hltw11 => exact hlt
                                case hcw11 => exact at_list hil
                            conv => whnf
                            conv => whnf
                            exact hmg.1
                        · refine ⟨?_, ?_, trivial⟩
                          · conv => whnf
                            exact hmg.1
                          · conv => whnf
                            exact hmg.2
                      case nxt4 =>
                        refine imp_via (Z := ?Z5_0 ∧ ?Z5_1) (fun hmg => ?cur5) ?nxt5
                        case cur5 =>
                          refine ⟨?_, ?_⟩
                          · refine ⟨?_, ?_, trivial⟩
                            · clear hmg
                              conv => whnf
                              refine ⟨⟨isC_pure _, trivial⟩, ⟨_, _, _, _, _, _, _, x.l, 10, _, _, rfl, rfl, rfl, IAt.ow x, hI.dl, Nat.le_trans hxl (by decide), by decide, rfl, fun om _ hom => ?_⟩⟩
                              have homl := hI.by10 hom
                              have homd := rdl_eq hom
                              conv => whnf
                              refine ⟨?_, trivial⟩
                              · conv => whnf
                                refine ⟨?_, trivial⟩
                                · conv => whnf
                                  refine ⟨?_, trivial⟩
                                  · conv => whnf
                                    refine ⟨⟨fun _ _ => rfl, trivial⟩, ⟨_, _, _, _, _, _, _, [((cutS s dash).data.toList[i]'hil).toNat - 48], rfl, rfl, rfl, IAt.word hd16 e1, Dl.one (by rw [RB_eq]; exact hd16), fun h9 => ?_⟩⟩
                                    conv => whnf
                                    refine ⟨⟨isC_pure _, fun _ _ => rfl, trivial⟩, ⟨_, _, _, _, _, _, _, om.l, _, _, _, _, _, _, _, dig RB (val RB [((cutS s dash).data.toList[i]'hil).toNat - 48]), rfl, rfl, rfl, tlen_rdig (Dl.one (by rw [RB_eq]; exact hd16)), IAt.ow om, iat_dig (IAt.word hd16 e1) (Dl.one (by rw [RB_eq]; exact hd16)), homd, dig_Dl RB_two _, by omega, Nat.le_trans (tlen_le1 _) (by decide), fun oa _ hod hoa hol => ?_⟩⟩
                                    have hv2 : val RB oa.l = val RB x.l * 10 + (((cutS s dash).data.toList[i]'hil).toNat - 48) := by rw [hoa, hom, val_dig RB_two, val_dig RB_two]; simp [val]
                                    have htl1 := tlen_le1 (((cutS s dash).data.toList[i]'hil).toNat - 48)
                                    have hol2 : oa.l.length ≤ i + 5 := by omega
                                    conv => whnf
                                    refine ⟨[0, 4], [2, 4, 5, 6, 7], [0, 1], fun vs2 => ?_⟩
                                    conv => whnf
                                    refine ⟨fun _ _ => rfl, isC_pure _, ?_⟩
                                    conv => whnf
                                    refine ⟨_, _, ?_, ?_, ⟨(i + 1, oa, vs2), hI.step (hi := hil) hng hod hv2 hol2⟩, (by omega : (cutS s dash).size - (i + 1) < (cutS s dash).size - i), rfl, rfl⟩
                                    · exact ⟨fun _ => rfl, fun _ => rfl, fun _ => rfl, fun _ => rfl, fun _ => rfl, fun _ => rfl, fun _ => rfl, sint_eq (wrap_suc hI_le) _ _, fun _ => rfl, fun _ => rfl, fun _ => rfl, fun _ => rfl, fun _ => rfl, fun _ => rfl, fun _ => rfl, fun _ => rfl, fun _ => rfl, fun _ => rfl, fun _ => rfl, fun _ => rfl, fun _ => rfl, fun _ => rfl, fun _ => rfl, fun _ => rfl, fun _ => rfl, fun _ => rfl, fun _ => rfl, fun _ => rfl, fun _ => rfl, fun _ => rfl, fun _ => rfl, fun _ => rfl, fun _ => rfl, fun _ => rfl, fun _ => rfl, fun _ => rfl, fun _ => rfl, fun _ => rfl, fun _ => rfl, fun _ => rfl, fun _ => rfl, fun _ => rfl, fun _ => rfl, fun _ => rfl, fun _ => rfl, fun _ => rfl, fun _ => rfl, fun _ => rfl, fun _ => rfl, fun _ => rfl, fun _ => rfl, fun _ => rfl, trivial⟩
                                    · exact ⟨⟨rfl, rfl, rfl, fun _ => rfl⟩, ⟨rfl, rfl, rfl, fun _ => rfl⟩, trivial⟩
                            · conv => whnf
                              exact hmg.1
                          · refine ⟨?_, ?_, trivial⟩
                            · conv => whnf
                              exact hmg.1
                            · conv => whnf
                              exact hmg.2
                        case nxt5 =>
                          refine imp_via (Z := ?Z6_0 ∧ ?Z6_1) (fun hmg => ?cur6) ?nxt6
                          case cur6 =>
                            refine ⟨?_, ?_⟩
                            · refine ⟨?_, ?_, trivial⟩
                              · clear hmg
                                conv => whnf
                                refine ⟨⟨isC_pure _, trivial⟩, ⟨_, _, _, _, _, _, _, x.l, 10, _, _, rfl, rfl, rfl, IAt.ow x, hI.dl, Nat.le_trans hxl (by decide), by decide, rfl, fun om _ hom => ?_⟩⟩
                                have homl := hI.by10 hom
                                have homd := rdl_eq hom
                                conv => whnf
                                refine ⟨?_, trivial⟩
                                · conv => whnf
                                  refine ⟨?_, trivial⟩
                                  · conv => whnf
                                    refine ⟨⟨fun _ _ => rfl, trivial⟩, ⟨_, _, _, _, _, _, _, [((cutS s dash).data.toList[i]'hil).toNat - 48], rfl, rfl, rfl, IAt.word hd16 e1, Dl.one (by rw [RB_eq]; exact hd16), fun h9 => ?_⟩⟩
                                    conv => whnf
                                    refine ⟨⟨isC_pure _, fun _ _ => rfl, trivial⟩, ⟨_, _, _, _, _, _, _, om.l, _, _, _, _, _, _, _, dig RB (val RB [((cutS s dash).data.toList[i]'hil).toNat - 48]), rfl, rfl, rfl, tlen_rdig (Dl.one (by rw [RB_eq]; exact hd16)), IAt.ow om, iat_dig (IAt.word hd16 e1) (Dl.one (by rw [RB_eq]; exact hd16)), homd, dig_Dl RB_two _, by omega, Nat.le_trans (tlen_le1 _) (by decide), fun oa _ hod hoa hol => ?_⟩⟩
                                    have hv2 : val RB oa.l = val RB x.l * 10 + (((cutS s dash).data.toList[i]'hil).toNat - 48) := by rw [hoa, hom, val_dig RB_two, val_dig RB_two]; simp [val]
                                    have htl1 := tlen_le1 (((cutS s dash).data.toList[i]'hil).toNat - 48)
                                    have hol2 : oa.l.length ≤ i + 5 := by omega
                                    conv => whnf
                                    refine ⟨[0, 4], [2, 4, 5, 6, 7], [0, 1], fun vs2 => ?_⟩
                                    conv => whnf
                                    refine ⟨fun _ _ => rfl, isC_pure _, ?_⟩
                                    conv => whnf
                                    refine ⟨_, _, ?_, ?_, ⟨(i + 1, oa, vs2), hI.step (hi := hil) hng hod hv2 hol2⟩, (by omega : (cutS s dash).size - (i + 1) < (cutS s dash).size - i), rfl, rfl⟩
                                    · exact ⟨fun _ => rfl, fun _ => rfl, fun _ => rfl, fun _ => rfl, fun _ => rfl, fun _ => rfl, fun _ => rfl, sint_eq (wrap_suc hI_le) _ _, fun _ => rfl, fun _ => rfl, fun _ => rfl, fun _ => rfl, fun _ => rfl, fun _ => rfl, fun _ => rfl, fun _ => rfl, fun _ => rfl, fun _ => rfl, fun _ => rfl, fun _ => rfl, fun _ => rfl, fun _ => rfl, fun _ => rfl, fun _ => rfl, fun _ => rfl, fun _ => rfl, fun _ => rfl, fun _ => rfl, fun _ => rfl, fun _ => rfl, fun _ => rfl, fun _ => rfl, fun _ => rfl, fun _ => rfl, fun _ => rfl, fun _ => rfl, fun _ => rfl, fun _ => rfl, fun _ => rfl, fun _ => rfl, fun _ => rfl, fun _ => rfl, fun _ => rfl, fun _ => rfl, fun _ => rfl, fun _ => rfl, fun _ => rfl, fun _ => rfl, fun _ => rfl, fun _ => rfl, fun _ => rfl, fun _ => rfl, trivial⟩
                                    · exact ⟨⟨rfl, rfl, rfl, fun _ => rfl⟩, ⟨rfl, rfl, rfl, fun _ => rfl⟩, trivial⟩
                              · conv => whnf
                                exact hmg.1
                            · refine ⟨?_, ?_, trivial⟩
                              · conv => whnf
                                exact hmg.1
                              · conv => whnf
                                exact hmg.2
                          case nxt6 =>
                            refine imp_via (Z := ?Z7_0) (fun hmg => ?cur7) ?nxt7
                            case cur7 =>
                              refine ⟨?_, ?_⟩
                              · refine ⟨?_, ?_, trivial⟩
                                · clear hmg
                                  conv => whnf
                                  refine ⟨⟨isC_pure _, trivial⟩, ⟨_, _, _, _, _, _, _, x.l, 10, _, _, rfl, rfl, rfl, IAt.ow x, hI.dl, Nat.le_trans hxl (by decide), by decide, rfl, fun om _ hom => ?_⟩⟩
                                  have homl := hI.by10 hom
                                  have homd := rdl_eq hom
                                  conv => whnf
                                  refine ⟨?_, trivial⟩
                                  · conv => whnf
                                    refine ⟨⟨fun _ _ => rfl, trivial⟩, ⟨_, _, _, _, _, _, _, [((cutS s dash).data.toList[i]'hil).toNat - 48], rfl, rfl, rfl, IAt.word hd16 e1, Dl.one (by rw [RB_eq]; exact hd16), fun h9 => ?_⟩⟩
                                    conv => whnf
                                    refine ⟨⟨isC_pure _, fun _ _ => rfl, trivial⟩, ⟨_, _, _, _, _, _, _, om.l, _, _, _, _, _, _, _, dig RB (val RB [((cutS s dash).data.toList[i]'hil).toNat - 48]), rfl, rfl, rfl, tlen_rdig (Dl.one (by rw [RB_eq]; exact hd16)), IAt.ow om, iat_dig (IAt.word hd16 e1) (Dl.one (by rw [RB_eq]; exact hd16)), homd, dig_Dl RB_two _, by omega, Nat.le_trans (tlen_le1 _) (by decide), fun oa _ hod hoa hol => ?_⟩⟩
                                    have hv2 : val RB oa.l = val RB x.l * 10 + (((cutS s dash).data.toList[i]'hil).toNat - 48) := by rw [hoa, hom, val_dig RB_two, val_dig RB_two]; simp [val]
                                    have htl1 := tlen_le1 (((cutS s dash).data.toList[i]'hil).toNat - 48)
                                    have hol2 : oa.l.length ≤ i + 5 := by omega
                                    conv => whnf
                                    refine ⟨[0, 4], [2, 4, 5, 6, 7], [0, 1], fun vs2 => ?_⟩
                                    conv => whnf
                                    refine ⟨fun _ _ => rfl, isC_pure _, ?_⟩
                                    conv => whnf
                                    refine ⟨_, _, ?_, ?_, ⟨(i + 1, oa, vs2), hI.step (hi := hil) hng hod hv2 hol2⟩, (by omega : (cutS s dash).size - (i + 1) < (cutS s dash).size - i), rfl, rfl⟩
                                    · exact ⟨fun _ => rfl, fun _ => rfl, fun _ => rfl, fun _ => rfl, fun _ => rfl, fun _ => rfl, fun _ => rfl, sint_eq (wrap_suc hI_le) _ _, fun _ => rfl, fun _ => rfl, fun _ => rfl, fun _ => rfl, fun _ => rfl, fun _ => rfl, fun _ => rfl, fun _ => rfl, fun _ => rfl, fun _ => rfl, fun _ => rfl, fun _ => rfl, fun _ => rfl, fun _ => rfl, fun _ => rfl, fun _ => rfl, fun _ => rfl, fun _ => rfl, fun _ => rfl, fun _ => rfl, fun _ => rfl, fun _ => rfl, fun _ => rfl, fun _ => rfl, fun _ => rfl, fun _ => rfl, fun _ => rfl, fun _ => rfl, fun _ => rfl, fun _ => rfl, fun _ => rfl, fun _ => rfl, fun _ => rfl, fun _ => rfl, fun _ => rfl, fun _ => rfl, fun _ => rfl, fun _ => rfl, fun _ => rfl, fun _ => rfl, fun _ => rfl, fun _ => rfl, fun _ => rfl, fun _ => rfl, trivial⟩
                                    · exact ⟨⟨rfl, rfl, rfl, fun _ => rfl⟩, ⟨rfl, rfl, rfl, fun _ => rfl⟩, trivial⟩
                                · conv => whnf
                                  exact hmg
                              · refine ⟨?_, trivial⟩
                                · conv => whnf
                                  exact hmg
                            case nxt7 =>
                              refine ⟨?_, trivial⟩
                              · conv => whnf
                                refine ⟨⟨isC_pure _, trivial⟩, ⟨_, _, _, _, _, _, _, x.l, 10, _, _, rfl, rfl, rfl, IAt.ow x, hI.dl, Nat.le_trans hxl (by decide), by decide, rfl, fun om _ hom => ?_⟩⟩
                                have homl := hI.by10 hom
                                have homd := rdl_eq hom
                                conv => whnf
                                refine ⟨⟨fun _ _ => rfl, trivial⟩, ⟨_, _, _, _, _, _, _, [((cutS s dash).data.toList[i]'hil).toNat - 48], rfl, rfl, rfl, IAt.word hd16 e1, Dl.one (by rw [RB_eq]; exact hd16), fun h9 => ?_⟩⟩
                                conv => whnf
                                refine ⟨⟨isC_pure _, fun _ _ => rfl, trivial⟩, ⟨_, _, _, _, _, _, _, om.l, _, _, _, _, _, _, _, dig RB (val RB [((cutS s dash).data.toList[i]'hil).toNat - 48]), rfl, rfl, rfl, tlen_rdig (Dl.one (by rw [RB_eq]; exact hd16)), IAt.ow om, iat_dig (IAt.word hd16 e1) (Dl.one (by rw [RB_eq]; exact hd16)), homd, dig_Dl RB_two _, by omega, Nat.le_trans (tlen_le1 _) (by decide), fun oa _ hod hoa hol => ?_⟩⟩
                                have hv2 : val RB oa.l = val RB x.l * 10 + (((cutS s dash).data.toList[i]'hil).toNat - 48) := by rw [hoa, hom, val_dig RB_two, val_dig RB_two]; simp [val]
                                have htl1 := tlen_le1 (((cutS s dash).data.toList[i]'hil).toNat - 48)
                                have hol2 : oa.l.length ≤ i + 5 := by omega
                                conv => whnf
                                refine ⟨[0, 4], [2, 4, 5, 6, 7], [0, 1], fun vs2 => ?_⟩
                                conv => whnf
                                refine ⟨fun _ _ => rfl, isC_pure _, ?_⟩
                                conv => whnf
                                refine ⟨_, _, ?_, ?_, ⟨(i + 1, oa, vs2), hI.step (hi := hil) hng hod hv2 hol2⟩, (by omega : (cutS s dash).size - (i + 1) < (cutS s dash).size - i), rfl, rfl⟩
                                · exact ⟨fun _ => rfl, fun _ => rfl, fun _ => rfl, fun _ => rfl, fun _ => rfl, fun _ => rfl, fun _ => rfl, sint_eq (wrap_suc hI_le) _ _, fun _ => rfl, fun _ => rfl, fun _ => rfl, fun _ => rfl, fun _ => rfl, fun _ => rfl, fun _ => rfl, fun _ => rfl, fun _ => rfl, fun _ => rfl, fun _ => rfl, fun _ => rfl, fun _ => rfl, fun _ => rfl, fun _ => rfl, fun _ => rfl, fun _ => rfl, fun _ => rfl, fun _ => rfl, fun _ => rfl, fun _ => rfl, fun _ => rfl, fun _ => rfl, fun _ => rfl, fun _ => rfl, fun _ => rfl, fun _ => rfl, fun _ => rfl, fun _ => rfl, fun _ => rfl, fun _ => rfl, fun _ => rfl, fun _ => rfl, fun _ => rfl, fun _ => rfl, fun _ => rfl, fun _ => rfl, fun _ => rfl, fun _ => rfl, fun _ => rfl, fun _ => rfl, fun _ => rfl, fun _ => rfl, fun _ => rfl, trivial⟩
                                · exact ⟨⟨rfl, rfl, rfl, fun _ => rfl⟩, ⟨rfl, rfl, rfl, fun _ => rfl⟩, trivial⟩
          · have hke : i = (cutS s dash).data.toList.length := Nat.le_antisymm hI.hi (by rw [Array.length_toList]; exact n_ge hlt)
            have hn : parseG 0 (cutS s dash).data.toList = some (val RB x.l) := by
              have := hI.hp
              rwa [hke, List.drop_of_length_le (Nat.le_refl _)] at this
            conv => whnf
            refine ⟨⟨x.l, IAt.ow x, rfl, hI.dl, Nat.le_trans hxl (by decide)⟩, ?_⟩
            conv => whnf
            obtain ⟨hz1, hz2, hz3⟩ := par_some hs10 hn
            refine fun ρ => tup2_sv ?_ (bool_t1 hz3 ρ)
            rw [isOf_oi x hI.dl]
            exact wv_agg _ hz1 hz2 ρ
      · have hb1 : cutB s dash = false := (hcut.trans (c_dash c0)).trans hm
        conv => whnf
        refine loop_st (G := {g : Nat × OI × (Nat → Value) // RParI (cutS s dash).data.toList g.1 g.2.1}) (fun g => (.c (.val (g.1.2.2 0)) :: .c (.val (g.1.2.2 1)) :: .c (.ptr 0 0) :: .c (.val (g.1.2.2 3)) :: .c (.val (.bool (cutB s dash))) :: .c (.val (.string (cutS s dash))) :: (g.1.2.1.sl 1) :: .c (.int (g.1.1 : Nat) (ir_nat (Nat.le_trans g.2.hi (Nat.le_trans hs10 (by decide))))) :: .c (.val (g.1.2.2 8)) :: .c (.val (g.1.2.2 9)) :: .c (.val (g.1.2.2 10)) :: .c (.val (g.1.2.2 11)) :: .c (.val (g.1.2.2 12)) :: .c (.val (g.1.2.2 13)) :: .c (.val (g.1.2.2 14)) :: .c (.val (g.1.2.2 15)) :: .c (.val (g.1.2.2 16)) :: .c (.val (g.1.2.2 17)) :: .c (.val (g.1.2.2 18)) :: .c (.val (g.1.2.2 19)) :: .c (.val (g.1.2.2 20)) :: .c (.val (g.1.2.2 21)) :: .c (.val (g.1.2.2 22)) :: .c (.val (g.1.2.2 23)) :: .c (.val (g.1.2.2 24)) :: .c (.val (g.1.2.2 25)) :: .c (.val (g.1.2.2 26)) :: .c (.val (g.1.2.2 27)) :: .c (.val (g.1.2.2 28)) :: .c (.val (g.1.2.2 29)) :: .c (.val (g.1.2.2 30)) :: .c (.val (g.1.2.2 31)) :: .c (.val (g.1.2.2 32)) :: .c (.val (g.1.2.2 33)) :: .c (.val (g.1.2.2 34)) :: .c (.val (g.1.2.2 35)) :: .c (.val (g.1.2.2 36)) :: .c (.val (g.1.2.2 37)) :: .c (.val (g.1.2.2 38)) :: .c (.val (g.1.2.2 39)) :: .c (.val (g.1.2.2 40)) :: .c (.val (g.1.2.2 41)) :: .c (.val (g.1.2.2 42)) :: .c (.val (g.1.2.2 43)) :: .c (.val (g.1.2.2 44)) :: .c (.val (g.1.2.2 45)) :: .c (.val (g.1.2.2 46)) :: .c (.val (g.1.2.2 47)) :: .c (.val (g.1.2.2 48)) :: .c (.val (g.1.2.2 49)) :: .c (.val (g.1.2.2 50)) :: .c (.val (g.1.2.2 51)) :: [])) (fun g => [⟨27, false, [.wid 0 0 (by unfold Sm; decide)], 0⟩, g.1.2.1.blk]) (fun g => (cutS s dash).size - g.1.1) ?_ ?_
        · refine ⟨[0, 1000 + 3], [2, 4, 5, 6, 7], [0, 1], fun vs => ?_⟩
          conv => whnf
          refine ⟨fun _ _ => rfl, ?_⟩
          conv => whnf
          refine ⟨_, _, ?_, ?_, ⟨(0, OI.nil, vs), RParI.start _⟩, rfl, rfl⟩
          · exact ⟨fun _ => rfl, fun _ => rfl, fun _ => rfl, fun _ => rfl, fun _ => congrArg Value.bool ((hcut.trans (c_dash c0)).symm), fun _ => congrArg Value.string (cut_not hb1), fun _ => rfl, fun _ => rfl, fun _ => rfl, fun _ => rfl, fun _ => rfl, fun _ => rfl, fun _ => rfl, fun _ => rfl, fun _ => rfl, fun _ => rfl, fun _ => rfl, fun _ => rfl, fun _ => rfl, fun _ => rfl, fun _ => rfl, fun _ => rfl, fun _ => rfl, fun _ => rfl, fun _ => rfl, fun _ => rfl, fun _ => rfl, fun _ => rfl, fun _ => rfl, fun _ => rfl, fun _ => rfl, fun _ => rfl, fun _ => rfl, fun _ => rfl, fun _ => rfl, fun _ => rfl, fun _ => rfl, fun _ => rfl, fun _ => rfl, fun _ => rfl, fun _ => rfl, fun _ => rfl, fun _ => rfl, fun _ => rfl, fun _ => rfl, fun _ => rfl, fun _ => rfl, fun _ => rfl, fun _ => rfl, fun _ => rfl, fun _ => rfl, fun _ => rfl, trivial⟩
          · exact ⟨⟨rfl, rfl, rfl, fun _ => rfl⟩, ⟨rfl, rfl, rfl, fun _ => rfl⟩, trivial⟩
        · rintro ⟨⟨i, x, vs⟩, hI⟩
          have hI : RParI (cutS s dash).data.toList i x := hI
          have hilen := hI.hi
          have hI_le : i ≤ 10000 := Nat.le_trans hI.hi hs10
          have hxl : x.l.length ≤ 10004 := Nat.le_trans hI.len (Nat.add_le_add_right hI_le 4)
          conv => whnf
          conv =>
            arg 2
            tactic' =>
              apply eff_len_str (ho := ?how18) (hc := ?hcw18) (ha := ?haw18) (ht := ?htw18) (hT := ?hTw18) (hx := ?hxw18) (h := ?hw18)
              case how18 => rfl
              case hcw18 => rfl
              case haw18 => rfl
              case htw18 => rfl
              case hTw18 => rfl
              case hxw18 => rfl
              case hw18 => exact hsz2
          conv => whnf
          refine bcase_intro (fun hlt => ?_) (fun hlt => ?_)
          · have hlt : i < (cutS s dash).size := n_lt hlt
            have hil : i < (cutS s dash).data.toList.length := Nat.lt_of_lt_of_eq hlt Array.length_toList.symm
            conv => whnf
            conv =>
              arg 2
              tactic' =>
                apply eff_index_chr (i := i) (c := ((cutS s dash).data.toList[i]'hil)) (ho := ?how19) (hT := ?hTw19) (hx := ?hxw19) (hk := ?hkw19) (hlt := ?hltw19) (hc := ?hcw19)
                case how19 => rfl
                case hTw19 => rfl
                case hxw19 => rfl
                case hkw19 => rfl
                case hltw19 => exact hlt
                case hcw19 => exact at_list hil
            conv => whnf
            refine bcase_intro (fun hc1 => ?_) (fun hc1 => ?_)
            · have hc1 : ((cutS s dash).data.toList[i]'hil).toNat < 48 := lt_48 hc1
              have hn : parseG 0 (cutS s dash).data.toList = none := hI.bad (hi := hil) (.inl hc1)
              obtain ⟨hbz, hbo⟩ := par_none hn
              conv => whnf
              exact fun ρ => tup2_sv (wid_agg _ _ hbz ρ) (bool_t1 hbo ρ)
            · have hc1 : 48 ≤ ((cutS s dash).data.toList[i]'hil).toNat := nlt_48 hc1
              conv => whnf
              conv =>
                arg 2
                tactic' =>
                  apply eff_index_chr (i := i) (c := ((cutS s dash).data.toList[i]'hil)) (ho := ?how20) (hT := ?hTw20) (hx := ?hxw20) (hk := ?hkw20) (hlt := ?hltw20) (hc := ?hcw20)
                  case how20 => rfl
                  case hTw20 => rfl
                  case hxw20 => rfl
                  case hkw20 => rfl
                  case hltw20 => exact hlt
                  case hcw20 => exact at_list hil
              conv => whnf
              refine bcase_intro (fun hc2 => ?_) (fun hc2 => ?_)
              · have hc2 : 57 < ((cutS s dash).data.toList[i]'hil).toNat := gt_57 hc2
                have hn : parseG 0 (cutS s dash).data.toList = none := hI.bad (hi := hil) (.inr hc2)
                obtain ⟨hbz, hbo⟩ := par_none hn
                conv => whnf
                exact fun ρ => tup2_sv (wid_agg _ _ hbz ρ) (bool_t1 hbo ρ)
              · have hc2 : ((cutS s dash).data.toList[i]'hil).toNat ≤ 57 := ngt_57 hc2
                have hng : ¬ (((cutS s dash).data.toList[i]'hil).toNat < 48 ∨ 57 < ((cutS s dash).data.toList[i]'hil).toNat) := by omega
                have hd16 : ((cutS s dash).data.toList[i]'hil).toNat - 48 < 65536 := by omega
                have e1 := digit_i64 hc1
                conv => whnf
                refine imp_via (Z := ?Z9_0 ∧ ?Z9_1 ∧ ?Z9_2) (fun hmg => ?cur9) ?nxt9
                case cur9 =>
                  refine ⟨?_, ?_, ?_, trivial⟩
                  · conv => whnf
                    exact hmg.1
                  · conv => whnf
                    exact hmg.2.1
                  · conv => whnf
                    exact hmg.2.2
                case nxt9 =>
                  refine imp_via (Z := ?Z10_0 ∧ ?Z10_1 ∧ ?Z10_2) (fun hmg => ?cur10) ?nxt10
                  case cur10 =>
                    refine ⟨?_, ?_, ?_⟩
                    · refine ⟨?_, ?_, ?_, trivial⟩
                      · clear hmg
                        conv => whnf
                        refine ⟨⟨isC_pure _, trivial⟩, ⟨_, _, _, _, _, _, _, x.l, 10, _, _, rfl, rfl, rfl, IAt.ow x, hI.dl, Nat.le_trans hxl (by decide), by decide, rfl, fun om _ hom => ?_⟩⟩
                        have homl := hI.by10 hom
                        have homd := rdl_eq hom
                        conv => whnf
                        refine ⟨?_, ?_, trivial⟩
                        · conv => whnf
                          refine ⟨?_, trivial⟩
                          · conv => whnf
                            refine ⟨?_, trivial⟩
                            · conv => whnf
                              conv =>
                                arg 2
                                tactic' =>
                                  apply eff_index_chr (i := i) (c := ((cutS s dash).data.toList[i]'hil)) (ho := ?how11) (hT := ?hTw11) (hx := ?hxw11) (hk := ?hkw11) (hlt := ?hltw11) (hc := ?hcw11)
                                  case how11 => rfl
                                  case hTw11 => rfl
                                  case hxw11 => rfl
                                  case hkw11 => rfl
                                  case hltw11 => exact hlt
                                  case hcw11 => exact at_list hil
                              conv => whnf
                              conv => whnf
                              refine ⟨?_, trivial⟩
                              · conv => whnf
                                refine ⟨?_, trivial⟩
                                · conv => whnf
                                  refine ⟨?_, trivial⟩
                                  · conv => whnf
                                    refine ⟨⟨fun _ _ => rfl, trivial⟩, ⟨_, _, _, _, _, _, _, [((cutS s dash).data.toList[i]'hil).toNat - 48], rfl, rfl, rfl, IAt.word hd16 e1, Dl.one (by rw [RB_eq]; exact hd16), fun h9 => ?_⟩⟩
                                    conv => whnf
                                    refine ⟨⟨isC_pure _, fun _ _ => rfl, trivial⟩, ⟨_, _, _, _, _, _, _, om.l, _, _, _, _, _, _, _, dig RB (val RB [((cutS s dash).data.toList[i]'hil).toNat - 48]), rfl, rfl, rfl, tlen_rdig (Dl.one (by rw [RB_eq]; exact hd16)), IAt.ow om, iat_dig (IAt.word hd16 e1) (Dl.one (by rw [RB_eq]; exact hd16)), homd, dig_Dl RB_two _, by omega, Nat.le_trans (tlen_le1 _) (by decide), fun oa _ hod hoa hol => ?_⟩⟩
                                    have hv2 : val RB oa.l = val RB x.l * 10 + (((cutS s dash).data.toList[i]'hil).toNat - 48) := by rw [hoa, hom, val_dig RB_two, val_dig RB_two]; simp [val]
                                    have htl1 := tlen_le1 (((cutS s dash).data.toList[i]'hil).toNat - 48)
                                    have hol2 : oa.l.length ≤ i + 5 := by omega
                                    conv => whnf
                                    refine ⟨[0, 4], [2, 4, 5, 6, 7], [0, 1], fun vs2 => ?_⟩
                                    conv => whnf
                                    refine ⟨fun _ _ => rfl, isC_pure _, ?_⟩
                                    conv => whnf
                                    refine ⟨_, _, ?_, ?_, ⟨(i + 1, oa, vs2), hI.step (hi := hil) hng hod hv2 hol2⟩, (by omega : (cutS s dash).size - (i + 1) < (cutS s dash).size - i), rfl, rfl⟩
                                    · exact ⟨fun _ => rfl, fun _ => rfl, fun _ => rfl, fun _ => rfl, fun _ => rfl, fun _ => rfl, fun _ => rfl, sint_eq (wrap_suc hI_le) _ _, fun _ => rfl, fun _ => rfl, fun _ => rfl, fun _ => rfl, fun _ => rfl, fun _ => rfl, fun _ => rfl, fun _ => rfl, fun _ => rfl, fun _ => rfl, fun _ => rfl, fun _ => rfl, fun _ => rfl, fun _ => rfl, fun _ => rfl, fun _ => rfl, fun _ => rfl, fun _ => rfl, fun _ => rfl, fun _ => rfl, fun _ => rfl, fun _ => rfl, fun _ => rfl, fun _ => rfl, fun _ => rfl, fun _ => rfl, fun _ => rfl, fun _ => rfl, fun _ => rfl, fun _ => rfl, fun _ => rfl, fun _ => rfl, fun _ => rfl, fun _ => rfl, fun _ => rfl, fun _ => rfl, fun _ => rfl, fun _ => rfl, fun _ => rfl, fun _ => rfl, fun _ => rfl, fun _ => rfl, fun _ => rfl, fun _ => rfl, trivial⟩
                                    · exact ⟨⟨rfl, rfl, rfl, fun _ => rfl⟩, ⟨rfl, rfl, rfl, fun _ => rfl⟩, trivial⟩
                        · conv => whnf
                          refine ⟨?_, trivial⟩
                          · conv => whnf
                            refine ⟨?_, trivial⟩
                            · conv => whnf
                              conv =>
                                arg 2
                                tactic' =>
                                  apply eff_index_chr (i := i) (c := ((cutS s dash).data.toList[i]'hil)) (ho := ?how11) (hT := ?hTw11) (hx := ?hxw11) (hk := ?hkw11) (hlt := ?hltw11) (hc := ?hcw11)
                                  case how11 => rfl
                                  case hTw11 => rfl
                                  case hxw11 => rfl
                                  case hkw11 => rfl
                                  case hltw11 => exact hlt
                                  case hcw11 => exact at_list hil
                              conv => whnf
                              conv => whnf
                              refine ⟨?_, trivial⟩
                              · conv => whnf
                                refine ⟨?_, trivial⟩
                                · conv => whnf
                                  refine ⟨?_, trivial⟩
                                  · conv => whnf
                                    refine ⟨⟨fun _ _ => rfl, trivial⟩, ⟨_, _, _, _, _, _, _, [((cutS s dash).data.toList[i]'hil).toNat - 48], rfl, rfl, rfl, IAt.word hd16 e1, Dl.one (by rw [RB_eq]; exact hd16), fun h9 => ?_⟩⟩
                                    conv => whnf
                                    refine ⟨⟨isC_pure _, fun _ _ => rfl, trivial⟩, ⟨_, _, _, _, _, _, _, om.l, _, _, _, _, _, _, _, dig RB (val RB [((cutS s dash).data.toList[i]'hil).toNat - 48]), rfl, rfl, rfl, tlen_rdig (Dl.one (by rw [RB_eq]; exact hd16)), IAt.ow om, iat_dig (IAt.word hd16 e1) (Dl.one (by rw [RB_eq]; exact hd16)), homd, dig_Dl RB_two _, by omega, Nat.le_trans (tlen_le1 _) (by decide), fun oa _ hod hoa hol => ?_⟩⟩
                                    have hv2 : val RB oa.l = val RB x.l * 10 + (((cutS s dash).data.toList[i]'hil).toNat - 48) := by rw [hoa, hom, val_dig RB_two, val_dig RB_two]; simp [val]
                                    have htl1 := tlen_le1 (((cutS s dash).data.toList[i]'hil).toNat - 48)
                                    have hol2 : oa.l.length ≤ i + 5 := by omega
                                    conv => whnf
                                    refine ⟨[0, 4], [2, 4, 5, 6, 7], [0, 1], fun vs2 => ?_⟩
                                    conv => whnf
                                    refine ⟨fun _ _ => rfl, isC_pure _, ?_⟩
                                    conv => whnf
                                    refine ⟨_, _, ?_, ?_, ⟨(i + 1, oa, vs2), hI.step (hi := hil) hng hod hv2 hol2⟩, (by omega : (cutS s dash).size - (i + 1) < (cutS s dash).size - i), rfl, rfl⟩
                                    · exact ⟨fun _ => rfl, fun _ => rfl, fun _ => rfl, fun _ => rfl, fun _ => rfl, fun _ => rfl, fun _ => rfl, sint_eq (wrap_suc hI_le) _ _, fun _ => rfl, fun _ => rfl, fun _ => rfl, fun _ => rfl, fun _ => rfl, fun _ => rfl, fun _ => rfl, fun _ => rfl, fun _ => rfl, fun _ => rfl, fun _ => rfl, fun _ => rfl, fun _ => rfl, fun _ => rfl, fun _ => rfl, fun _ => rfl, fun _ => rfl, fun _ => rfl, fun _ => rfl, fun _ => rfl, fun _ => rfl, fun _ => rfl, fun _ => rfl, fun _ => rfl, fun _ => rfl, fun _ => rfl, fun _ => rfl, fun _ => rfl, fun _ => rfl, fun _ => rfl, fun _ => rfl, fun _ => rfl, fun _ => rfl, fun _ => rfl, fun _ => rfl, fun _ => rfl, fun _ => rfl, fun _ => rfl, fun _ => rfl, fun _ => rfl, fun _ => rfl, fun _ => rfl, fun _ => rfl, fun _ => rfl, trivial⟩
                                    · exact ⟨⟨rfl, rfl, rfl, fun _ => rfl⟩, ⟨rfl, rfl, rfl, fun _ => rfl⟩, trivial⟩
                      · conv => whnf
                        exact hmg.1
                      · conv => whnf
                        exact hmg.2.1
                    · refine ⟨?_, ?_, trivial⟩
                      · conv => whnf
                        exact hmg.1
                      · conv => whnf
                        exact hmg.2.2
                    · refine ⟨?_, ?_, trivial⟩
                      · conv => whnf
                        exact hmg.2.1
                      · conv => whnf
                        exact hmg.2.2
                  case nxt10 =>
                    refine imp_via (Z := ?Z11_0 ∧ ?Z11_1) (fun hmg => ?cur11) ?nxt11
                    case cur11 =>
                      refine ⟨?_, ?_, ?_⟩
                      · refine ⟨?_, ?_, trivial⟩
                        · clear hmg
                          conv => whnf
                          refine ⟨⟨isC_pure _, trivial⟩, ⟨_, _, _, _, _, _, _, x.l, 10, _, _, rfl, rfl, rfl, IAt.ow x, hI.dl, Nat.le_trans hxl (by decide), by decide, rfl, fun om _ hom => ?_⟩⟩
                          have homl := hI.by10 hom
                          have homd := rdl_eq hom
                          conv => whnf
                          refine ⟨?_, trivial⟩
                          · conv => whnf
                            refine ⟨?_, trivial⟩
                            · conv => whnf
                              conv =>
                                arg 2
                                tactic' =>
                                  apply eff_index_chr (i := i) (c := ((cutS s dash).data.toList[i]'hil)) (ho := ?how11) (hT := ?hTw11) (hx := ?hxw11) (hk := ?hkw11) (hlt := ?hltw11) (hc := ?hcw11)
                                  case how11 => rfl
                                  case hTw11 => rfl
                                  case hxw11 => rfl
                                  case hkw11 => rfl
                                  case hltw11 => exact hlt
                                  case hcw11 => exact at_list hil
                              conv => whnf
                              conv => whnf
                              refine ⟨?_, trivial⟩
                              · conv => whnf
                                refine ⟨?_, trivial⟩
                                · conv => whnf
                                  refine ⟨?_, trivial⟩
                                  · conv => whnf
                                    refine ⟨⟨fun _ _ => rfl, trivial⟩, ⟨_, _, _, _, _, _, _, [((cutS s dash).data.toList[i]'hil).toNat - 48], rfl, rfl, rfl, IAt.word hd16 e1, Dl.one (by rw [RB_eq]; exact hd16), fun h9 => ?_⟩⟩
                                    conv => whnf
                                    refine ⟨⟨isC_pure _, fun _ _ => rfl, trivial⟩, ⟨_, _, _, _, _, _, _, om.l, _, _, _, _, _, _, _, dig RB (val RB [((cutS s dash).data.toList[i]'hil).toNat - 48]), rfl, rfl, rfl, tlen_rdig (Dl.one (by rw [RB_eq]; exact hd16)), IAt.ow om, iat_dig (IAt.word hd16 e1) (Dl.one (by rw [RB_eq]; exact hd16)), homd, dig_Dl RB_two _, by omega, Nat.le_trans (tlen_le1 _) (by decide), fun oa _ hod hoa hol => ?_⟩⟩
                                    have hv2 : val RB oa.l = val RB x.l * 10 + (((cutS s dash).data.toList[i]'hil).toNat - 48) := by rw [hoa, hom, val_dig RB_two, val_dig RB_two]; simp [val]
                                    have htl1 := tlen_le1 (((cutS s dash).data.toList[i]'hil).toNat - 48)
                                    have hol2 : oa.l.length ≤ i + 5 := by omega
                                    conv => whnf
                                    refine ⟨[0, 4], [2, 4, 5, 6, 7], [0, 1], fun vs2 => ?_⟩
                                    conv => whnf
                                    refine ⟨fun _ _ => rfl, isC_pure _, ?_⟩
                                    conv => whnf
                                    refine ⟨_, _, ?_, ?_, ⟨(i + 1, oa, vs2), hI.step (hi := hil) hng hod hv2 hol2⟩, (by omega : (cutS s dash).size - (i + 1) < (cutS s dash).size - i), rfl, rfl⟩
                                    · exact ⟨fun _ => rfl, fun _ => rfl, fun _ => rfl, fun _ => rfl, fun _ => rfl, fun _ => rfl, fun _ => rfl, sint_eq (wrap_suc hI_le) _ _, fun _ => rfl, fun _ => rfl, fun _ => rfl, fun _ => rfl, fun _ => rfl, fun _ => rfl, fun _ => rfl, fun _ => rfl, fun _ => rfl, fun _ => rfl, fun _ => rfl, fun _ => rfl, fun _ => rfl, fun _ => rfl, fun _ => rfl, fun _ => rfl, fun _ => rfl, fun _ => rfl, fun _ => rfl, fun _ => rfl, fun _ => rfl, fun _ => rfl, fun _ => rfl, fun _ => rfl, fun _ => rfl, fun _ => rfl, fun _ => rfl, fun _ => rfl, fun _ => rfl, fun _ => rfl, fun _ => rfl, fun _ => rfl, fun _ => rfl, fun _ => rfl, fun _ => rfl, fun _ => rfl, fun _ => rfl, fun _ => rfl, fun _ => rfl, fun _ => rfl, fun _ => rfl, fun _ => rfl, fun _ => rfl, fun _ => rfl, trivial⟩
                                    · exact ⟨⟨rfl, rfl, rfl, fun _ => rfl⟩, ⟨rfl, rfl, rfl, fun _ => rfl⟩, trivial⟩
                        · conv => whnf
                          exact hmg.1
                      · refine ⟨?_, ?_, trivial⟩
                        · clear hmg
                          conv => whnf
                          refine ⟨⟨isC_pure _, trivial⟩, ⟨_, _, _, _, _, _, _, x.l, 10, _, _, rfl, rfl, rfl, IAt.ow x, hI.dl, Nat.le_trans hxl (by decide), by decide, rfl, fun om _ hom => ?_⟩⟩
                          have homl := hI.by10 hom
                          have homd := rdl_eq hom
                          conv => whnf
                          refine ⟨?_, trivial⟩
                          · conv => whnf
                            refine ⟨?_, trivial⟩
                            · conv => whnf
                              conv =>
                                arg 2
                                tactic' =>
                                  apply eff_index_chr (i := i) (c := ((cutS s dash).data.toList[i]'hil)) (ho := ?how11) (hT := ?hTw11) (hx := ?hxw11) (hk := ?hkw11) (hlt := ?hltw11) (hc := ?hcw11)
                                  case how11 => rfl
                                  case hTw11 => rfl
                                  case hxw11 => rfl
                                  case hkw11 => rfl
                                  case hltw11 => exact hlt
                                  case hcw11 => exact at_list hil
                              conv => whnf
                              conv => whnf
                              refine ⟨?_, trivial⟩
                              · conv => whnf
                                refine ⟨?_, trivial⟩
                                · conv => whnf
                                  refine ⟨?_, trivial⟩
                                  · conv => whnf
                                    refine ⟨⟨fun _ _ => rfl, trivial⟩, ⟨_, _, _, _, _, _, _, [((cutS s dash).data.toList[i]'hil).toNat - 48], rfl, rfl, rfl, IAt.word hd16 e1, Dl.one (by rw [RB_eq]; exact hd16), fun h9 => ?_⟩⟩
                                    conv => whnf
                                    refine ⟨⟨isC_pure _, fun _ _ => rfl, trivial⟩, ⟨_, _, _, _, _, _, _, om.l, _, _, _, _, _, _, _, dig RB (val RB [((cutS s dash).data.toList[i]'hil).toNat - 48]), rfl, rfl, rfl, tlen_rdig (Dl.one (by rw [RB_eq]; exact hd16)), IAt.ow om, iat_dig (IAt.word hd16 e1) (Dl.one (by rw [RB_eq]; exact hd16)), homd, dig_Dl RB_two _, by omega, Nat.le_trans (tlen_le1 _) (by decide), fun oa _ hod hoa hol => ?_⟩⟩
                                    have hv2 : val RB oa.l = val RB x.l * 10 + (((cutS s dash).data.toList[i]'hil).toNat - 48) := by rw [hoa, hom, val_dig RB_two, val_dig RB_two]; simp [val]
                                    have htl1 := tlen_le1 (((cutS s dash).data.toList[i]'hil).toNat - 48)
                                    have hol2 : oa.l.length ≤ i + 5 := by omega
                                    conv => whnf
                                    refine ⟨[0, 4], [2, 4, 5, 6, 7], [0, 1], fun vs2 => ?_⟩
                                    conv => whnf
                                    refine ⟨fun _ _ => rfl, isC_pure _, ?_⟩
                                    conv => whnf
                                    refine ⟨_, _, ?_, ?_, ⟨(i + 1, oa, vs2), hI.step (hi := hil) hng hod hv2 hol2⟩, (by omega : (cutS s dash).size - (i + 1) < (cutS s dash).size - i), rfl, rfl⟩
                                    · exact ⟨fun _ => rfl, fun _ => rfl, fun _ => rfl, fun _ => rfl, fun _ => rfl, fun _ => rfl, fun _ => rfl, sint_eq (wrap_suc hI_le) _ _, fun _ => rfl, fun _ => rfl, fun _ => rfl, fun _ => rfl, fun _ => rfl, fun _ => rfl, fun _ => rfl, fun _ => rfl, fun _ => rfl, fun _ => rfl, fun _ => rfl, fun _ => rfl, fun _ => rfl, fun _ => rfl, fun _ => rfl, fun _ => rfl, fun _ => rfl, fun _ => rfl, fun _ => rfl, fun _ => rfl, fun _ => rfl, fun _ => rfl, fun _ => rfl, fun _ => rfl, fun _ => rfl, fun _ => rfl, fun _ => rfl, fun _ => rfl, fun _ => rfl, fun _ => rfl, fun _ => rfl, fun _ => rfl, fun _ => rfl, fun _ => rfl, fun _ => rfl, fun _ => rfl, fun _ => rfl, fun _ => rfl, fun _ => rfl, fun _ => rfl, fun _ => rfl, fun _ => rfl, fun _ => rfl, fun _ => rfl, trivial⟩
                                    · exact ⟨⟨rfl, rfl, rfl, fun _ => rfl⟩, ⟨rfl, rfl, rfl, fun _ => rfl⟩, trivial⟩
                        · conv => whnf
                          exact hmg.1
                      · refine ⟨?_, ?_, trivial⟩
                        · conv => whnf
                          exact hmg.1
                        · conv => whnf
                          conv =>
                            arg 2
                            tactic' =>
                              apply eff_index_chr (i := i) (c := ((cutS s dash).data.toList[i]'hil)) (ho := ?how11) (hT := ?hTw11) (hx := ?hxw11) (hk := ?hkw11) (hlt := ?hltw11) (hc := ?hcw11)
                              case how11 => rfl
                              case hTw11 => rfl
                              case hxw11 => rfl
                              case hkw11 => rfl
                              case hltw11 => exact hlt
                              case hcw11 => exact at_list hil
                          conv => whnf
                          conv => whnf
                          exact hmg.2
                    case nxt11 =>
                      refine imp_via (Z := ?Z12_0 ∧ ?Z12_1) (fun hmg => ?cur12) ?nxt12
                      case cur12 =>
                        refine ⟨?_, ?_⟩
                        · refine ⟨?_, ?_, trivial⟩
                          · clear hmg
                            conv => whnf
                            refine ⟨⟨isC_pure _, trivial⟩, ⟨_, _, _, _, _, _, _, x.l, 10, _, _, rfl, rfl, rfl, IAt.ow x, hI.dl, Nat.le_trans hxl (by decide), by decide, rfl, fun om _ hom => ?_⟩⟩
                            have homl := hI.by10 hom
                            have homd := rdl_eq hom
                            conv => whnf
                            refine ⟨?_, trivial⟩
                            · conv => whnf
                              conv =>
                                arg 2
                                tactic' =>
                                  apply eff_index_chr (i := i) (c := ((cutS s dash).data.toList[i]'hil)) (ho := ?how11) (hT := ?hTw11) (hx := ?hxw11) (hk := ?hkw11) (hlt := ?hltw11) (hc := ?hcw11)
                                  case how11 => rfl
                                  case hTw11 => rfl
                                  case hxw11 => rfl
                                  case hkw11 => rfl
                                  case hltw11 => exact hlt
                                  case hcw11 => exact at_list hil
                              conv => whnf
                              conv => whnf
                              refine ⟨?_, trivial⟩
                              · conv => whnf
                                refine ⟨?_, trivial⟩
                                · conv => whnf
                                  refine ⟨?_, trivial⟩
                                  · conv => whnf
                                    refine ⟨⟨fun _ _ => rfl, trivial⟩, ⟨_, _, _, _, _, _, _, [((cutS s dash).data.toList[i]'hil).toNat - 48], rfl, rfl, rfl, IAt.word hd16 e1, Dl.one (by rw [RB_eq]; exact hd16), fun h9 => ?_⟩⟩
                                    conv => whnf
                                    refine ⟨⟨isC_pure _, fun _ _ => rfl, trivial⟩, ⟨_, _, _, _, _, _, _, om.l, _, _, _, _, _, _, _, dig RB (val RB [((cutS s dash).data.toList[i]'hil).toNat - 48]), rfl, rfl, rfl, tlen_rdig (Dl.one (by rw [RB_eq]; exact hd16)), IAt.ow om, iat_dig (IAt.word hd16 e1) (Dl.one (by rw [RB_eq]; exact hd16)), homd, dig_Dl RB_two _, by omega, Nat.le_trans (tlen_le1 _) (by decide), fun oa _ hod hoa hol => ?_⟩⟩
                                    have hv2 : val RB oa.l = val RB x.l * 10 + (((cutS s dash).data.toList[i]'hil).toNat - 48) := by rw [hoa, hom, val_dig RB_two, val_dig RB_two]; simp [val]
                                    have htl1 := tlen_le1 (((cutS s dash).data.toList[i]'hil).toNat - 48)
                                    have hol2 : oa.l.length ≤ i + 5 := by omega
                                    conv => whnf
                                    refine ⟨[0, 4], [2, 4, 5, 6, 7], [0, 1], fun vs2 => ?_⟩
                                    conv => whnf
                                    refine ⟨fun _ _ => rfl, isC_pure _, ?_⟩
                                    conv => whnf
                                    refine ⟨_, _, ?_, ?_, ⟨(i + 1, oa, vs2), hI.step (hi := hil) hng hod hv2 hol2⟩, (by omega : (cutS s dash).size - (i + 1) < (cutS s dash).size - i), rfl, rfl⟩
                                    · exact ⟨fun _ => rfl, fun _ => rfl, fun _ => rfl, fun _ => rfl, fun _ => rfl, fun _ => rfl, fun _ => rfl, sint_eq (wrap_suc hI_le) _ _, fun _ => rfl, fun _ => rfl, fun _ => rfl, fun _ => rfl, fun _ => rfl, fun _ => rfl, fun _ => rfl, fun _ => rfl, fun _ => rfl, fun _ => rfl, fun _ => rfl, fun _ => rfl, fun _ => rfl, fun _ => rfl, fun _ => rfl, fun _ => rfl, fun _ => rfl, fun _ => rfl, fun _ => rfl, fun _ => rfl, fun _ => rfl, fun _ => rfl, fun _ => rfl, fun _ => rfl, fun _ => rfl, fun _ => rfl, fun _ => rfl, fun _ => rfl, fun _ => rfl, fun _ => rfl, fun _ => rfl, fun _ => rfl, fun _ => rfl, fun _ => rfl, fun _ => rfl, fun _ => rfl, fun _ => rfl, fun _ => rfl, fun _ => rfl, fun _ => rfl, fun _ => rfl, fun _ => rfl, fun _ => rfl, fun _ => rfl, trivial⟩
                                    · exact ⟨⟨rfl, rfl, rfl, fun _ => rfl⟩, ⟨rfl, rfl, rfl, fun _ => rfl⟩, trivial⟩
                          · conv => whnf
                            conv =>
                              arg 2
                              tactic' =>
                                apply eff_index_chr (i := i) (c := ((cutS s dash).data.toList[i]'hil)) (ho := ?how11) (hT := ?hTw11) (hx := ?hxw11) (hk := ?hkw11) (hlt := ?hltw11) (hc := ?hcw11)
                                case how11 => rfl
                                case hTw11 => rfl
                                case hxw11 => rfl
                                case hkw11 => rfl
                                case hltw11 => exact hlt
                                case hcw11 => exact at_list hil
                            conv => whnf
                            conv => whnf
                            exact hmg.1
                        · refine ⟨?_, ?_, trivial⟩
                          · conv => whnf
                            exact hmg.1
                          · conv => whnf
                            exact hmg.2
                      case nxt12 =>
                        refine imp_via (Z := ?Z13_0 ∧ ?Z13_1) (fun hmg => ?cur13) ?nxt13
                        case cur13 =>
                          refine ⟨?_, ?_⟩
                          · refine ⟨?_, ?_, trivial⟩
                            · clear hmg
                              conv => whnf
                              refine ⟨⟨isC_pure _, trivial⟩, ⟨_, _, _, _, _, _, _, x.l, 10, _, _, rfl, rfl, rfl, IAt.ow x, hI.dl, Nat.le_trans hxl (by decide), by decide, rfl, fun om _ hom => ?_⟩⟩
                              have homl := hI.by10 hom
                              have homd := rdl_eq hom
                              conv => whnf
                              refine ⟨?_, trivial⟩
                              · conv => whnf
                                refine ⟨?_, trivial⟩
                                · conv => whnf
                                  refine ⟨?_, trivial⟩
                                  · conv => whnf
                                    refine ⟨⟨fun _ _ => rfl, trivial⟩, ⟨_, _, _, _, _, _, _, [((cutS s dash).data.toList[i]'hil).toNat - 48], rfl, rfl, rfl, IAt.word hd16 e1, Dl.one (by rw [RB_eq]; exact hd16), fun h9 => ?_⟩⟩
                                    conv => whnf
                                    refine ⟨⟨isC_pure _, fun _ _ => rfl, trivial⟩, ⟨_, _, _, _, _, _, _, om.l, _, _, _, _, _, _, _, dig RB (val RB [((cutS s dash).data.toList[i]'hil).toNat - 48]), rfl, rfl, rfl, tlen_rdig (Dl.one (by rw [RB_eq]; exact hd16)), IAt.ow om, iat_dig (IAt.word hd16 e1) (Dl.one (by rw [RB_eq]; exact hd16)), homd, dig_Dl RB_two _, by omega, Nat.le_trans (tlen_le1 _) (by decide), fun oa _ hod hoa hol => ?_⟩⟩
                                    have hv2 : val RB oa.l = val RB x.l * 10 + (((cutS s dash).data.toList[i]'hil).toNat - 48) := by rw [hoa, hom, val_dig RB_two, val_dig RB_two]; simp [val]
                                    have htl1 := tlen_le1 (((cutS s dash).data.toList[i]'hil).toNat - 48)
                                    have hol2 : oa.l.length ≤ i + 5 := by omega
                                    conv => whnf
                                    refine ⟨[0, 4], [2, 4, 5, 6, 7], [0, 1], fun vs2 => ?_⟩
                                    conv => whnf
                                    refine ⟨fun _ _ => rfl, isC_pure _, ?_⟩
                                    conv => whnf
                                    refine ⟨_, _, ?_, ?_, ⟨(i + 1, oa, vs2), hI.step (hi := hil) hng hod hv2 hol2⟩, (by omega : (cutS s dash).size - (i + 1) < (cutS s dash).size - i), rfl, rfl⟩
                                    · exact ⟨fun _ => rfl, fun _ => rfl, fun _ => rfl, fun _ => rfl, fun _ => rfl, fun _ => rfl, fun _ => rfl, sint_eq (wrap_suc hI_le) _ _, fun _ => rfl, fun _ => rfl, fun _ => rfl, fun _ => rfl, fun _ => rfl, fun _ => rfl, fun _ => rfl, fun _ => rfl, fun _ => rfl, fun _ => rfl, fun _ => rfl, fun _ => rfl, fun _ => rfl, fun _ => rfl, fun _ => rfl, fun _ => rfl, fun _ => rfl, fun _ => rfl, fun _ => rfl, fun _ => rfl, fun _ => rfl, fun _ => rfl, fun _ => rfl, fun _ => rfl, fun _ => rfl, fun _ => rfl, fun _ => rfl, fun _ => rfl, fun _ => rfl, fun _ => rfl, fun _ => rfl, fun _ => rfl, fun _ => rfl, fun _ => rfl, fun _ => rfl, fun _ => rfl, fun _ => rfl, fun _ => rfl, fun _ => rfl, fun _ => rfl, fun _ => rfl, fun _ => rfl, fun _ => rfl, fun _ => rfl, trivial⟩
                                    · exact ⟨⟨rfl, rfl, rfl, fun _ => rfl⟩, ⟨rfl, rfl, rfl, fun _ => rfl⟩, trivial⟩
                            · conv => whnf
                              exact hmg.1
                          · refine ⟨?_, ?_, trivial⟩
                            · conv => whnf
                              exact hmg.1
                            · conv => whnf
                              exact hmg.2
                        case nxt13 =>
                          refine imp_via (Z := ?Z14_0 ∧ ?Z14_1) (fun hmg => ?cur14) ?nxt14
                          case cur14 =>
                            refine ⟨?_, ?_⟩
                            · refine ⟨?_, ?_, trivial⟩
                              · clear hmg
                                conv => whnf
                                refine ⟨⟨isC_pure _, trivial⟩, ⟨_, _, _, _, _, _, _, x.l, 10, _, _, rfl, rfl, rfl, IAt.ow x, hI.dl, Nat.le_trans hxl (by decide), by decide, rfl, fun om _ hom => ?_⟩⟩
                                have homl := hI.by10 hom
                                have homd := rdl_eq hom
                                conv => whnf
                                refine ⟨?_, trivial⟩
                                · conv => whnf
                                  refine ⟨?_, trivial⟩
                                  · conv => whnf
                                    refine ⟨⟨fun _ _ => rfl, trivial⟩, ⟨_, _, _, _, _, _, _, [((cutS s dash).data.toList[i]'hil).toNat - 48], rfl, rfl, rfl, IAt.word hd16 e1, Dl.one (by rw [RB_eq]; exact hd16), fun h9 => ?_⟩⟩
                                    conv => whnf
                                    refine ⟨⟨isC_pure _, fun _ _ => rfl, trivial⟩, ⟨_, _, _, _, _, _, _, om.l, _, _, _, _, _, _, _, dig RB (val RB [((cutS s dash).data.toList[i]'hil).toNat - 48]), rfl, rfl, rfl, tlen_rdig (Dl.one (by rw [RB_eq]; exact hd16)), IAt.ow om, iat_dig (IAt.word hd16 e1) (Dl.one (by rw [RB_eq]; exact hd16)), homd, dig_Dl RB_two _, by omega, Nat.le_trans (tlen_le1 _) (by decide), fun oa _ hod hoa hol => ?_⟩⟩
                                    have hv2 : val RB oa.l = val RB x.l * 10 + (((cutS s dash).data.toList[i]'hil).toNat - 48) := by rw [hoa, hom, val_dig RB_two, val_dig RB_two]; simp [val]
                                    have htl1 := tlen_le1 (((cutS s dash).data.toList[i]'hil).toNat - 48)
                                    have hol2 : oa.l.length ≤ i + 5 := by omega
                                    conv => whnf
                                    refine ⟨[0, 4], [2, 4, 5, 6, 7], [0, 1], fun vs2 => ?_⟩
                                    conv => whnf
                                    refine ⟨fun _ _ => rfl, isC_pure _, ?_⟩
                                    conv => whnf
                                    refine ⟨_, _, ?_, ?_, ⟨(i + 1, oa, vs2), hI.step (hi := hil) hng hod hv2 hol2⟩, (by omega : (cutS s dash).size - (i + 1) < (cutS s dash).size - i), rfl, rfl⟩
                                    · exact ⟨fun _ => rfl, fun _ => rfl, fun _ => rfl, fun _ => rfl, fun _ => rfl, fun _ => rfl, fun _ => rfl, sint_eq (wrap_suc hI_le) _ _, fun _ => rfl, fun _ => rfl, fun _ => rfl, fun _ => rfl, fun _ => rfl, fun _ => rfl, fun _ => rfl, fun _ => rfl, fun _ => rfl, fun _ => rfl, fun _ => rfl, fun _ => rfl, fun _ => rfl, fun _ => rfl, fun _ => rfl, fun _ => rfl, fun _ => rfl, fun _ => rfl, fun _ => rfl, fun _ => rfl, fun _ => rfl, fun _ => rfl, fun _ => rfl, fun _ => rfl, fun _ => rfl, fun _ => rfl, fun _ => rfl, fun _ => rfl, fun _ => rfl, fun _ => rfl, fun _ => rfl, fun _ => rfl, fun _ => rfl, fun _ => rfl, fun _ => rfl, fun _ => rfl, fun _ => rfl, fun _ => rfl, fun _ => rfl, fun _ => rfl, fun _ => rfl, fun _ => rfl, fun _ => rfl, fun _ => rfl, trivial⟩
                                    · exact ⟨⟨rfl, rfl, rfl, fun _ => rfl⟩, ⟨rfl, rfl, rfl, fun _ => rfl⟩, trivial⟩
                              · conv => whnf
                                exact hmg.1
                            · refine ⟨?_, ?_, trivial⟩
                              · conv => whnf
                                exact hmg.1
                              · conv => whnf
                                exact hmg.2
                          case nxt14 =>
                            refine imp_via (Z := ?Z15_0) (fun hmg => ?cur15) ?nxt15
                            case cur15 =>
                              refine ⟨?_, ?_⟩
                              · refine ⟨?_, ?_, trivial⟩
                                · clear hmg
                                  conv => whnf
                                  refine ⟨⟨isC_pure _, trivial⟩, ⟨_, _, _, _, _, _, _, x.l, 10, _, _, rfl, rfl, rfl, IAt.ow x, hI.dl, Nat.le_trans hxl (by decide), by decide, rfl, fun om _ hom => ?_⟩⟩
                                  have homl := hI.by10 hom
                                  have homd := rdl_eq hom
                                  conv => whnf
                                  refine ⟨?_, trivial⟩
                                  · conv => whnf
                                    refine ⟨⟨fun _ _ => rfl, trivial⟩, ⟨_, _, _, _, _, _, _, [((cutS s dash).data.toList[i]'hil).toNat - 48], rfl, rfl, rfl, IAt.word hd16 e1, Dl.one (by rw [RB_eq]; exact hd16), fun h9 => ?_⟩⟩
                                    conv => whnf
                                    refine ⟨⟨isC_pure _, fun _ _ => rfl, trivial⟩, ⟨_, _, _, _, _, _, _, om.l, _, _, _, _, _, _, _, dig RB (val RB [((cutS s dash).data.toList[i]'hil).toNat - 48]), rfl, rfl, rfl, tlen_rdig (Dl.one (by rw [RB_eq]; exact hd16)), IAt.ow om, iat_dig (IAt.word hd16 e1) (Dl.one (by rw [RB_eq]; exact hd16)), homd, dig_Dl RB_two _, by omega, Nat.le_trans (tlen_le1 _) (by decide), fun oa _ hod hoa hol => ?_⟩⟩
                                    have hv2 : val RB oa.l = val RB x.l * 10 + (((cutS s dash).data.toList[i]'hil).toNat - 48) := by rw [hoa, hom, val_dig RB_two, val_dig RB_two]; simp [val]
                                    have htl1 := tlen_le1 (((cutS s dash).data.toList[i]'hil).toNat - 48)
                                    have hol2 : oa.l.length ≤ i + 5 := by omega
                                    conv => whnf
                                    refine ⟨[0, 4], [2, 4, 5, 6, 7], [0, 1], fun vs2 => ?_⟩
                                    conv => whnf
                                    refine ⟨fun _ _ => rfl, isC_pure _, ?_⟩
                                    conv => whnf
                                    refine ⟨_, _, ?_, ?_, ⟨(i + 1, oa, vs2), hI.step (hi := hil) hng hod hv2 hol2⟩, (by omega : (cutS s dash).size - (i + 1) < (cutS s dash).size - i), rfl, rfl⟩
                                    · exact ⟨fun _ => rfl, fun _ => rfl, fun _ => rfl, fun _ => rfl, fun _ => rfl, fun _ => rfl, fun _ => rfl, sint_eq (wrap_suc hI_le) _ _, fun _ => rfl, fun _ => rfl, fun _ => rfl, fun _ => rfl, fun _ => rfl, fun _ => rfl, fun _ => rfl, fun _ => rfl, fun _ => rfl, fun _ => rfl, fun _ => rfl, fun _ => rfl, fun _ => rfl, fun _ => rfl, fun _ => rfl, fun _ => rfl, fun _ => rfl, fun _ => rfl, fun _ => rfl, fun _ => rfl, fun _ => rfl, fun _ => rfl, fun _ => rfl, fun _ => rfl, fun _ => rfl, fun _ => rfl, fun _ => rfl, fun _ => rfl, fun _ => rfl, fun _ => rfl, fun _ => rfl, fun _ => rfl, fun _ => rfl, fun _ => rfl, fun _ => rfl, fun _ => rfl, fun _ => rfl, fun _ => rfl, fun _ => rfl, fun _ => rfl, fun _ => rfl, fun _ => rfl, fun _ => rfl, fun _ => rfl, trivial⟩
                                    · exact ⟨⟨rfl, rfl, rfl, fun _ => rfl⟩, ⟨rfl, rfl, rfl, fun _ => rfl⟩, trivial⟩
                                · conv => whnf
                                  exact hmg
                              · refine ⟨?_, trivial⟩
                                · conv => whnf
                                  exact hmg
                            case nxt15 =>
                              refine ⟨?_, trivial⟩
                              · conv => whnf
                                refine ⟨⟨isC_pure _, trivial⟩, ⟨_, _, _, _, _, _, _, x.l, 10, _, _, rfl, rfl, rfl, IAt.ow x, hI.dl, Nat.le_trans hxl (by decide), by decide, rfl, fun om _ hom => ?_⟩⟩
                                have homl := hI.by10 hom
                                have homd := rdl_eq hom
                                conv => whnf
                                refine ⟨⟨fun _ _ => rfl, trivial⟩, ⟨_, _, _, _, _, _, _, [((cutS s dash).data.toList[i]'hil).toNat - 48], rfl, rfl, rfl, IAt.word hd16 e1, Dl.one (by rw [RB_eq]; exact hd16), fun h9 => ?_⟩⟩
                                conv => whnf
                                refine ⟨⟨isC_pure _, fun _ _ => rfl, trivial⟩, ⟨_, _, _, _, _, _, _, om.l, _, _, _, _, _, _, _, dig RB (val RB [((cutS s dash).data.toList[i]'hil).toNat - 48]), rfl, rfl, rfl, tlen_rdig (Dl.one (by rw [RB_eq]; exact hd16)), IAt.ow om, iat_dig (IAt.word hd16 e1) (Dl.one (by rw [RB_eq]; exact hd16)), homd, dig_Dl RB_two _, by omega, Nat.le_trans (tlen_le1 _) (by decide), fun oa _ hod hoa hol => ?_⟩⟩
                                have hv2 : val RB oa.l = val RB x.l * 10 + (((cutS s dash).data.toList[i]'hil).toNat - 48) := by rw [hoa, hom, val_dig RB_two, val_dig RB_two]; simp [val]
                                have htl1 := tlen_le1 (((cutS s dash).data.toList[i]'hil).toNat - 48)
                                have hol2 : oa.l.length ≤ i + 5 := by omega
                                conv => whnf
                                refine ⟨[0, 4], [2, 4, 5, 6, 7], [0, 1], fun vs2 => ?_⟩
                                conv => whnf
                                refine ⟨fun _ _ => rfl, isC_pure _, ?_⟩
                                conv => whnf
                                refine ⟨_, _, ?_, ?_, ⟨(i + 1, oa, vs2), hI.step (hi := hil) hng hod hv2 hol2⟩, (by omega : (cutS s dash).size - (i + 1) < (cutS s dash).size - i), rfl, rfl⟩
                                · exact ⟨fun _ => rfl, fun _ => rfl, fun _ => rfl, fun _ => rfl, fun _ => rfl, fun _ => rfl, fun _ => rfl, sint_eq (wrap_suc hI_le) _ _, fun _ => rfl, fun _ => rfl, fun _ => rfl, fun _ => rfl, fun _ => rfl, fun _ => rfl, fun _ => rfl, fun _ => rfl, fun _ => rfl, fun _ => rfl, fun _ => rfl, fun _ => rfl, fun _ => rfl, fun _ => rfl, fun _ => rfl, fun _ => rfl, fun _ => rfl, fun _ => rfl, fun _ => rfl, fun _ => rfl, fun _ => rfl, fun _ => rfl, fun _ => rfl, fun _ => rfl, fun _ => rfl, fun _ => rfl, fun _ => rfl, fun _ => rfl, fun _ => rfl, fun _ => rfl, fun _ => rfl, fun _ => rfl, fun _ => rfl, fun _ => rfl, fun _ => rfl, fun _ => rfl, fun _ => rfl, fun _ => rfl, fun _ => rfl, fun _ => rfl, fun _ => rfl, fun _ => rfl, fun _ => rfl, fun _ => rfl, trivial⟩
                                · exact ⟨⟨rfl, rfl, rfl, fun _ => rfl⟩, ⟨rfl, rfl, rfl, fun _ => rfl⟩, trivial⟩
          · have hke : i = (cutS s dash).data.toList.length := Nat.le_antisymm hI.hi (by rw [Array.length_toList]; exact n_ge hlt)
            have hn : parseG 0 (cutS s dash).data.toList = some (val RB x.l) := by
              have := hI.hp
              rwa [hke, List.drop_of_length_le (Nat.le_refl _)] at this
            conv => whnf
            refine ⟨⟨x.l, IAt.ow x, rfl, hI.dl, Nat.le_trans hxl (by decide)⟩, ?_⟩
            conv => whnf
            obtain ⟨hz1, hz2, hz3⟩ := par_some hs10 hn
            refine fun ρ => tup2_sv ?_ (bool_t1 hz3 ρ)
            rw [isOf_oi x hI.dl]
            exact wv_agg _ hz1 hz2 ρ
    · have hl0 : s.size = 0 := by have := of_decide_eq_false hl; omega
      obtain ⟨hb1, hb2⟩ := cut_none hl0
      conv => whnf
      refine loop_st (G := {g : Nat × OI × (Nat → Value) // RParI (cutS s dash).data.toList g.1 g.2.1}) (fun g => (.c (.val (g.1.2.2 0)) :: .c (.val (g.1.2.2 1)) :: .c (.ptr 0 0) :: .c (.val (g.1.2.2 3)) :: .c (.val (.bool (cutB s dash))) :: .c (.val (.string (cutS s dash))) :: (g.1.2.1.sl 1) :: .c (.int (g.1.1 : Nat) (ir_nat (Nat.le_trans g.2.hi (Nat.le_trans hs10 (by decide))))) :: .c (.val (g.1.2.2 8)) :: .c (.val (g.1.2.2 9)) :: .c (.val (g.1.2.2 10)) :: .c (.val (g.1.2.2 11)) :: .c (.val (g.1.2.2 12)) :: .c (.val (g.1.2.2 13)) :: .c (.val (g.1.2.2 14)) :: .c (.val (g.1.2.2 15)) :: .c (.val (g.1.2.2 16)) :: .c (.val (g.1.2.2 17)) :: .c (.val (g.1.2.2 18)) :: .c (.val (g.1.2.2 19)) :: .c (.val (g.1.2.2 20)) :: .c (.val (g.1.2.2 21)) :: .c (.val (g.1.2.2 22)) :: .c (.val (g.1.2.2 23)) :: .c (.val (g.1.2.2 24)) :: .c (.val (g.1.2.2 25)) :: .c (.val (g.1.2.2 26)) :: .c (.val (g.1.2.2 27)) :: .c (.val (g.1.2.2 28)) :: .c (.val (g.1.2.2 29)) :: .c (.val (g.1.2.2 30)) :: .c (.val (g.1.2.2 31)) :: .c (.val (g.1.2.2 32)) :: .c (.val (g.1.2.2 33)) :: .c (.val (g.1.2.2 34)) :: .c (.val (g.1.2.2 35)) :: .c (.val (g.1.2.2 36)) :: .c (.val (g.1.2.2 37)) :: .c (.val (g.1.2.2 38)) :: .c (.val (g.1.2.2 39)) :: .c (.val (g.1.2.2 40)) :: .c (.val (g.1.2.2 41)) :: .c (.val (g.1.2.2 42)) :: .c (.val (g.1.2.2 43)) :: .c (.val (g.1.2.2 44)) :: .c (.val (g.1.2.2 45)) :: .c (.val (g.1.2.2 46)) :: .c (.val (g.1.2.2 47)) :: .c (.val (g.1.2.2 48)) :: .c (.val (g.1.2.2 49)) :: .c (.val (g.1.2.2 50)) :: .c (.val (g.1.2.2 51)) :: [])) (fun g => [⟨27, false, [.wid 0 0 (by unfold Sm; decide)], 0⟩, g.1.2.1.blk]) (fun g => (cutS s dash).size - g.1.1) ?_ ?_
      · refine ⟨[0, 1000 + 3], [2, 4, 5, 6, 7], [0, 1], fun vs => ?_⟩
        conv => whnf
        refine ⟨fun _ _ => rfl, ?_⟩
        conv => whnf
        refine ⟨_, _, ?_, ?_, ⟨(0, OI.nil, vs), RParI.start _⟩, rfl, rfl⟩
        · exact ⟨fun _ => rfl, fun _ => rfl, fun _ => rfl, fun _ => rfl, fun _ => congrArg Value.bool (hb1.symm), fun _ => congrArg Value.string (hb2.symm), fun _ => rfl, fun _ => rfl, fun _ => rfl, fun _ => rfl, fun _ => rfl, fun _ => rfl, fun _ => rfl, fun _ => rfl, fun _ => rfl, fun _ => rfl, fun _ => rfl, fun _ => rfl, fun _ => rfl, fun _ => rfl, fun _ => rfl, fun _ => rfl, fun _ => rfl, fun _ => rfl, fun _ => rfl, fun _ => rfl, fun _ => rfl, fun _ => rfl, fun _ => rfl, fun _ => rfl, fun _ => rfl, fun _ => rfl, fun _ => rfl, fun _ => rfl, fun _ => rfl, fun _ => rfl, fun _ => rfl, fun _ => rfl, fun _ => rfl, fun _ => rfl, fun _ => rfl, fun _ => rfl, fun _ => rfl, fun _ => rfl, fun _ => rfl, fun _ => rfl, fun _ => rfl, fun _ => rfl, fun _ => rfl, fun _ => rfl, fun _ => rfl, fun _ => rfl, trivial⟩
        · exact ⟨⟨rfl, rfl, rfl, fun _ => rfl⟩, ⟨rfl, rfl, rfl, fun _ => rfl⟩, trivial⟩
      · rintro ⟨⟨i, x, vs⟩, hI⟩
        have hI : RParI (cutS s dash).data.toList i x := hI
        have hilen := hI.hi
        have hI_le : i ≤ 10000 := Nat.le_trans hI.hi hs10
        have hxl : x.l.length ≤ 10004 := Nat.le_trans hI.len (Nat.add_le_add_right hI_le 4)
        conv => whnf
        conv =>
          arg 2
          tactic' =>
            apply eff_len_str (ho := ?how21) (hc := ?hcw21) (ha := ?haw21) (ht := ?htw21) (hT := ?hTw21) (hx := ?hxw21) (h := ?hw21)
            case how21 => rfl
            case hcw21 => rfl
            case haw21 => rfl
            case htw21 => rfl
            case hTw21 => rfl
            case hxw21 => rfl
            case hw21 => exact hsz2
        conv => whnf
        refine bcase_intro (fun hlt => ?_) (fun hlt => ?_)
        · have hlt : i < (cutS s dash).size := n_lt hlt
          have hil : i < (cutS s dash).data.toList.length := Nat.lt_of_lt_of_eq hlt Array.length_toList.symm
          conv => whnf
          conv =>
            arg 2
            tactic' =>
              apply eff_index_chr (i := i) (c := ((cutS s dash).data.toList[i]'hil)) (ho := ?how22) (hT := ?hTw22) (hx := ?hxw22) (hk := ?hkw22) (hlt := ?hltw22) (hc := ?hcw22)
              case how22 => rfl
              case hTw22 => rfl
              case hxw22 => rfl
              case hkw22 => rfl
              case hltw22 => exact hlt
              case hcw22 => exact at_list hil
          conv => whnf
          refine bcase_intro (fun hc1 => ?_) (fun hc1 => ?_)
          · have hc1 : ((cutS s dash).data.toList[i]'hil).toNat < 48 := lt_48 hc1
            have hn : parseG 0 (cutS s dash).data.toList = none := hI.bad (hi := hil) (.inl hc1)
            obtain ⟨hbz, hbo⟩ := par_none hn
            conv => whnf
            exact fun ρ => tup2_sv (wid_agg _ _ hbz ρ) (bool_t1 hbo ρ)
          · have hc1 : 48 ≤ ((cutS s dash).data.toList[i]'hil).toNat := nlt_48 hc1
            conv => whnf
            conv =>
              arg 2
              tactic' =>
                apply eff_index_chr (i := i) (c := ((cutS s dash).data.toList[i]'hil)) (ho := ?how23) (hT := ?hTw23) (hx := ?hxw23) (hk := ?hkw23) (hlt := ?hltw23) (hc := ?hcw23)
                case how23 => rfl
                case hTw23 => rfl
                case hxw23 => rfl
                case hkw23 => rfl
                case hltw23 => exact hlt
                case hcw23 => exact at_list hil
            conv => whnf
            refine bcase_intro (fun hc2 => ?_) (fun hc2 => ?_)
            · have hc2 : 57 < ((cutS s dash).data.toList[i]'hil).toNat := gt_57 hc2
              have hn : parseG 0 (cutS s dash).data.toList = none := hI.bad (hi := hil) (.inr hc2)
              obtain ⟨hbz, hbo⟩ := par_none hn
              conv => whnf
              exact fun ρ => tup2_sv (wid_agg _ _ hbz ρ) (bool_t1 hbo ρ)
            · have hc2 : ((cutS s dash).data.toList[i]'hil).toNat ≤ 57 := ngt_57 hc2
              have hng : ¬ (((cutS s dash).data.toList[i]'hil).toNat < 48 ∨ 57 < ((cutS s dash).data.toList[i]'hil).toNat) := by omega
              have hd16 : ((cutS s dash).data.toList[i]'hil).toNat - 48 < 65536 := by omega
              have e1 := digit_i64 hc1
              conv => whnf
              refine imp_via (Z := ?Z17_0 ∧ ?Z17_1 ∧ ?Z17_2) (fun hmg => ?cur17) ?nxt17
              case cur17 =>
                refine ⟨?_, ?_, ?_, trivial⟩
                · conv => whnf
                  exact hmg.1
                · conv => whnf
                  exact hmg.2.1
                · conv => whnf
                  exact hmg.2.2
              case nxt17 =>
                refine imp_via (Z := ?Z18_0 ∧ ?Z18_1 ∧ ?Z18_2) (fun hmg => ?cur18) ?nxt18
                case cur18 =>
                  refine ⟨?_, ?_, ?_⟩
                  · refine ⟨?_, ?_, ?_, trivial⟩
                    · clear hmg
                      conv => whnf
                      refine ⟨⟨isC_pure _, trivial⟩, ⟨_, _, _, _, _, _, _, x.l, 10, _, _, rfl, rfl, rfl, IAt.ow x, hI.dl, Nat.le_trans hxl (by decide), by decide, rfl, fun om _ hom => ?_⟩⟩
                      have homl := hI.by10 hom
                      have homd := rdl_eq hom
                      conv => whnf
                      refine ⟨?_, ?_, trivial⟩
                      · conv => whnf
                        refine ⟨?_, trivial⟩
                        · conv => whnf
                          refine ⟨?_, trivial⟩
                          · conv => whnf
                            conv =>
                              arg 2
                              tactic' =>
                                apply eff_index_chr (i := i) (c := ((cutS s dash).data.toList[i]'hil)) (ho := ?how11) (hT := ?hTw11) (hx := ?hxw11) (hk := ?hkw11) (hlt := ?hltw11) (hc := ?hcw11)
                                case how11 => rfl
                                case hTw11 => rfl
                                case hxw11 => rfl
                                case hkw11 => rfl
                                case hltw11 => exact hlt
                                case hcw11 => exact at_list hil
                            conv => whnf
                            conv => whnf
                            refine ⟨?_, trivial⟩
                            · conv => whnf
                              refine ⟨?_, trivial⟩
                              · conv => whnf
                                refine ⟨?_, trivial⟩
                                · conv => whnf
                                  refine ⟨⟨fun _ _ => rfl, trivial⟩, ⟨_, _, _, _, _, _, _, [((cutS s dash).data.toList[i]'hil).toNat - 48], rfl, rfl, rfl, IAt.word hd16 e1, Dl.one (by rw [RB_eq]; exact hd16), fun h9 => ?_⟩⟩
                                  conv => whnf
                                  refine ⟨⟨isC_pure _, fun _ _ => rfl, trivial⟩, ⟨_, _, _, _, _, _, _, om.l, _, _, _, _, _, _, _, dig RB (val RB [((cutS s dash).data.toList[i]'hil).toNat - 48]), rfl, rfl, rfl, tlen_rdig (Dl.one (by rw [RB_eq]; exact hd16)), IAt.ow om, iat_dig (IAt.word hd16 e1) (Dl.one (by rw [RB_eq]; exact hd16)), homd, dig_Dl RB_two _, by omega, Nat.le_trans (tlen_le1 _) (by decide), fun oa _ hod hoa hol => ?_⟩⟩
                                  have hv2 : val RB oa.l = val RB x.l * 10 + (((cutS s dash).data.toList[i]'hil).toNat - 48) := by rw [hoa, hom, val_dig RB_two, val_dig RB_two]; simp [val]
                                  have htl1 := tlen_le1 (((cutS s dash).data.toList[i]'hil).toNat - 48)
                                  have hol2 : oa.l.length ≤ i + 5 := by omega
                                  conv => whnf
                                  refine ⟨[0, 4], [2, 4, 5, 6, 7], [0, 1], fun vs2 => ?_⟩
                                  conv => whnf
                                  refine ⟨fun _ _ => rfl, isC_pure _, ?_⟩
                                  conv => whnf
                                  refine ⟨_, _, ?_, ?_, ⟨(i + 1, oa, vs2), hI.step (hi := hil) hng hod hv2 hol2⟩, (by omega : (cutS s dash).size - (i + 1) < (cutS s dash).size - i), rfl, rfl⟩
                                  · exact ⟨fun _ => rfl, fun _ => rfl, fun _ => rfl, fun _ => rfl, fun _ => rfl, fun _ => rfl, fun _ => rfl, sint_eq (wrap_suc hI_le) _ _, fun _ => rfl, fun _ => rfl, fun _ => rfl, fun _ => rfl, fun _ => rfl, fun _ => rfl, fun _ => rfl, fun _ => rfl, fun _ => rfl, fun _ => rfl, fun _ => rfl, fun _ => rfl, fun _ => rfl, fun _ => rfl, fun _ => rfl, fun _ => rfl, fun _ => rfl, fun _ => rfl, fun _ => rfl, fun _ => rfl, fun _ => rfl, fun _ => rfl, fun _ => rfl, fun _ => rfl, fun _ => rfl, fun _ => rfl, fun _ => rfl, fun _ => rfl, fun _ => rfl, fun _ => rfl, fun _ => rfl, fun _ => rfl, fun _ => rfl, fun _ => rfl, fun _ => rfl, fun _ => rfl, fun _ => rfl, fun _ => rfl, fun _ => rfl, fun _ => rfl, fun _ => rfl, fun _ => rfl, fun _ => rfl, fun _ => rfl, trivial⟩
                                  · exact ⟨⟨rfl, rfl, rfl, fun _ => rfl⟩, ⟨rfl, rfl, rfl, fun _ => rfl⟩, trivial⟩
                      · conv => whnf
                        refine ⟨?_, trivial⟩
                        · conv => whnf
                          refine ⟨?_, trivial⟩
                          · conv => whnf
                            conv =>
                              arg 2
                              tactic' =>
                                apply eff_index_chr (i := i) (c := ((cutS s dash).data.toList[i]'hil)) (ho := ?how11) (hT := ?hTw11) (hx := ?hxw11) (hk := ?hkw11) (hlt := ?hltw11) (hc := ?hcw11)
                                case how11 => rfl
                                case hTw11 => rfl
                                case hxw11 => rfl
                                case hkw11 => rfl
                                case hltw11 => exact hlt
                                case hcw11 => exact at_list hil
                            conv => whnf
                            conv => whnf
                            refine ⟨?_, trivial⟩
                            · conv => whnf
                              refine ⟨?_, trivial⟩
                              · conv => whnf
                                refine ⟨?_, trivial⟩
                                · conv => whnf
                                  refine ⟨⟨fun _ _ => rfl, trivial⟩, ⟨_, _, _, _, _, _, _, [((cutS s dash).data.toList[i]'hil).toNat - 48], rfl, rfl, rfl, IAt.word hd16 e1, Dl.one (by rw [RB_eq]; exact hd16), fun h9 => ?_⟩⟩
                                  conv => whnf
                                  refine ⟨⟨isC_pure _, fun _ _ => rfl, trivial⟩, ⟨_, _, _, _, _, _, _, om.l, _, _, _, _, _, _, _, dig RB (val RB [((cutS s dash).data.toList[i]'hil).toNat - 48]), rfl, rfl, rfl, tlen_rdig (Dl.one (by rw [RB_eq]; exact hd16)), IAt.ow om, iat_dig (IAt.word hd16 e1) (Dl.one (by rw [RB_eq]; exact hd16)), homd, dig_Dl RB_two _, by omega, Nat.le_trans (tlen_le1 _) (by decide), fun oa _ hod hoa hol => ?_⟩⟩
                                  have hv2 : val RB oa.l = val RB x.l * 10 + (((cutS s dash).data.toList[i]'hil).toNat - 48) := by rw [hoa, hom, val_dig RB_two, val_dig RB_two]; simp [val]
                                  have htl1 := tlen_le1 (((cutS s dash).data.toList[i]'hil).toNat - 48)
                                  have hol2 : oa.l.length ≤ i + 5 := by omega
                                  conv => whnf
                                  refine ⟨[0, 4], [2, 4, 5, 6, 7], [0, 1], fun vs2 => ?_⟩
                                  conv => whnf
                                  refine ⟨fun _ _ => rfl, isC_pure _, ?_⟩
                                  conv => whnf
                                  refine ⟨_, _, ?_, ?_, ⟨(i + 1, oa, vs2), hI.step (hi := hil) hng hod hv2 hol2⟩, (by omega : (cutS s dash).size - (i + 1) < (cutS s dash).size - i), rfl, rfl⟩
                                  · exact ⟨fun _ => rfl, fun _ => rfl, fun _ => rfl, fun _ => rfl, fun _ => rfl, fun _ => rfl, fun _ => rfl, sint_eq (wrap_suc hI_le) _ _, fun _ => rfl, fun _ => rfl, fun _ => rfl, fun _ => rfl, fun _ => rfl, fun _ => rfl, fun _ => rfl, fun _ => rfl, fun _ => rfl, fun _ => rfl, fun _ => rfl, fun _ => rfl, fun _ => rfl, fun _ => rfl, fun _ => rfl, fun _ => rfl, fun _ => rfl, fun _ => rfl, fun _ => rfl, fun _ => rfl, fun _ => rfl, fun _ => rfl, fun _ => rfl, fun _ => rfl, fun _ => rfl, fun _ => rfl, fun _ => rfl, fun _ => rfl, fun _ => rfl, fun _ => rfl, fun _ => rfl, fun _ => rfl, fun _ => rfl, fun _ => rfl, fun _ => rfl, fun _ => rfl, fun _ => rfl, fun _ => rfl, fun _ => rfl, fun _ => rfl, fun _ => rfl, fun _ => rfl, fun _ => rfl, fun _ => rfl, trivial⟩
                                  · exact ⟨⟨rfl, rfl, rfl, fun _ => rfl⟩, ⟨rfl, rfl, rfl, fun _ => rfl⟩, trivial⟩
                    · conv => whnf
                      exact hmg.1
                    · conv => whnf
                      exact hmg.2.1
                  · refine ⟨?_, ?_, trivial⟩
                    · conv => whnf
                      exact hmg.1
                    · conv => whnf
                      exact hmg.2.2
                  · refine ⟨?_, ?_, trivial⟩
                    · conv => whnf
                      exact hmg.2.1
                    · conv => whnf
                      exact hmg.2.2
                case nxt18 =>
                  refine imp_via (Z := ?Z19_0 ∧ ?Z19_1) (fun hmg => ?cur19) ?nxt19
                  case cur19 =>
                    refine ⟨?_, ?_, ?_⟩
                    · refine ⟨?_, ?_, trivial⟩
                      · clear hmg
                        conv => whnf
                        refine ⟨⟨isC_pure _, trivial⟩, ⟨_, _, _, _, _, _, _, x.l, 10, _, _, rfl, rfl, rfl, IAt.ow x, hI.dl, Nat.le_trans hxl (by decide), by decide, rfl, fun om _ hom => ?_⟩⟩
                        have homl := hI.by10 hom
                        have homd := rdl_eq hom
                        conv => whnf
                        refine ⟨?_, trivial⟩
                        · conv => whnf
                          refine ⟨?_, trivial⟩
                          · conv => whnf
                            conv =>
                              arg 2
                              tactic' =>
                                apply eff_index_chr (i := i) (c := ((cutS s dash).data.toList[i]'hil)) (ho := ?how11) (hT := ?hTw11) (hx := ?hxw11) (hk := ?hkw11) (hlt := ?hltw11) (hc := ?hcw11)
                                case how11 => rfl
                                case hTw11 => rfl
                                case hxw11 => rfl
                                case hkw11 => rfl
                                case hltw11 => exact hlt
                                case hcw11 => exact at_list hil
                            conv => whnf
                            conv => whnf
                            refine ⟨?_, trivial⟩
                            · conv => whnf
                              refine ⟨?_, trivial⟩
                              · conv => whnf
                                refine ⟨?_, trivial⟩
                                · conv => whnf
                                  refine ⟨⟨fun _ _ => rfl, trivial⟩, ⟨_, _, _, _, _, _, _, [((cutS s dash).data.toList[i]'hil).toNat - 48], rfl, rfl, rfl, IAt.word hd16 e1, Dl.one (by rw [RB_eq]; exact hd16), fun h9 => ?_⟩⟩
                                  conv => whnf
                                  refine ⟨⟨isC_pure _, fun _ _ => rfl, trivial⟩, ⟨_, _, _, _, _, _, _, om.l, _, _, _, _, _, _, _, dig RB (val RB [((cutS s dash).data.toList[i]'hil).toNat - 48]), rfl, rfl, rfl, tlen_rdig (Dl.one (by rw [RB_eq]; exact hd16)), IAt.ow om, iat_dig (IAt.word hd16 e1) (Dl.one (by rw [RB_eq]; exact hd16)), homd, dig_Dl RB_two _, by omega, Nat.le_trans (tlen_le1 _) (by decide), fun oa _ hod hoa hol => ?_⟩⟩
                                  have hv2 : val RB oa.l = val RB x.l * 10 + (((cutS s dash).data.toList[i]'hil).toNat - 48) := by rw [hoa, hom, val_dig RB_two, val_dig RB_two]; simp [val]
                                  have htl1 := tlen_le1 (((cutS s dash).data.toList[i]'hil).toNat - 48)
                                  have hol2 : oa.l.length ≤ i + 5 := by omega
                                  conv => whnf
                                  refine ⟨[0, 4], [2, 4, 5, 6, 7], [0, 1], fun vs2 => ?_⟩
                                  conv => whnf
                                  refine ⟨fun _ _ => rfl, isC_pure _, ?_⟩
                                  conv => whnf
                                  refine ⟨_, _, ?_, ?_, ⟨(i + 1, oa, vs2), hI.step (hi := hil) hng hod hv2 hol2⟩, (by omega : (cutS s dash).size - (i + 1) < (cutS s dash).size - i), rfl, rfl⟩
                                  · exact ⟨fun _ => rfl, fun _ => rfl, fun _ => rfl, fun _ => rfl, fun _ => rfl, fun _ => rfl, fun _ => rfl, sint_eq (wrap_suc hI_le) _ _, fun _ => rfl, fun _ => rfl, fun _ => rfl, fun _ => rfl, fun _ => rfl, fun _ => rfl, fun _ => rfl, fun _ => rfl, fun _ => rfl, fun _ => rfl, fun _ => rfl, fun _ => rfl, fun _ => rfl, fun _ => rfl, fun _ => rfl, fun _ => rfl, fun _ => rfl, fun _ => rfl, fun _ => rfl, fun _ => rfl, fun _ => rfl, fun _ => rfl, fun _ => rfl, fun _ => rfl, fun _ => rfl, fun _ => rfl, fun _ => rfl, fun _ => rfl, fun _ => rfl, fun _ => rfl, fun _ => rfl, fun _ => rfl, fun _ => rfl, fun _ => rfl, fun _ => rfl, fun _ => rfl, fun _ => rfl, fun _ => rfl, fun _ => rfl, fun _ => rfl, fun _ => rfl, fun _ => rfl, fun _ => rfl, fun _ => rfl, trivial⟩
                                  · exact ⟨⟨rfl, rfl, rfl, fun _ => rfl⟩, ⟨rfl, rfl, rfl, fun _ => rfl⟩, trivial⟩
                      · conv => whnf
                        exact hmg.1
                    · refine ⟨?_, ?_, trivial⟩
                      · clear hmg
                        conv => whnf
                        refine ⟨⟨isC_pure _, trivial⟩, ⟨_, _, _, _, _, _, _, x.l, 10, _, _, rfl, rfl, rfl, IAt.ow x, hI.dl, Nat.le_trans hxl (by decide), by decide, rfl, fun om _ hom => ?_⟩⟩
                        have homl := hI.by10 hom
                        have homd := rdl_eq hom
                        conv => whnf
                        refine ⟨?_, trivial⟩
                        · conv => whnf
                          refine ⟨?_, trivial⟩
                          · conv => whnf
                            conv =>
                              arg 2
                              tactic' =>
                                apply eff_index_chr (i := i) (c := ((cutS s dash).data.toList[i]'hil)) (ho := ?how11) (hT := ?hTw11) (hx := ?hxw11) (hk := ?hkw11) (hlt := ?hltw11) (hc := ?hcw11)
                                case how11 => rfl
                                case hTw11 => rfl
                                case hxw11 => rfl
                                case hkw11 => rfl
                                case hltw11 => exact hlt
                                case hcw11 => exact at_list hil
                            conv => whnf
                            conv => whnf
                            refine ⟨?_, trivial⟩
                            · conv => whnf
                              refine ⟨?_, trivial⟩
                              · conv => whnf
                                refine ⟨?_, trivial⟩
                                · conv => whnf
                                  refine ⟨⟨fun _ _ => rfl, trivial⟩, ⟨_, _, _, _, _, _, _, [((cutS s dash).data.toList[i]'hil).toNat - 48], rfl, rfl, rfl, IAt.word hd16 e1, Dl.one (by rw [RB_eq]; exact hd16), fun h9 => ?_⟩⟩
                                  conv => whnf
                                  refine ⟨⟨isC_pure _, fun _ _ => rfl, trivial⟩, ⟨_, _, _, _, _, _, _, om.l, _, _, _, _, _, _, _, dig RB (val RB [((cutS s dash).data.toList[i]'hil).toNat - 48]), rfl, rfl, rfl, tlen_rdig (Dl.one (by rw [RB_eq]; exact hd16)), IAt.ow om, iat_dig (IAt.word hd16 e1) (Dl.one (by rw [RB_eq]; exact hd16)), homd, dig_Dl RB_two _, by omega, Nat.le_trans (tlen_le1 _) (by decide), fun oa _ hod hoa hol => ?_⟩⟩
                                  have hv2 : val RB oa.l = val RB x.l * 10 + (((cutS s dash).data.toList[i]'hil).toNat - 48) := by rw [hoa, hom, val_dig RB_two, val_dig RB_two]; simp [val]
                                  have htl1 := tlen_le1 (((cutS s dash).data.toList[i]'hil).toNat - 48)
                                  have hol2 : oa.l.length ≤ i + 5 := by omega
                                  conv => whnf
                                  refine ⟨[0, 4], [2, 4, 5, 6, 7], [0, 1], fun vs2 => ?_⟩
                                  conv => whnf
                                  refine ⟨fun _ _ => rfl, isC_pure _, ?_⟩
                                  conv => whnf
                                  refine ⟨_, _, ?_, ?_, ⟨(i + 1, oa, vs2), hI.step (hi := hil) hng hod hv2 hol2⟩, (by omega : (cutS s dash).size - (i + 1) < (cutS s dash).size - i), rfl, rfl⟩
                                  · exact ⟨fun _ => rfl, fun _ => rfl, fun _ => rfl, fun _ => rfl, fun _ => rfl, fun _ => rfl, fun _ => rfl, sint_eq (wrap_suc hI_le) _ _, fun _ => rfl, fun _ => rfl, fun _ => rfl, fun _ => rfl, fun _ => rfl, fun _ => rfl, fun _ => rfl, fun _ => rfl, fun _ => rfl, fun _ => rfl, fun _ => rfl, fun _ => rfl, fun _ => rfl, fun _ => rfl, fun _ => rfl, fun _ => rfl, fun _ => rfl, fun _ => rfl, fun _ => rfl, fun _ => rfl, fun _ => rfl, fun _ => rfl, fun _ => rfl, fun _ => rfl, fun _ => rfl, fun _ => rfl, fun _ => rfl, fun _ => rfl, fun _ => rfl, fun _ => rfl, fun _ => rfl, fun _ => rfl, fun _ => rfl, fun _ => rfl, fun _ => rfl, fun _ => rfl, fun _ => rfl, fun _ => rfl, fun _ => rfl, fun _ => rfl, fun _ => rfl, fun _ => rfl, fun _ => rfl, fun _ => rfl, trivial⟩
                                  · exact ⟨⟨rfl, rfl, rfl, fun _ => rfl⟩, ⟨rfl, rfl, rfl, fun _ => rfl⟩, trivial⟩
                      · conv => whnf
                        exact hmg.1
                    · refine ⟨?_, ?_, trivial⟩
                      · conv => whnf
                        exact hmg.1
                      · conv => whnf
                        conv =>
                          arg 2
                          tactic' =>
                            apply eff_index_chr (i := i) (c := ((cutS s dash).data.toList[i]'hil)) (ho := ?how11) (hT := ?hTw11) (hx := ?hxw11) (hk := ?hkw11) (hlt := ?hltw11) (hc := ?hcw11)
                            case how11 => rfl
                            case hTw11 => rfl
                            case hxw11 => rfl
                            case hkw11 => rfl
                            case hltw11 => exact hlt
                            case hcw11 => exact at_list hil
                        conv => whnf
                        conv => whnf
                        exact hmg.2
                  case nxt19 =>
                    refine imp_via (Z := ?Z20_0 ∧ ?Z20_1) (fun hmg => ?cur20) ?nxt20
                    case cur20 =>
                      refine ⟨?_, ?_⟩
                      · refine ⟨?_, ?_, trivial⟩
                        · clear hmg
                          conv => whnf
                          refine ⟨⟨isC_pure _, trivial⟩, ⟨_, _, _, _, _, _, _, x.l, 10, _, _, rfl, rfl, rfl, IAt.ow x, hI.dl, Nat.le_trans hxl (by decide), by decide, rfl, fun om _ hom => ?_⟩⟩
                          have homl := hI.by10 hom
                          have homd := rdl_eq hom
                          conv => whnf
                          refine ⟨?_, trivial⟩
                          · conv => whnf
                            conv =>
                              arg 2
                              tactic' =>
                                apply eff_index_chr (i := i) (c := ((cutS s dash).data.toList[i]'hil)) (ho := ?how11) (hT := ?hTw11) (hx := ?hxw11) (hk := ?hkw11) (hlt := ?hltw11) (hc := ?hcw11)
                                case how11 => rfl
                                case hTw11 => rfl
                                case hxw11 => rfl
                                case hkw11 => rfl
                                case hltw11 => exact hlt
                                case hcw11 => exact at_list hil
                            conv => whnf
                            conv => whnf
                            refine ⟨?_, trivial⟩
                            · conv => whnf
                              refine ⟨?_, trivial⟩
                              · conv => whnf
                                refine ⟨?_, trivial⟩
                                · conv => whnf
                                  refine ⟨⟨fun _ _ => rfl, trivial⟩, ⟨_, _, _, _, _, _, _, [((cutS s dash).data.toList[i]'hil).toNat - 48], rfl, rfl, rfl, IAt.word hd16 e1, Dl.one (by rw [RB_eq]; exact hd16), fun h9 => ?_⟩⟩
                                  conv => whnf
                                  refine ⟨⟨isC_pure _, fun _ _ => rfl, trivial⟩, ⟨_, _, _, _, _, _, _, om.l, _, _, _, _, _, _, _, dig RB (val RB [((cutS s dash).data.toList[i]'hil).toNat - 48]), rfl, rfl, rfl, tlen_rdig (Dl.one (by rw [RB_eq]; exact hd16)), IAt.ow om, iat_dig (IAt.word hd16 e1) (Dl.one (by rw [RB_eq]; exact hd16)), homd, dig_Dl RB_two _, by omega, Nat.le_trans (tlen_le1 _) (by decide), fun oa _ hod hoa hol => ?_⟩⟩
                                  have hv2 : val RB oa.l = val RB x.l * 10 + (((cutS s dash).data.toList[i]'hil).toNat - 48) := by rw [hoa, hom, val_dig RB_two, val_dig RB_two]; simp [val]
                                  have htl1 := tlen_le1 (((cutS s dash).data.toList[i]'hil).toNat - 48)
                                  have hol2 : oa.l.length ≤ i + 5 := by omega
                                  conv => whnf
                                  refine ⟨[0, 4], [2, 4, 5, 6, 7], [0, 1], fun vs2 => ?_⟩
                                  conv => whnf
                                  refine ⟨fun _ _ => rfl, isC_pure _, ?_⟩
                                  conv => whnf
                                  refine ⟨_, _, ?_, ?_, ⟨(i + 1, oa, vs2), hI.step (hi := hil) hng hod hv2 hol2⟩, (by omega : (cutS s dash).size - (i + 1) < (cutS s dash).size - i), rfl, rfl⟩
                                  · exact ⟨fun _ => rfl, fun _ => rfl, fun _ => rfl, fun _ => rfl, fun _ => rfl, fun _ => rfl, fun _ => rfl, sint_eq (wrap_suc hI_le) _ _, fun _ => rfl, fun _ => rfl, fun _ => rfl, fun _ => rfl, fun _ => rfl, fun _ => rfl, fun _ => rfl, fun _ => rfl, fun _ => rfl, fun _ => rfl, fun _ => rfl, fun _ => rfl, fun _ => rfl, fun _ => rfl, fun _ => rfl, fun _ => rfl, fun _ => rfl, fun _ => rfl, fun _ => rfl, fun _ => rfl, fun _ => rfl, fun _ => rfl, fun _ => rfl, fun _ => rfl, fun _ => rfl, fun _ => rfl, fun _ => rfl, fun _ => rfl, fun _ => rfl, fun _ => rfl, fun _ => rfl, fun _ => rfl, fun _ => rfl, fun _ => rfl, fun _ => rfl, fun _ => rfl, fun _ => rfl, fun _ => rfl, fun _ => rfl, fun _ => rfl, fun _ => rfl, fun _ => rfl, fun _ => rfl, fun _ => rfl, trivial⟩
                                  · exact ⟨⟨rfl, rfl, rfl, fun _ => rfl⟩, ⟨rfl, rfl, rfl, fun _ => rfl⟩, trivial⟩
                        · conv => whnf
                          conv =>
                            arg 2
                            tactic' =>
                              apply eff_index_chr (i := i) (c := ((cutS s dash).data.toList[i]'hil)) (ho := ?how11) (hT := ?hTw11) (hx := ?hxw11) (hk := ?hkw11) (hlt := ?hltw11) (hc := ?hcw11)
                              case how11 => rfl
                              case hTw11 => rfl
                              case hxw11 => rfl
                              case hkw11 => rfl
                              case hltw11 => exact hlt
                              case hcw11 => exact at_list hil
                          conv => whnf
                          conv => whnf
                          exact hmg.1
                      · refine ⟨?_, ?_, trivial⟩
                        · conv => whnf
                          exact hmg.1
                        · conv => whnf
                          exact hmg.2
                    case nxt20 =>
                      refine imp_via (Z := ?Z21_0 ∧ ?Z21_1) (fun hmg => ?cur21) ?nxt21
                      case cur21 =>
                        refine ⟨?_, ?_⟩
                        · refine ⟨?_, ?_, trivial⟩
                          · clear hmg
                            conv => whnf
                            refine ⟨⟨isC_pure _, trivial⟩, ⟨_, _, _, _, _, _, _, x.l, 10, _, _, rfl, rfl, rfl, IAt.ow x, hI.dl, Nat.le_trans hxl (by decide), by decide, rfl, fun om _ hom => ?_⟩⟩
                            have homl := hI.by10 hom
                            have homd := rdl_eq hom
                            conv => whnf
                            refine ⟨?_, trivial⟩
                            · conv => whnf
                              refine ⟨?_, trivial⟩
                              · conv => whnf
                                refine ⟨?_, trivial⟩
                                · conv => whnf
                                  refine ⟨⟨fun _ _ => rfl, trivial⟩, ⟨_, _, _, _, _, _, _, [((cutS s dash).data.toList[i]'hil).toNat - 48], rfl, rfl, rfl, IAt.word hd16 e1, Dl.one (by rw [RB_eq]; exact hd16), fun h9 => ?_⟩⟩
                                  conv => whnf
                                  refine ⟨⟨isC_pure _, fun _ _ => rfl, trivial⟩, ⟨_, _, _, _, _, _, _, om.l, _, _, _, _, _, _, _, dig RB (val RB [((cutS s dash).data.toList[i]'hil).toNat - 48]), rfl, rfl, rfl, tlen_rdig (Dl.one (by rw [RB_eq]; exact hd16)), IAt.ow om, iat_dig (IAt.word hd16 e1) (Dl.one (by rw [RB_eq]; exact hd16)), homd, dig_Dl RB_two _, by omega, Nat.le_trans (tlen_le1 _) (by decide), fun oa _ hod hoa hol => ?_⟩⟩
                                  have hv2 : val RB oa.l = val RB x.l * 10 + (((cutS s dash).data.toList[i]'hil).toNat - 48) := by rw [hoa, hom, val_dig RB_two, val_dig RB_two]; simp [val]
                                  have htl1 := tlen_le1 (((cutS s dash).data.toList[i]'hil).toNat - 48)
                                  have hol2 : oa.l.length ≤ i + 5 := by omega
                                  conv => whnf
                                  refine ⟨[0, 4], [2, 4, 5, 6, 7], [0, 1], fun vs2 => ?_⟩
                                  conv => whnf
                                  refine ⟨fun _ _ => rfl, isC_pure _, ?_⟩
                                  conv => whnf
                                  refine ⟨_, _, ?_, ?_, ⟨(i + 1, oa, vs2), hI.step (hi := hil) hng hod hv2 hol2⟩, (by omega : (cutS s dash).size - (i + 1) < (cutS s dash).size - i), rfl, rfl⟩
                                  · exact ⟨fun _ => rfl, fun _ => rfl, fun _ => rfl, fun _ => rfl, fun _ => rfl, fun _ => rfl, fun _ => rfl, sint_eq (wrap_suc hI_le) _ _, fun _ => rfl, fun _ => rfl, fun _ => rfl, fun _ => rfl, fun _ => rfl, fun _ => rfl, fun _ => rfl, fun _ => rfl, fun _ => rfl, fun _ => rfl, fun _ => rfl, fun _ => rfl, fun _ => rfl, fun _ => rfl, fun _ => rfl, fun _ => rfl, fun _ => rfl, fun _ => rfl, fun _ => rfl, fun _ => rfl, fun _ => rfl, fun _ => rfl, fun _ => rfl, fun _ => rfl, fun _ => rfl, fun _ => rfl, fun _ => rfl, fun _ => rfl, fun _ => rfl, fun _ => rfl, fun _ => rfl, fun _ => rfl, fun _ => rfl, fun _ => rfl, fun _ => rfl, fun _ => rfl, fun _ => rfl, fun _ => rfl, fun _ => rfl, fun _ => rfl, fun _ => rfl, fun _ => rfl, fun _ => rfl, fun _ => rfl, trivial⟩
                                  · exact ⟨⟨rfl, rfl, rfl, fun _ => rfl⟩, ⟨rfl, rfl, rfl, fun _ => rfl⟩, trivial⟩
                          · conv => whnf
                            exact hmg.1
                        · refine ⟨?_, ?_, trivial⟩
                          · conv => whnf
                            exact hmg.1
                          · conv => whnf
                            exact hmg.2
                      case nxt21 =>
                        refine imp_via (Z := ?Z22_0 ∧ ?Z22_1) (fun hmg => ?cur22) ?nxt22
                        case cur22 =>
                          refine ⟨?_, ?_⟩
                          · refine ⟨?_, ?_, trivial⟩
                            · clear hmg
                              conv => whnf
                              refine ⟨⟨isC_pure _, trivial⟩, ⟨_, _, _, _, _, _, _, x.l, 10, _, _, rfl, rfl, rfl, IAt.ow x, hI.dl, Nat.le_trans hxl (by decide), by decide, rfl, fun om _ hom => ?_⟩⟩
                              have homl := hI.by10 hom
                              have homd := rdl_eq hom
                              conv => whnf
                              refine ⟨?_, trivial⟩
                              · conv => whnf
                                refine ⟨?_, trivial⟩
                                · conv => whnf
                                  refine ⟨⟨fun _ _ => rfl, trivial⟩, ⟨_, _, _, _, _, _, _, [((cutS s dash).data.toList[i]'hil).toNat - 48], rfl, rfl, rfl, IAt.word hd16 e1, Dl.one (by rw [RB_eq]; exact hd16), fun h9 => ?_⟩⟩
                                  conv => whnf
                                  refine ⟨⟨isC_pure _, fun _ _ => rfl, trivial⟩, ⟨_, _, _, _, _, _, _, om.l, _, _, _, _, _, _, _, dig RB (val RB [((cutS s dash).data.toList[i]'hil).toNat - 48]), rfl, rfl, rfl, tlen_rdig (Dl.one (by rw [RB_eq]; exact hd16)), IAt.ow om, iat_dig (IAt.word hd16 e1) (Dl.one (by rw [RB_eq]; exact hd16)), homd, dig_Dl RB_two _, by omega, Nat.le_trans (tlen_le1 _) (by decide), fun oa _ hod hoa hol => ?_⟩⟩
                                  have hv2 : val RB oa.l = val RB x.l * 10 + (((cutS s dash).data.toList[i]'hil).toNat - 48) := by rw [hoa, hom, val_dig RB_two, val_dig RB_two]; simp [val]
                                  have htl1 := tlen_le1 (((cutS s dash).data.toList[i]'hil).toNat - 48)
                                  have hol2 : oa.l.length ≤ i + 5 := by omega
                                  conv => whnf
                                  refine ⟨[0, 4], [2, 4, 5, 6, 7], [0, 1], fun vs2 => ?_⟩
                                  conv => whnf
                                  refine ⟨fun _ _ => rfl, isC_pure _, ?_⟩
                                  conv => whnf
                                  refine ⟨_, _, ?_, ?_, ⟨(i + 1, oa, vs2), hI.step (hi := hil) hng hod hv2 hol2⟩, (by omega : (cutS s dash).size - (i + 1) < (cutS s dash).size - i), rfl, rfl⟩
                                  · exact ⟨fun _ => rfl, fun _ => rfl, fun _ => rfl, fun _ => rfl, fun _ => rfl, fun _ => rfl, fun _ => rfl, sint_eq (wrap_suc hI_le) _ _, fun _ => rfl, fun _ => rfl, fun _ => rfl, fun _ => rfl, fun _ => rfl, fun _ => rfl, fun _ => rfl, fun _ => rfl, fun _ => rfl, fun _ => rfl, fun _ => rfl, fun _ => rfl, fun _ => rfl, fun _ => rfl, fun _ => rfl, fun _ => rfl, fun _ => rfl, fun _ => rfl, fun _ => rfl, fun _ => rfl, fun _ => rfl, fun _ => rfl, fun _ => rfl, fun _ => rfl, fun _ => rfl, fun _ => rfl, fun _ => rfl, fun _ => rfl, fun _ => rfl, fun _ => rfl, fun _ => rfl, fun _ => rfl, fun _ => rfl, fun _ => rfl, fun _ => rfl, fun _ => rfl, fun _ => rfl, fun _ => rfl, fun _ => rfl, fun _ => rfl, fun _ => rfl, fun _ => rfl, fun _ => rfl, fun _ => rfl, trivial⟩
                                  · exact ⟨⟨rfl, rfl, rfl, fun _ => rfl⟩, ⟨rfl, rfl, rfl, fun _ => rfl⟩, trivial⟩
                            · conv => whnf
                              exact hmg.1
                          · refine ⟨?_, ?_, trivial⟩
                            · conv => whnf
                              exact hmg.1
                            · conv => whnf
                              exact hmg.2
                        case nxt22 =>
                          refine imp_via (Z := ?Z23_0) (fun hmg => ?cur23) ?nxt23
                          case cur23 =>
                            refine ⟨?_, ?_⟩
                            · refine ⟨?_, ?_, trivial⟩
                              · clear hmg
                                conv => whnf
                                refine ⟨⟨isC_pure _, trivial⟩, ⟨_, _, _, _, _, _, _, x.l, 10, _, _, rfl, rfl, rfl, IAt.ow x, hI.dl, Nat.le_trans hxl (by decide), by decide, rfl, fun om _ hom => ?_⟩⟩
                                have homl := hI.by10 hom
                                have homd := rdl_eq hom
                                conv => whnf
                                refine ⟨?_, trivial⟩
                                · conv => whnf
                                  refine ⟨⟨fun _ _ => rfl, trivial⟩, ⟨_, _, _, _, _, _, _, [((cutS s dash).data.toList[i]'hil).toNat - 48], rfl, rfl, rfl, IAt.word hd16 e1, Dl.one (by rw [RB_eq]; exact hd16), fun h9 => ?_⟩⟩
                                  conv => whnf
                                  refine ⟨⟨isC_pure _, fun _ _ => rfl, trivial⟩, ⟨_, _, _, _, _, _, _, om.l, _, _, _, _, _, _, _, dig RB (val RB [((cutS s dash).data.toList[i]'hil).toNat - 48]), rfl, rfl, rfl, tlen_rdig (Dl.one (by rw [RB_eq]; exact hd16)), IAt.ow om, iat_dig (IAt.word hd16 e1) (Dl.one (by rw [RB_eq]; exact hd16)), homd, dig_Dl RB_two _, by omega, Nat.le_trans (tlen_le1 _) (by decide), fun oa _ hod hoa hol => ?_⟩⟩
                                  have hv2 : val RB oa.l = val RB x.l * 10 + (((cutS s dash).data.toList[i]'hil).toNat - 48) := by rw [hoa, hom, val_dig RB_two, val_dig RB_two]; simp [val]
                                  have htl1 := tlen_le1 (((cutS s dash).data.toList[i]'hil).toNat - 48)
                                  have hol2 : oa.l.length ≤ i + 5 := by omega
                                  conv => whnf
                                  refine ⟨[0, 4], [2, 4, 5, 6, 7], [0, 1], fun vs2 => ?_⟩
                                  conv => whnf
                                  refine ⟨fun _ _ => rfl, isC_pure _, ?_⟩
                                  conv => whnf
                                  refine ⟨_, _, ?_, ?_, ⟨(i + 1, oa, vs2), hI.step (hi := hil) hng hod hv2 hol2⟩, (by omega : (cutS s dash).size - (i + 1) < (cutS s dash).size - i), rfl, rfl⟩
                                  · exact ⟨fun _ => rfl, fun _ => rfl, fun _ => rfl, fun _ => rfl, fun _ => rfl, fun _ => rfl, fun _ => rfl, sint_eq (wrap_suc hI_le) _ _, fun _ => rfl, fun _ => rfl, fun _ => rfl, fun _ => rfl, fun _ => rfl, fun _ => rfl, fun _ => rfl, fun _ => rfl, fun _ => rfl, fun _ => rfl, fun _ => rfl, fun _ => rfl, fun _ => rfl, fun _ => rfl, fun _ => rfl, fun _ => rfl, fun _ => rfl, fun _ => rfl, fun _ => rfl, fun _ => rfl, fun _ => rfl, fun _ => rfl, fun _ => rfl, fun _ => rfl, fun _ => rfl, fun _ => rfl, fun _ => rfl, fun _ => rfl, fun _ => rfl, fun _ => rfl, fun _ => rfl, fun _ => rfl, fun _ => rfl, fun _ => rfl, fun _ => rfl, fun _ => rfl, fun _ => rfl, fun _ => rfl, fun _ => rfl, fun _ => rfl, fun _ => rfl, fun _ => rfl, fun _ => rfl, fun _ => rfl, trivial⟩
                                  · exact ⟨⟨rfl, rfl, rfl, fun _ => rfl⟩, ⟨rfl, rfl, rfl, fun _ => rfl⟩, trivial⟩
                              · conv => whnf
                                exact hmg
                            · refine ⟨?_, trivial⟩
                              · conv => whnf
                                exact hmg
                          case nxt23 =>
                            refine ⟨?_, trivial⟩
                            · conv => whnf
                              refine ⟨⟨isC_pure _, trivial⟩, ⟨_, _, _, _, _, _, _, x.l, 10, _, _, rfl, rfl, rfl, IAt.ow x, hI.dl, Nat.le_trans hxl (by decide), by decide, rfl, fun om _ hom => ?_⟩⟩
                              have homl := hI.by10 hom
                              have homd := rdl_eq hom
                              conv => whnf
                              refine ⟨⟨fun _ _ => rfl, trivial⟩, ⟨_, _, _, _, _, _, _, [((cutS s dash).data.toList[i]'hil).toNat - 48], rfl, rfl, rfl, IAt.word hd16 e1, Dl.one (by rw [RB_eq]; exact hd16), fun h9 => ?_⟩⟩
                              conv => whnf
                              refine ⟨⟨isC_pure _, fun _ _ => rfl, trivial⟩, ⟨_, _, _, _, _, _, _, om.l, _, _, _, _, _, _, _, dig RB (val RB [((cutS s dash).data.toList[i]'hil).toNat - 48]), rfl, rfl, rfl, tlen_rdig (Dl.one (by rw [RB_eq]; exact hd16)), IAt.ow om, iat_dig (IAt.word hd16 e1) (Dl.one (by rw [RB_eq]; exact hd16)), homd, dig_Dl RB_two _, by omega, Nat.le_trans (tlen_le1 _) (by decide), fun oa _ hod hoa hol => ?_⟩⟩
                              have hv2 : val RB oa.l = val RB x.l * 10 + (((cutS s dash).data.toList[i]'hil).toNat - 48) := by rw [hoa, hom, val_dig RB_two, val_dig RB_two]; simp [val]
                              have htl1 := tlen_le1 (((cutS s dash).data.toList[i]'hil).toNat - 48)
                              have hol2 : oa.l.length ≤ i + 5 := by omega
                              conv => whnf
                              refine ⟨[0, 4], [2, 4, 5, 6, 7], [0, 1], fun vs2 => ?_⟩
                              conv => whnf
                              refine ⟨fun _ _ => rfl, isC_pure _, ?_⟩
                              conv => whnf
                              refine ⟨_, _, ?_, ?_, ⟨(i + 1, oa, vs2), hI.step (hi := hil) hng hod hv2 hol2⟩, (by omega : (cutS s dash).size - (i + 1) < (cutS s dash).size - i), rfl, rfl⟩
                              · exact ⟨fun _ => rfl, fun _ => rfl, fun _ => rfl, fun _ => rfl, fun _ => rfl, fun _ => rfl, fun _ => rfl, sint_eq (wrap_suc hI_le) _ _, fun _ => rfl, fun _ => rfl, fun _ => rfl, fun _ => rfl, fun _ => rfl, fun _ => rfl, fun _ => rfl, fun _ => rfl, fun _ => rfl, fun _ => rfl, fun _ => rfl, fun _ => rfl, fun _ => rfl, fun _ => rfl, fun _ => rfl, fun _ => rfl, fun _ => rfl, fun _ => rfl, fun _ => rfl, fun _ => rfl, fun _ => rfl, fun _ => rfl, fun _ => rfl, fun _ => rfl, fun _ => rfl, fun _ => rfl, fun _ => rfl, fun _ => rfl, fun _ => rfl, fun _ => rfl, fun _ => rfl, fun _ => rfl, fun _ => rfl, fun _ => rfl, fun _ => rfl, fun _ => rfl, fun _ => rfl, fun _ => rfl, fun _ => rfl, fun _ => rfl, fun _ => rfl, fun _ => rfl, fun _ => rfl, fun _ => rfl, trivial⟩
                              · exact ⟨⟨rfl, rfl, rfl, fun _ => rfl⟩, ⟨rfl, rfl, rfl, fun _ => rfl⟩, trivial⟩
        · have hke : i = (cutS s dash).data.toList.length := Nat.le_antisymm hI.hi (by rw [Array.length_toList]; exact n_ge hlt)
          have hn : parseG 0 (cutS s dash).data.toList = some (val RB x.l) := by
            have := hI.hp
            rwa [hke, List.drop_of_length_le (Nat.le_refl _)] at this
          conv => whnf
          refine ⟨⟨x.l, IAt.ow x, rfl, hI.dl, Nat.le_trans hxl (by decide)⟩, ?_⟩
          conv => whnf
          obtain ⟨hz1, hz2, hz3⟩ := par_some hs10 hn
          refine fun ρ => tup2_sv ?_ (bool_t1 hz3 ρ)
          rw [isOf_oi x hI.dl]
          exact wv_agg _ hz1 hz2 ρ
  · cases hd
end Go.Proofs.YtbhcmajeoamloaaDoor
