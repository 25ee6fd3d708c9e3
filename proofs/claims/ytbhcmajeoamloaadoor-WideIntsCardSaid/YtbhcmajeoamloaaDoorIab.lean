/- Digits of the reference, by the reckoner: over. Digits of the reference, by the reckoner: over. The reference's Quo, by the reckoner. The reference's Gcd, by the reckoner. The reference's Root: its plain laws. The reference's Root, by the reckoner. The reference's Int, by the reckoner. -/
import Derived.Test.YtbhcmajeoamloaaDoorIaa
import Derived.Test.YtbhcmajeoamloaaDoorLwa
namespace Go.Proofs.YtbhcmajeoamloaaDoor
open Go.RowKit
set_option maxRecDepth 100000

/-- quotient and remainder of digits -/
def cOver : NewC := fun args ros K => ∃ nla offa lena capa ha tya csa la nlb offb lenb capb hb tyb csb n, args = [.c (.sli nla 0 offa lena capa ha), .c (.sli nlb 1 offb lenb capb hb)] ∧ ros = [⟨tya, true, csa, 0⟩, ⟨tyb, true, csb, 0⟩] ∧
  la.length = lena ∧ (dig RB n).length = lenb ∧ IAt csa offa la ∧ IAt csb offb (dig RB n) ∧ Dl RB la ∧ 0 < n ∧ lena ≤ 50000000 ∧ lenb ≤ 50000000 ∧ ∀ oq or : OI, oq.l = dig RB (val RB la / n) → or.l = dig RB (val RB la % n) → K (.tup [oq.t 2, or.t 3]) [oq.blk, or.blk]
structure OvI (la : List Nat) (n k : Nat) (lq : List Nat) (r : OI) : Prop where
  hk : k ≤ la.length
  ql : lq.length = la.length
  dq : Dl RB lq
  hr : r.l = dig RB (val RB r.l)
  lt : val RB r.l < n
  hv : val RB (la.drop k) = n * val RB (lq.drop k) + val RB r.l
theorem OvI.start {la : List Nat} {n : Nat} (hn : 0 < n) : OvI la n la.length (List.replicate la.length 0) OI.nil := ⟨Nat.le_refl _, List.length_replicate, Dl.replicate RB_pos _, by show [] = dig RB 0; rw [dig_zero], hn, by rw [List.drop_of_length_le (Nat.le_refl _), List.drop_of_length_le (by rw [List.length_replicate]; exact Nat.le_refl _)]; simp [val, OI.nil]⟩
theorem OvI.step {la lq : List Nat} {n k : Nat} {r o : OI} (h : OvI la n k lq r) (hk : 0 < k) (hn : 0 < n) {hj : k - 1 < la.length} (da : Dl RB la) {T low : Nat} (hT : T = la[k - 1] + RB * val RB r.l) (hl : low * n ≤ T) (hl2 : T < (low + 1) * n) (ho : o.l = dig RB (T - n * low)) : OvI la n (k - 1) (lq.set (k - 1) low) o ∧ low < 65536 := by
  have hx : la[k - 1] < RB := da.get _ hj
  have hq : T / n = low := by
    have h1 := Nat.div_lt_iff_lt_mul (x := T) (y := low + 1) hn
    have h2 := (Nat.le_div_iff_mul_le hn).2 hl
    have h3 := h1.2 hl2
    omega
  have hm : T - n * low = T % n := by rw [← hq]; have := Nat.div_add_mod T n; omega
  have hlow : low < RB := by
    rw [← hq, Nat.div_lt_iff_lt_mul hn, hT]
    have h1 : RB * (val RB r.l + 1) ≤ RB * n := Nat.mul_le_mul_left _ h.lt
    rw [Nat.mul_add] at h1
    omega
  have hs := small_step (B := RB) (d := n) hk h.hk (by rw [h.ql]; exact h.hk) h.hv
  rw [getD_get hj, show val RB r.l * RB + la[k - 1] = T by rw [hT, Nat.mul_comm]; omega, hq] at hs
  have hv : val RB o.l = T % n := by rw [ho, val_dig RB_two, hm]
  exact ⟨⟨by have := h.hk; omega, by rw [List.length_set]; exact h.ql, h.dq.set _ hlow, by rw [hv, ← hm]; exact ho, by rw [hv]; exact Nat.mod_lt _ hn, by rw [hv]; exact hs⟩, by rw [RB_eq] at hlow; exact hlow⟩
theorem OvI.last {la lq : List Nat} {n : Nat} {r : OI} (h : OvI la n 0 lq r) (hn : 0 < n) : val RB lq = val RB la / n ∧ val RB la % n = val RB r.l := by
  have hv := h.hv
  rw [List.drop_zero, List.drop_zero] at hv
  rw [hv, Nat.mul_add_div hn, Nat.div_eq_of_lt h.lt, Nat.mul_add_mod, Nat.mod_eq_of_lt h.lt]
  exact ⟨rfl, rfl⟩
structure BinI (T n low high : Nat) : Prop where
  lo : low * n ≤ T
  hi : T < high * n
  lt : low < high
  le : high ≤ 65536
theorem BinI.low {T n low high m : Nat} (h : BinI T n low high) (hm : m = (low + high) / 2) (h2 : 1 < high - low) (hle : m * n ≤ T) : BinI T n m high ∧ high - m < high - low := by
  have := h.lt
  exact ⟨⟨hle, h.hi, by omega, h.le⟩, by omega⟩
theorem BinI.high {T n low high m : Nat} (h : BinI T n low high) (hm : m = (low + high) / 2) (h2 : 1 < high - low) (hle : ¬ m * n ≤ T) : BinI T n low m ∧ m - low < high - low := by
  have := h.lt; have := h.le
  exact ⟨⟨h.lo, by omega, by omega, by omega⟩, by omega⟩
theorem BinI.done {T n low high : Nat} (h : BinI T n low high) (h2 : high - low ≤ 1) : low * n ≤ T ∧ T < (low + 1) * n := by
  have h3 := h.lt
  have : high = low + 1 := by omega
  rw [← this]
  exact ⟨h.lo, h.hi⟩
theorem bin_gt {low high : Nat} (hlt : low < high) (h2 : high ≤ 65536) (h : decide ((1 : Int) < IntKind.i64.wrap ((high : Int) - (low : Int))) = true) : 1 < high - low := by
  have := of_decide_eq_true h
  rw [wrap_id (by unfold IR; omega)] at this; omega
theorem bin_ngt {low high : Nat} (hlt : low < high) (h2 : high ≤ 65536) (h : decide ((1 : Int) < IntKind.i64.wrap ((high : Int) - (low : Int))) = false) : high - low ≤ 1 := by
  have := of_decide_eq_false h
  rw [wrap_id (by unfold IR; omega)] at this; omega
theorem bin_mid {low high : Nat} (h1 : low ≤ 65536) (h2 : high ≤ 65536) : IntKind.i64.wrap ((IntKind.i64.wrap ((low : Int) + (high : Int))).tdiv 2) = (((low + high) / 2 : Nat) : Int) := by
  rw [wrap_id (z := (low : Int) + (high : Int)) (by unfold IR; omega), Int.tdiv_eq_ediv_of_nonneg (by omega), wrap_id (by unfold IR; omega)]; omega
theorem cmpE_le {m n : Nat} : decide (cmpE m n ≤ 0) = decide (m ≤ n) := by
  unfold cmpE
  split
  · rename_i h; rw [decide_eq_true (by omega : m ≤ n)]; rfl
  · rename_i h
    split
    · rename_i h2; rw [decide_eq_false (by omega : ¬ m ≤ n)]; rfl
    · rename_i h2; rw [decide_eq_true (by omega : m ≤ n)]; rfl
theorem iat_cons {x : Nat} {z : Int} {hz : IR z} {l : List Nat} (hx : x < 65536) (e : z = x) : IAt ([C.int z hz] ++ isC l) 0 (x :: l) := by
  rw [show [C.int z hz] ++ isC l = isC (x :: l) from by rw [iC_eq hx e]; rfl]; exact IAt.mk' _
def overC : List (FuncId × NewC) := [(69, cBy), (62, cMinus), (70, cTrim)]
theorem overC_ok : AllC Tryd.prog overC := .cons csBy <| .cons csMinus <| .cons csTrim .nil
def rdC : List (FuncId × Dr) := [(61, dComp), (57, dRWideN)]
theorem rdC_ok : AllR rdC := .cons spComp <| .cons spRWideN .nil
end Go.Proofs.YtbhcmajeoamloaaDoor

namespace Go.Proofs.YtbhcmajeoamloaaDoor
open Go.RowKit
set_option maxRecDepth 100000

theorem IAt.cut {cs : List C} {off : Nat} {l : List Nat} (h : IAt cs off l) (k : Nat) : IAt cs off (l.take k) := by
  obtain ⟨hp, A, B, rfl, rfl⟩ := h
  refine ⟨hp, A, isC (l.drop k) ++ B, ?_, rfl⟩
  conv => lhs; rw [← List.take_append_drop k l]
  rw [isC_append, List.append_assoc]
theorem iat_dig {cs : List C} {off : Nat} {l : List Nat} (h : IAt cs off l) (hd : Dl RB l) : IAt cs off (dig RB (val RB l)) := by
  rw [← take_tlen RB_two hd]; exact h.cut _
theorem val_isOf {cs : List C} {off len m : Nat} (h : IAt cs off (dig RB m)) (hl : (dig RB m).length = len) : val RB (isOf cs off len) = m := by
  rw [← hl, isOf_eq h (dig_Dl RB_two m), val_dig RB_two]
theorem cmp_at {a b m n : Nat} (e1 : a = m) (e2 : b = n) : cmpE a b = cmpE m n := by subst e1 e2; rfl
theorem dec_lt {a b m n : Nat} {v : Bool} (e1 : a = m) (e2 : b = n) (h : decide (cmpE a b < 0) = v) : decide (m < n) = v := by subst e1 e2; exact cmpE_neg.symm.trans h
theorem dec_le {a b m n : Nat} {v : Bool} (e1 : a = m) (e2 : b = n) (h : decide (cmpE a b ≤ 0) = v) : decide (m ≤ n) = v := by subst e1 e2; exact cmpE_le.symm.trans h
theorem cons_tl {cap2 x : Nat} {l : List Nat} : (cap2 - (1 + l.length)) * 1 = cap2 - (x :: l).length := by rw [List.length_cons, Nat.mul_one, Nat.add_comm]
theorem cons_cells {x : Nat} {z : Int} {hz : IR z} {l : List Nat} (hx : x < 65536) (e : z = x) (ρ : Rho) : cellsL ρ ([C.int z hz] ++ isC l) = cellsL ρ (isC (x :: l)) := by
  rw [show [C.int z hz] ++ isC l = isC (x :: l) from by rw [iC_eq hx e]; rfl]
theorem slok_1 {m n c : Nat} (h : SliOk (false && decide (m = 0)) n c) : SliOk false n c := ⟨h.1, h.2.1, fun e => by cases e⟩
theorem BinI.one {T n : Nat} (h : T < n) : BinI T n 0 1 := ⟨by omega, by omega, by decide, by decide⟩
theorem BinI.all {T n : Nat} (h : T < 65536 * n) : BinI T n 0 65536 := ⟨by omega, h, by decide, by decide⟩
theorem lowI {la lq : List Nat} {n k : Nat} {r : OI} {hj : k - 1 < la.length} {T low : Nat} (hT : T = la[k - 1] + RB * val RB r.l) (h : OvI la n k lq r) (da : Dl RB la) (hl : low * n ≤ T ∧ T < (low + 1) * n) : low < 65536 := by
  have hx : la[k - 1] < RB := da.get _ hj
  have h1 : RB * (val RB r.l + 1) ≤ RB * n := Nat.mul_le_mul_left _ h.lt
  rw [Nat.mul_add] at h1
  have h2 : low * n < 65536 * n := by rw [← RB_eq]; omega
  exact Nat.lt_of_mul_lt_mul_right h2
set_option maxHeartbeats 40000000 in
theorem csOver : CSp Tryd.prog 65 cOver := csp_of (envN_ok .nil rdC_ok 0 fun _ => false) mixed (mix_ok overC_ok (envN_ok .nil rdC_ok 0 fun _ => false) mixed noF_ok 0) ⟨Tryd.func65, by kernel_rfl, by kernel_rfl⟩ fun args ros K hc => by
  obtain ⟨nla, offa, _, capa, ha, tya, csa, la, nlb, offb, _, capb, hb, tyb, csb, n, rfl, rfl, rfl, rfl, hwa, hwb, da, hn0, sa, sb, hc⟩ := hc
  refine ⟨fun ρ ρ' e => ?_, ?_⟩
  · have e0 := e 0 (show 0 < 2 by decide)
    have e1 := e 1 (show 1 < 2 by decide)
    simp only [List.map, SV.den, C.den, C.cells, e0, e1]
  conv => whnf
  refine ⟨rfl, la.length, la.length, rfl, rfl, Nat.le_refl _, by omega, fun h2 => ?_⟩
  conv => whnf
  refine loop_st (G := {g : Nat × List Nat × OI × (Nat → Value) // OvI la n g.1 g.2.1 g.2.2.1}) (fun g => (.c (.sli nla 0 offa la.length capa ha) :: .c (.sli nlb 1 offb (dig RB n).length capb hb) :: .c (.val (g.1.2.2.2 2)) :: .c (.val (g.1.2.2.2 3)) :: .c (.val (g.1.2.2.2 4)) :: .c (.val (g.1.2.2.2 5)) :: .c (.sli false 2 0 la.length la.length h2) :: (g.1.2.2.1.sl 3) :: .c (.int ((g.1.1 : Nat) - 1 : Int) (irp ha g.2.hk)) :: .c (.val (g.1.2.2.2 9)) :: .c (.val (g.1.2.2.2 10)) :: .c (.val (g.1.2.2.2 11)) :: .c (.val (g.1.2.2.2 12)) :: .c (.val (g.1.2.2.2 13)) :: .c (.val (g.1.2.2.2 14)) :: .c (.val (g.1.2.2.2 15)) :: .c (.val (g.1.2.2.2 16)) :: .c (.val (g.1.2.2.2 17)) :: .c (.val (g.1.2.2.2 18)) :: .c (.val (g.1.2.2.2 19)) :: .c (.val (g.1.2.2.2 20)) :: .c (.val (g.1.2.2.2 21)) :: .c (.val (g.1.2.2.2 22)) :: .c (.val (g.1.2.2.2 23)) :: .c (.val (g.1.2.2.2 24)) :: .c (.val (g.1.2.2.2 25)) :: .c (.val (g.1.2.2.2 26)) :: .c (.val (g.1.2.2.2 27)) :: .c (.val (g.1.2.2.2 28)) :: .c (.val (g.1.2.2.2 29)) :: .c (.val (g.1.2.2.2 30)) :: .c (.val (g.1.2.2.2 31)) :: .c (.val (g.1.2.2.2 32)) :: .c (.val (g.1.2.2.2 33)) :: .c (.val (g.1.2.2.2 34)) :: .c (.val (g.1.2.2.2 35)) :: .c (.val (g.1.2.2.2 36)) :: .c (.val (g.1.2.2.2 37)) :: .c (.val (g.1.2.2.2 38)) :: .c (.val (g.1.2.2.2 39)) :: .c (.val (g.1.2.2.2 40)) :: .c (.val (g.1.2.2.2 41)) :: .c (.val (g.1.2.2.2 42)) :: .c (.val (g.1.2.2.2 43)) :: .c (.val (g.1.2.2.2 44)) :: .c (.val (g.1.2.2.2 45)) :: .c (.val (g.1.2.2.2 46)) :: .c (.val (g.1.2.2.2 47)) :: .c (.val (g.1.2.2.2 48)) :: .c (.val (g.1.2.2.2 49)) :: .c (.val (g.1.2.2.2 50)) :: .c (.val (g.1.2.2.2 51)) :: .c (.val (g.1.2.2.2 52)) :: .c (.val (g.1.2.2.2 53)) :: .c (.val (g.1.2.2.2 54)) :: .c (.val (g.1.2.2.2 55)) :: .c (.val (g.1.2.2.2 56)) :: .c (.val (g.1.2.2.2 57)) :: .c (.val (g.1.2.2.2 58)) :: .c (.val (g.1.2.2.2 59)) :: .c (.val (g.1.2.2.2 60)) :: .c (.val (g.1.2.2.2 61)) :: [])) (fun g => [⟨tya, true, csa, 0⟩, ⟨tyb, true, csb, 0⟩, ⟨3, false, isC g.1.2.1, 0⟩, g.1.2.2.1.blk]) (fun g => g.1.1) ?_ ?_
  · refine ⟨[0, 1, 2, 1000 + 3], [0, 1, 6, 7, 8], [0, 1, 2, 3], fun vs => ?_⟩
    conv => whnf
    refine ⟨hwa.1, hwb.1, irep_pure _, ?_⟩
    conv => whnf
    refine ⟨_, _, ?_, ?_, ⟨(la.length, List.replicate la.length 0, OI.nil, vs), OvI.start hn0⟩, rfl, rfl⟩
    · exact ⟨fun _ => rfl, fun _ => rfl, fun _ => rfl, fun _ => rfl, fun _ => rfl, fun _ => rfl, fun _ => rfl, fun _ => rfl, sint_eq (wrap_id (irp ha (Nat.le_refl _))) _ _, fun _ => rfl, fun _ => rfl, fun _ => rfl, fun _ => rfl, fun _ => rfl, fun _ => rfl, fun _ => rfl, fun _ => rfl, fun _ => rfl, fun _ => rfl, fun _ => rfl, fun _ => rfl, fun _ => rfl, fun _ => rfl, fun _ => rfl, fun _ => rfl, fun _ => rfl, fun _ => rfl, fun _ => rfl, fun _ => rfl, fun _ => rfl, fun _ => rfl, fun _ => rfl, fun _ => rfl, fun _ => rfl, fun _ => rfl, fun _ => rfl, fun _ => rfl, fun _ => rfl, fun _ => rfl, fun _ => rfl, fun _ => rfl, fun _ => rfl, fun _ => rfl, fun _ => rfl, fun _ => rfl, fun _ => rfl, fun _ => rfl, fun _ => rfl, fun _ => rfl, fun _ => rfl, fun _ => rfl, fun _ => rfl, fun _ => rfl, fun _ => rfl, fun _ => rfl, fun _ => rfl, fun _ => rfl, fun _ => rfl, fun _ => rfl, fun _ => rfl, fun _ => rfl, fun _ => rfl, trivial⟩
    · exact ⟨⟨rfl, rfl, rfl, fun _ => rfl⟩, ⟨rfl, rfl, rfl, fun _ => rfl⟩, ⟨rfl, rfl, Nat.sub_self _, fun ρ => by rw [← isC_rep]; rfl⟩, ⟨rfl, rfl, rfl, fun _ => rfl⟩, trivial⟩
  · rintro ⟨⟨k, lq, r, vs⟩, hI⟩
    have hI : OvI la n k lq r := hI
    conv => whnf
    refine bcase_intro (fun h0 => ?_) (fun h0 => ?_)
    · have h0 : 0 < k := i_ge h0
      have hkm := hI.hk
      have hka : k - 1 < la.length := by omega
      have hkq : k - 1 < lq.length := by rw [hI.ql]; exact hka
      have hirk : IR ((k - 1 : Nat) : Int) := ltI ha (Nat.le_of_lt hka)
      have hx16 : (la[k - 1]'hka) < 65536 := da.get _ hka
      have dr : Dl RB r.l := by rw [hI.hr]; exact dig_Dl RB_two _
      obtain ⟨T, hT⟩ : ∃ T, T = (la[k - 1]'hka) + RB * val RB r.l := ⟨_, rfl⟩
      have hTv : val RB ((la[k - 1]'hka) :: r.l) = T := by rw [val_cons, hT]
      have dxr : Dl RB ((la[k - 1]'hka) :: r.l) := fun d hd => by
        rcases List.mem_cons.1 hd with rfl | hd
        · rw [RB_eq]; exact hx16
        · exact dr d hd
      have hrl : r.l.length ≤ 50000000 := by
        rw [hI.hr]; exact Nat.le_trans (dig_len_mono RB_two (Nat.le_of_lt hI.lt)) sb
      have hTn : T < 65536 * n := by
        have h1 : RB * (val RB r.l + 1) ≤ RB * n := Nat.mul_le_mul_left _ hI.lt
        have hB : RB = 65536 := rfl
        rw [Nat.mul_add] at h1
        rw [hT, ← hB]; omega
      conv => whnf
      conv =>
        arg 2
        tactic' =>
          apply eff_index_sli (hi := hirk) (ho := ?how13) (hT := ?hTw13) (hx := ?hxw13) (hk := ?hkw13) (hlt := ?hltw13)
          case how13 => rfl
          case hTw13 => rfl
          case hxw13 => rfl
          case hkw13 => exact cint (pred_nat h0) hirk
          case hltw13 => exact hka
      conv => whnf
      conv =>
        arg 2
        tactic' =>
          apply eff_load_sub (m := [.int (((la[k - 1]'hka) : Nat) : Int) (ir_dig (da.get _ hka))]) (ho := ?how14) (hT := ?hTw14) (hx := ?hxw14) (hb := ?hbw14) (hm := ?hmw14) (hv := ?hvw14)
          case how14 => rfl
          case hTw14 => rfl
          case hxw14 => rfl
          case hbw14 => rfl
          case hmw14 => exact hwa.int da hka
          case hvw14 => rfl
      conv => whnf
      refine .inl ?_
      conv => whnf
      conv =>
        arg 2
        tactic' => exact (IAt.ow r).all rfl
      conv => whnf
      refine ⟨isC_one _, ?_⟩
      have hroom : (1 + r.l.length) * 1 ≤ 5000000000000 := by omega
      conv => whnf
      refine ⟨⟨rfl, rfl, rfl, fun _ => rfl, hroom⟩, fun cap2 hcap2 => ?_⟩
      have hs := slok_1 hcap2
      conv => whnf
      refine ⟨⟨pureL_append (fun _ _ => rfl) (isC_pure _), trivial⟩, ⟨_, _, _, _, _, _, _, (la[k - 1]'hka) :: r.l, rfl, rfl, Nat.add_comm _ _, iat_cons hx16 rfl, dxr, fun h3 => ?_⟩⟩
      have hr3 : ((la[k - 1]'hka) :: r.l).length ≤ cap2 := by rw [List.length_cons, Nat.add_comm]; exact hs.1
      have hRl : (dig RB T).length = tlen ((la[k - 1]'hka) :: r.l) := by rw [← hTv, tlen_rdig dxr]
      have hRt : IAt (isC ((la[k - 1]'hka) :: r.l)) 0 (dig RB T) := by rw [← hTv]; exact IAt.normd dxr
      have hRs2 : tlen ((la[k - 1]'hka) :: r.l) ≤ 200000000 := Nat.le_trans (tlen_le _) (by rw [List.length_cons]; omega)
      have hRs : tlen ((la[k - 1]'hka) :: r.l) ≤ 1000000000 := Nat.le_trans hRs2 (by decide)
      conv => whnf
      refine ⟨⟨dig RB T, dig RB n, ⟨(by rw [← hTv]; exact iat_dig (iat_cons hx16 rfl) dxr), hRl, by rw [val_dig RB_two], hRs⟩, hwb, rfl, by rw [val_dig RB_two], Nat.le_trans sb (by decide)⟩, ?_⟩
      conv => whnf
      refine bcase_intro (fun hc0 => ?_) (fun hc0 => ?_)
      · have hlt : T < n := of_decide_eq_true (dec_lt (m := T) (n := n) (val_isOf (by rw [← hTv]; exact iat_dig (iat_cons hx16 rfl) dxr) hRl) (val_isOf hwb rfl) hc0)
        obtain ⟨R, hRe, hRsl, hRbk⟩ : ∃ R : OI, R.l = dig RB T ∧ (OI.ofTrim ((la[k - 1]'hka) :: r.l) cap2 h3 hr3).sl 3 = R.sl 3 ∧ R.blk = (OI.ofTrim ((la[k - 1]'hka) :: r.l) cap2 h3 hr3).blk := ⟨_, by rw [OI.ofTrim_l dxr, hTv], rfl, rfl⟩
        have hRt2 : IAt R.blk.cs 0 (dig RB T) := by rw [← hRe]; exact IAt.ow R
        have hRl2 : (dig RB T).length = R.l.length := by rw [hRe]
        have hRs3 : R.l.length ≤ 200000000 := by rw [← hRl2, hRl]; exact hRs2
        have hRs4 : R.l.length ≤ 1000000000 := Nat.le_trans hRs3 (by decide)
        conv => whnf
        refine loop_cut (G := {g : Nat × Nat × (Nat → Value) // BinI T n g.1 g.2.1}) (X := {x : Nat // x * n ≤ T ∧ T < (x + 1) * n}) (fun g => (.c (.sli nla 0 offa la.length capa ha) :: .c (.sli nlb 1 offb (dig RB n).length capb hb) :: .c (.val (g.1.2.2 2)) :: .c (.val (g.1.2.2 3)) :: .c (.val (g.1.2.2 4)) :: .c (.val (g.1.2.2 5)) :: .c (.sli false 2 0 la.length la.length h2) :: (R.sl 3) :: .c (.int ((k : Nat) - 1 : Int) (irp ha hI.hk)) :: .c (.int (g.1.1 : Nat) (ir_nat (Nat.le_trans (Nat.le_of_lt (Nat.lt_of_lt_of_le g.2.lt g.2.le)) (by decide)))) :: .c (.int (g.1.2.1 : Nat) (ir_nat (Nat.le_trans g.2.le (by decide)))) :: .c (.val (g.1.2.2 11)) :: .c (.val (g.1.2.2 12)) :: .c (.val (g.1.2.2 13)) :: .c (.val (g.1.2.2 14)) :: .c (.val (g.1.2.2 15)) :: .c (.val (g.1.2.2 16)) :: .c (.val (g.1.2.2 17)) :: .c (.val (g.1.2.2 18)) :: .c (.val (g.1.2.2 19)) :: .c (.val (g.1.2.2 20)) :: .c (.val (g.1.2.2 21)) :: .c (.val (g.1.2.2 22)) :: .c (.val (g.1.2.2 23)) :: .c (.val (g.1.2.2 24)) :: .c (.val (g.1.2.2 25)) :: .c (.val (g.1.2.2 26)) :: .c (.val (g.1.2.2 27)) :: .c (.val (g.1.2.2 28)) :: .c (.val (g.1.2.2 29)) :: .c (.val (g.1.2.2 30)) :: .c (.val (g.1.2.2 31)) :: .c (.val (g.1.2.2 32)) :: .c (.val (g.1.2.2 33)) :: .c (.val (g.1.2.2 34)) :: .c (.val (g.1.2.2 35)) :: .c (.val (g.1.2.2 36)) :: .c (.val (g.1.2.2 37)) :: .c (.val (g.1.2.2 38)) :: .c (.val (g.1.2.2 39)) :: .c (.val (g.1.2.2 40)) :: .c (.val (g.1.2.2 41)) :: .c (.val (g.1.2.2 42)) :: .c (.val (g.1.2.2 43)) :: .c (.val (g.1.2.2 44)) :: .c (.val (g.1.2.2 45)) :: .c (.val (g.1.2.2 46)) :: .c (.val (g.1.2.2 47)) :: .c (.val (g.1.2.2 48)) :: .c (.val (g.1.2.2 49)) :: .c (.val (g.1.2.2 50)) :: .c (.val (g.1.2.2 51)) :: .c (.val (g.1.2.2 52)) :: .c (.val (g.1.2.2 53)) :: .c (.val (g.1.2.2 54)) :: .c (.val (g.1.2.2 55)) :: .c (.val (g.1.2.2 56)) :: .c (.val (g.1.2.2 57)) :: .c (.val (g.1.2.2 58)) :: .c (.val (g.1.2.2 59)) :: .c (.val (g.1.2.2 60)) :: .c (.val (g.1.2.2 61)) :: [])) (fun g => [⟨tya, true, csa, 0⟩, ⟨tyb, true, csb, 0⟩, ⟨3, false, isC lq, 0⟩, R.blk]) (fun g => g.1.2.1 - g.1.1) 2 (fun x j => (.c (.sli nla 0 offa la.length capa ha) :: .c (.sli nlb 1 offb (dig RB n).length capb hb) :: j 2 :: j 3 :: j 4 :: j 5 :: .c (.sli false 2 0 la.length la.length h2) :: (R.sl 3) :: .c (.int ((k : Nat) - 1 : Int) (irp ha hI.hk)) :: .c (.int (x.1 : Nat) (ir_nat (by have := lowI hT hI da x.2; omega))) :: j 10 :: j 11 :: j 12 :: j 13 :: j 14 :: j 15 :: j 16 :: j 17 :: j 18 :: j 19 :: j 20 :: j 21 :: j 22 :: j 23 :: j 24 :: j 25 :: j 26 :: j 27 :: j 28 :: j 29 :: j 30 :: j 31 :: j 32 :: j 33 :: j 34 :: j 35 :: j 36 :: j 37 :: j 38 :: j 39 :: j 40 :: j 41 :: j 42 :: j 43 :: j 44 :: j 45 :: j 46 :: j 47 :: j 48 :: j 49 :: j 50 :: j 51 :: j 52 :: j 53 :: j 54 :: j 55 :: j 56 :: j 57 :: j 58 :: j 59 :: j 60 :: j 61 :: [])) (fun x => [⟨tya, true, csa, 0⟩, ⟨tyb, true, csb, 0⟩, ⟨3, false, isC lq, 0⟩, R.blk]) ?_ ?_ ?_
        · refine ⟨[0, 1, 2, 5], [0, 1, 6, 7, 8, 9, 10], [0, 1, 2, 3], fun vs5 => ?_⟩
          conv => whnf
          refine ⟨hwa.1, hwb.1, isC_pure _, pureL_append (fun _ _ => rfl) (isC_pure _), ?_⟩
          conv => whnf
          refine ⟨_, _, ?_, ?_, ⟨(0, 1, vs5), BinI.one hlt⟩, rfl, rfl⟩
          · exact ⟨fun _ => rfl, fun _ => rfl, fun _ => rfl, fun _ => rfl, fun _ => rfl, fun _ => rfl, fun _ => rfl, fun ρ => (OI.ofTrim_sl 3 ρ).trans (congrArg (fun z : SV => z.den ρ) hRsl), fun _ => rfl, fun _ => rfl, fun _ => rfl, fun _ => rfl, fun _ => rfl, fun _ => rfl, fun _ => rfl, fun _ => rfl, fun _ => rfl, fun _ => rfl, fun _ => rfl, fun _ => rfl, fun _ => rfl, fun _ => rfl, fun _ => rfl, fun _ => rfl, fun _ => rfl, fun _ => rfl, fun _ => rfl, fun _ => rfl, fun _ => rfl, fun _ => rfl, fun _ => rfl, fun _ => rfl, fun _ => rfl, fun _ => rfl, fun _ => rfl, fun _ => rfl, fun _ => rfl, fun _ => rfl, fun _ => rfl, fun _ => rfl, fun _ => rfl, fun _ => rfl, fun _ => rfl, fun _ => rfl, fun _ => rfl, fun _ => rfl, fun _ => rfl, fun _ => rfl, fun _ => rfl, fun _ => rfl, fun _ => rfl, fun _ => rfl, fun _ => rfl, fun _ => rfl, fun _ => rfl, fun _ => rfl, fun _ => rfl, fun _ => rfl, fun _ => rfl, fun _ => rfl, fun _ => rfl, fun _ => rfl, trivial⟩
          · exact ⟨⟨rfl, rfl, rfl, fun _ => rfl⟩, ⟨rfl, rfl, rfl, fun _ => rfl⟩, ⟨rfl, rfl, rfl, fun _ => rfl⟩, (by rw [hRbk, OI.ofTrim_blk]; exact ⟨rfl, rfl, cons_tl, fun ρ => cons_cells hx16 rfl ρ⟩), trivial⟩
        · intro Qx hqx
          rintro ⟨⟨low, high, vs6⟩, hB⟩
          have hB : BinI T n low high := hB
          conv => whnf
          refine bcase_intro (fun hgt => ?_) (fun hgt => ?_)
          · have hgt := bin_gt hB.lt hB.le hgt
            obtain ⟨m, hm⟩ : ∃ m, m = (low + high) / 2 := ⟨_, rfl⟩
            have hlt := hB.lt
            have hle := hB.le
            have em := (bin_mid (low := low) (high := high) (by omega) (by omega)).trans (congrArg (fun z : Nat => (z : Int)) hm.symm)
            have hm16 : m < 65536 := by omega
            conv => whnf
            refine ⟨⟨hwb.1, trivial⟩, ⟨_, _, _, _, _, _, _, dig RB n, m, _, _, rfl, rfl, rfl, hwb, dig_Dl RB_two n, Nat.le_trans sb (by decide), hm16, em, fun ob _ hob => ?_⟩⟩
            rw [val_dig RB_two] at hob
            have hobl : ob.l.length ≤ 1000000000 := by
              rw [hob]
              refine Nat.le_trans (dig_length_le RB_two (k := (dig RB n).length + 1) ?_) (by omega)
              have h6 := lt_of_dig_length RB_two n
              have h7 : n * m < RB ^ (dig RB n).length * RB := by
                have h8 : n * m ≤ n * RB := Nat.mul_le_mul_left _ (Nat.le_of_lt hm16)
                have h9 : n * RB < RB ^ (dig RB n).length * RB := Nat.mul_lt_mul_of_pos_right h6 RB_pos
                omega
              rw [Nat.pow_succ]; exact h7
            conv => whnf
            refine ⟨⟨ob.l, dig RB T, ⟨IAt.ow ob, rfl, by rw [hob, val_dig RB_two], hobl⟩, hRt2, hRl2, by rw [val_dig RB_two], hRs4⟩, ?_⟩
            conv => whnf
            refine bcase_intro (fun hle2 => ?_) (fun hle2 => ?_)
            · have hmle : m * n ≤ T := by
                have := of_decide_eq_true (dec_le (m := n * m) (n := T) (val_isOf (by rw [← hob]; exact IAt.ow ob) (congrArg List.length hob).symm) (val_isOf hRt2 hRl2) hle2)
                rwa [Nat.mul_comm]
              obtain ⟨hB2, hmu⟩ := hB.low hm hgt hmle
              conv => whnf
              refine ⟨[0, 1, 2, 3], [0, 1, 6, 7, 8, 9, 10], [0, 1, 2, 3], fun vs7 => ?_⟩
              conv => whnf
              refine ⟨hwa.1, hwb.1, isC_pure _, isC_pure _, ?_⟩
              conv => whnf
              refine ⟨_, _, ?_, ?_, ⟨(m, high, vs7), hB2⟩, hmu, rfl, rfl⟩
              · exact ⟨fun _ => rfl, fun _ => rfl, fun _ => rfl, fun _ => rfl, fun _ => rfl, fun _ => rfl, fun _ => rfl, fun _ => rfl, fun _ => rfl, sint_eq em _ _, fun _ => rfl, fun _ => rfl, fun _ => rfl, fun _ => rfl, fun _ => rfl, fun _ => rfl, fun _ => rfl, fun _ => rfl, fun _ => rfl, fun _ => rfl, fun _ => rfl, fun _ => rfl, fun _ => rfl, fun _ => rfl, fun _ => rfl, fun _ => rfl, fun _ => rfl, fun _ => rfl, fun _ => rfl, fun _ => rfl, fun _ => rfl, fun _ => rfl, fun _ => rfl, fun _ => rfl, fun _ => rfl, fun _ => rfl, fun _ => rfl, fun _ => rfl, fun _ => rfl, fun _ => rfl, fun _ => rfl, fun _ => rfl, fun _ => rfl, fun _ => rfl, fun _ => rfl, fun _ => rfl, fun _ => rfl, fun _ => rfl, fun _ => rfl, fun _ => rfl, fun _ => rfl, fun _ => rfl, fun _ => rfl, fun _ => rfl, fun _ => rfl, fun _ => rfl, fun _ => rfl, fun _ => rfl, fun _ => rfl, fun _ => rfl, fun _ => rfl, fun _ => rfl, trivial⟩
              · exact ⟨⟨rfl, rfl, rfl, fun _ => rfl⟩, ⟨rfl, rfl, rfl, fun _ => rfl⟩, ⟨rfl, rfl, rfl, fun _ => rfl⟩, ⟨rfl, rfl, rfl, fun _ => rfl⟩, trivial⟩
            · have hmle : ¬ m * n ≤ T := by
                have := of_decide_eq_false (dec_le (m := n * m) (n := T) (val_isOf (by rw [← hob]; exact IAt.ow ob) (congrArg List.length hob).symm) (val_isOf hRt2 hRl2) hle2)
                rwa [Nat.mul_comm]
              obtain ⟨hB2, hmu⟩ := hB.high hm hgt hmle
              conv => whnf
              refine ⟨[0, 1, 2, 3], [0, 1, 6, 7, 8, 9, 10], [0, 1, 2, 3], fun vs7 => ?_⟩
              conv => whnf
              refine ⟨hwa.1, hwb.1, isC_pure _, isC_pure _, ?_⟩
              conv => whnf
              refine ⟨_, _, ?_, ?_, ⟨(low, m, vs7), hB2⟩, hmu, rfl, rfl⟩
              · exact ⟨fun _ => rfl, fun _ => rfl, fun _ => rfl, fun _ => rfl, fun _ => rfl, fun _ => rfl, fun _ => rfl, fun _ => rfl, fun _ => rfl, fun _ => rfl, sint_eq em _ _, fun _ => rfl, fun _ => rfl, fun _ => rfl, fun _ => rfl, fun _ => rfl, fun _ => rfl, fun _ => rfl, fun _ => rfl, fun _ => rfl, fun _ => rfl, fun _ => rfl, fun _ => rfl, fun _ => rfl, fun _ => rfl, fun _ => rfl, fun _ => rfl, fun _ => rfl, fun _ => rfl, fun _ => rfl, fun _ => rfl, fun _ => rfl, fun _ => rfl, fun _ => rfl, fun _ => rfl, fun _ => rfl, fun _ => rfl, fun _ => rfl, fun _ => rfl, fun _ => rfl, fun _ => rfl, fun _ => rfl, fun _ => rfl, fun _ => rfl, fun _ => rfl, fun _ => rfl, fun _ => rfl, fun _ => rfl, fun _ => rfl, fun _ => rfl, fun _ => rfl, fun _ => rfl, fun _ => rfl, fun _ => rfl, fun _ => rfl, fun _ => rfl, fun _ => rfl, fun _ => rfl, fun _ => rfl, fun _ => rfl, fun _ => rfl, fun _ => rfl, trivial⟩
              · exact ⟨⟨rfl, rfl, rfl, fun _ => rfl⟩, ⟨rfl, rfl, rfl, fun _ => rfl⟩, ⟨rfl, rfl, rfl, fun _ => rfl⟩, ⟨rfl, rfl, rfl, fun _ => rfl⟩, trivial⟩
          · have hngt := bin_ngt hB.lt hB.le hgt
            conv => whnf
            exact hqx ⟨low, hB.done hngt⟩ (fun i => nth uv (uv :: uv :: _ :: _ :: _ :: _ :: uv :: uv :: uv :: uv :: _ :: _ :: _ :: _ :: _ :: _ :: _ :: _ :: _ :: _ :: _ :: _ :: _ :: _ :: _ :: _ :: _ :: _ :: _ :: _ :: _ :: _ :: _ :: _ :: _ :: _ :: _ :: _ :: _ :: _ :: _ :: _ :: _ :: _ :: _ :: _ :: _ :: _ :: _ :: _ :: _ :: _ :: _ :: _ :: _ :: _ :: _ :: _ :: _ :: _ :: _ :: _ :: []) i)
        · rintro ⟨low, hlo⟩ jj
          have hlo1 : low * n ≤ T := hlo.1
          have hlo2 : T < (low + 1) * n := hlo.2
          have hlow16 : low < 65536 := lowI (hj := hka) hT hI da hlo
          conv => whnf
          conv =>
            arg 2
            tactic' =>
              apply eff_index_sli (hi := hirk) (ho := ?how11) (hT := ?hTw11) (hx := ?hxw11) (hk := ?hkw11) (hlt := ?hltw11)
              case how11 => rfl
              case hTw11 => rfl
              case hxw11 => rfl
              case hkw11 => exact cint (pred_nat h0) hirk
              case hltw11 => exact hka
          conv => whnf
          conv =>
            arg 2
            tactic' =>
              apply eff_store_at (l := [iC (low)]) (cs := isC (lq.set (k - 1) low)) (ho := ?how12) (hT := ?hTw12) (hx := ?hxw12) (hy := ?hyw12) (hl := ?hlw12) (hb := ?hbw12) (hro := ?hrow12) (hs := ?hsw12)
              case how12 => rfl
              case hTw12 => rfl
              case hxw12 => rfl
              case hyw12 => exact congrArg (fun z => some [z]) (iC_eq hlow16 rfl)
              case hlw12 => exact ⟨rfl, rfl⟩
              case hbw12 => rfl
              case hrow12 => rfl
              case hsw12 => exact splice_is hkq _
          conv => whnf
          rw [forceL_eq]
          conv => whnf
          refine ⟨⟨hwb.1, trivial⟩, ⟨_, _, _, _, _, _, _, dig RB n, low, _, _, rfl, rfl, rfl, hwb, dig_Dl RB_two n, Nat.le_trans sb (by decide), hlow16, rfl, fun ob _ hob => ?_⟩⟩
          rw [val_dig RB_two] at hob
          conv => whnf
          refine ⟨⟨isC_pure _, isC_pure _, trivial⟩, ⟨_, _, _, _, _, _, _, dig RB T, _, _, _, _, _, _, _, ob.l, rfl, rfl, hRl2, rfl, hRt2, IAt.ow ob, dig_Dl RB_two T, by rw [hob]; exact dig_Dl RB_two _, hRs3, by rw [hob, ← hRl2]; exact dig_len_mono RB_two (by rw [Nat.mul_comm]; exact hlo1), by rw [hob, val_dig RB_two, val_dig RB_two, Nat.mul_comm]; exact hlo1, fun os hos => ?_⟩⟩
          rw [hob, val_dig RB_two, val_dig RB_two] at hos
          obtain ⟨hI2, -⟩ := hI.step h0 hn0 (hj := hka) da hT hlo1 hlo2 hos
          conv => whnf
          refine ⟨[0, 1, 2, 5], [0, 1, 6, 7, 8], [0, 1, 2, 3], fun vs8 => ?_⟩
          conv => whnf
          refine ⟨hwa.1, hwb.1, isC_pure _, isC_pure _, ?_⟩
          conv => whnf
          refine ⟨_, _, ?_, ?_, ⟨(k - 1, lq.set (k - 1) low, os, vs8), hI2⟩, Nat.sub_lt h0 Nat.one_pos, rfl, rfl⟩
          · exact ⟨fun _ => rfl, fun _ => rfl, fun _ => rfl, fun _ => rfl, fun _ => rfl, fun _ => rfl, fun _ => rfl, fun _ => rfl, sint_eq (cmp_dec h0 (ltI ha hI.hk)) _ _, fun _ => rfl, fun _ => rfl, fun _ => rfl, fun _ => rfl, fun _ => rfl, fun _ => rfl, fun _ => rfl, fun _ => rfl, fun _ => rfl, fun _ => rfl, fun _ => rfl, fun _ => rfl, fun _ => rfl, fun _ => rfl, fun _ => rfl, fun _ => rfl, fun _ => rfl, fun _ => rfl, fun _ => rfl, fun _ => rfl, fun _ => rfl, fun _ => rfl, fun _ => rfl, fun _ => rfl, fun _ => rfl, fun _ => rfl, fun _ => rfl, fun _ => rfl, fun _ => rfl, fun _ => rfl, fun _ => rfl, fun _ => rfl, fun _ => rfl, fun _ => rfl, fun _ => rfl, fun _ => rfl, fun _ => rfl, fun _ => rfl, fun _ => rfl, fun _ => rfl, fun _ => rfl, fun _ => rfl, fun _ => rfl, fun _ => rfl, fun _ => rfl, fun _ => rfl, fun _ => rfl, fun _ => rfl, fun _ => rfl, fun _ => rfl, fun _ => rfl, fun _ => rfl, fun _ => rfl, trivial⟩
          · exact ⟨⟨rfl, rfl, rfl, fun _ => rfl⟩, ⟨rfl, rfl, rfl, fun _ => rfl⟩, ⟨rfl, rfl, rfl, fun _ => rfl⟩, ⟨rfl, rfl, rfl, fun _ => rfl⟩, trivial⟩
      · obtain ⟨R, hRe, hRsl, hRbk⟩ : ∃ R : OI, R.l = dig RB T ∧ (OI.ofTrim ((la[k - 1]'hka) :: r.l) cap2 h3 hr3).sl 3 = R.sl 3 ∧ R.blk = (OI.ofTrim ((la[k - 1]'hka) :: r.l) cap2 h3 hr3).blk := ⟨_, by rw [OI.ofTrim_l dxr, hTv], rfl, rfl⟩
        have hRt2 : IAt R.blk.cs 0 (dig RB T) := by rw [← hRe]; exact IAt.ow R
        have hRl2 : (dig RB T).length = R.l.length := by rw [hRe]
        have hRs3 : R.l.length ≤ 200000000 := by rw [← hRl2, hRl]; exact hRs2
        have hRs4 : R.l.length ≤ 1000000000 := Nat.le_trans hRs3 (by decide)
        conv => whnf
        refine loop_cut (G := {g : Nat × Nat × (Nat → Value) // BinI T n g.1 g.2.1}) (X := {x : Nat // x * n ≤ T ∧ T < (x + 1) * n}) (fun g => (.c (.sli nla 0 offa la.length capa ha) :: .c (.sli nlb 1 offb (dig RB n).length capb hb) :: .c (.val (g.1.2.2 2)) :: .c (.val (g.1.2.2 3)) :: .c (.val (g.1.2.2 4)) :: .c (.val (g.1.2.2 5)) :: .c (.sli false 2 0 la.length la.length h2) :: (R.sl 3) :: .c (.int ((k : Nat) - 1 : Int) (irp ha hI.hk)) :: .c (.int (g.1.1 : Nat) (ir_nat (Nat.le_trans (Nat.le_of_lt (Nat.lt_of_lt_of_le g.2.lt g.2.le)) (by decide)))) :: .c (.int (g.1.2.1 : Nat) (ir_nat (Nat.le_trans g.2.le (by decide)))) :: .c (.val (g.1.2.2 11)) :: .c (.val (g.1.2.2 12)) :: .c (.val (g.1.2.2 13)) :: .c (.val (g.1.2.2 14)) :: .c (.val (g.1.2.2 15)) :: .c (.val (g.1.2.2 16)) :: .c (.val (g.1.2.2 17)) :: .c (.val (g.1.2.2 18)) :: .c (.val (g.1.2.2 19)) :: .c (.val (g.1.2.2 20)) :: .c (.val (g.1.2.2 21)) :: .c (.val (g.1.2.2 22)) :: .c (.val (g.1.2.2 23)) :: .c (.val (g.1.2.2 24)) :: .c (.val (g.1.2.2 25)) :: .c (.val (g.1.2.2 26)) :: .c (.val (g.1.2.2 27)) :: .c (.val (g.1.2.2 28)) :: .c (.val (g.1.2.2 29)) :: .c (.val (g.1.2.2 30)) :: .c (.val (g.1.2.2 31)) :: .c (.val (g.1.2.2 32)) :: .c (.val (g.1.2.2 33)) :: .c (.val (g.1.2.2 34)) :: .c (.val (g.1.2.2 35)) :: .c (.val (g.1.2.2 36)) :: .c (.val (g.1.2.2 37)) :: .c (.val (g.1.2.2 38)) :: .c (.val (g.1.2.2 39)) :: .c (.val (g.1.2.2 40)) :: .c (.val (g.1.2.2 41)) :: .c (.val (g.1.2.2 42)) :: .c (.val (g.1.2.2 43)) :: .c (.val (g.1.2.2 44)) :: .c (.val (g.1.2.2 45)) :: .c (.val (g.1.2.2 46)) :: .c (.val (g.1.2.2 47)) :: .c (.val (g.1.2.2 48)) :: .c (.val (g.1.2.2 49)) :: .c (.val (g.1.2.2 50)) :: .c (.val (g.1.2.2 51)) :: .c (.val (g.1.2.2 52)) :: .c (.val (g.1.2.2 53)) :: .c (.val (g.1.2.2 54)) :: .c (.val (g.1.2.2 55)) :: .c (.val (g.1.2.2 56)) :: .c (.val (g.1.2.2 57)) :: .c (.val (g.1.2.2 58)) :: .c (.val (g.1.2.2 59)) :: .c (.val (g.1.2.2 60)) :: .c (.val (g.1.2.2 61)) :: [])) (fun g => [⟨tya, true, csa, 0⟩, ⟨tyb, true, csb, 0⟩, ⟨3, false, isC lq, 0⟩, R.blk]) (fun g => g.1.2.1 - g.1.1) 2 (fun x j => (.c (.sli nla 0 offa la.length capa ha) :: .c (.sli nlb 1 offb (dig RB n).length capb hb) :: j 2 :: j 3 :: j 4 :: j 5 :: .c (.sli false 2 0 la.length la.length h2) :: (R.sl 3) :: .c (.int ((k : Nat) - 1 : Int) (irp ha hI.hk)) :: .c (.int (x.1 : Nat) (ir_nat (by have := lowI hT hI da x.2; omega))) :: j 10 :: j 11 :: j 12 :: j 13 :: j 14 :: j 15 :: j 16 :: j 17 :: j 18 :: j 19 :: j 20 :: j 21 :: j 22 :: j 23 :: j 24 :: j 25 :: j 26 :: j 27 :: j 28 :: j 29 :: j 30 :: j 31 :: j 32 :: j 33 :: j 34 :: j 35 :: j 36 :: j 37 :: j 38 :: j 39 :: j 40 :: j 41 :: j 42 :: j 43 :: j 44 :: j 45 :: j 46 :: j 47 :: j 48 :: j 49 :: j 50 :: j 51 :: j 52 :: j 53 :: j 54 :: j 55 :: j 56 :: j 57 :: j 58 :: j 59 :: j 60 :: j 61 :: [])) (fun x => [⟨tya, true, csa, 0⟩, ⟨tyb, true, csb, 0⟩, ⟨3, false, isC lq, 0⟩, R.blk]) ?_ ?_ ?_
        · refine ⟨[0, 1, 2, 5], [0, 1, 6, 7, 8, 9, 10], [0, 1, 2, 3], fun vs5 => ?_⟩
          conv => whnf
          refine ⟨hwa.1, hwb.1, isC_pure _, pureL_append (fun _ _ => rfl) (isC_pure _), ?_⟩
          conv => whnf
          refine ⟨_, _, ?_, ?_, ⟨(0, 65536, vs5), BinI.all hTn⟩, rfl, rfl⟩
          · exact ⟨fun _ => rfl, fun _ => rfl, fun _ => rfl, fun _ => rfl, fun _ => rfl, fun _ => rfl, fun _ => rfl, fun ρ => (OI.ofTrim_sl 3 ρ).trans (congrArg (fun z : SV => z.den ρ) hRsl), fun _ => rfl, fun _ => rfl, fun _ => rfl, fun _ => rfl, fun _ => rfl, fun _ => rfl, fun _ => rfl, fun _ => rfl, fun _ => rfl, fun _ => rfl, fun _ => rfl, fun _ => rfl, fun _ => rfl, fun _ => rfl, fun _ => rfl, fun _ => rfl, fun _ => rfl, fun _ => rfl, fun _ => rfl, fun _ => rfl, fun _ => rfl, fun _ => rfl, fun _ => rfl, fun _ => rfl, fun _ => rfl, fun _ => rfl, fun _ => rfl, fun _ => rfl, fun _ => rfl, fun _ => rfl, fun _ => rfl, fun _ => rfl, fun _ => rfl, fun _ => rfl, fun _ => rfl, fun _ => rfl, fun _ => rfl, fun _ => rfl, fun _ => rfl, fun _ => rfl, fun _ => rfl, fun _ => rfl, fun _ => rfl, fun _ => rfl, fun _ => rfl, fun _ => rfl, fun _ => rfl, fun _ => rfl, fun _ => rfl, fun _ => rfl, fun _ => rfl, fun _ => rfl, fun _ => rfl, fun _ => rfl, trivial⟩
          · exact ⟨⟨rfl, rfl, rfl, fun _ => rfl⟩, ⟨rfl, rfl, rfl, fun _ => rfl⟩, ⟨rfl, rfl, rfl, fun _ => rfl⟩, (by rw [hRbk, OI.ofTrim_blk]; exact ⟨rfl, rfl, cons_tl, fun ρ => cons_cells hx16 rfl ρ⟩), trivial⟩
        · intro Qx hqx
          rintro ⟨⟨low, high, vs6⟩, hB⟩
          have hB : BinI T n low high := hB
          conv => whnf
          refine bcase_intro (fun hgt => ?_) (fun hgt => ?_)
          · have hgt := bin_gt hB.lt hB.le hgt
            obtain ⟨m, hm⟩ : ∃ m, m = (low + high) / 2 := ⟨_, rfl⟩
            have hlt := hB.lt
            have hle := hB.le
            have em := (bin_mid (low := low) (high := high) (by omega) (by omega)).trans (congrArg (fun z : Nat => (z : Int)) hm.symm)
            have hm16 : m < 65536 := by omega
            conv => whnf
            refine ⟨⟨hwb.1, trivial⟩, ⟨_, _, _, _, _, _, _, dig RB n, m, _, _, rfl, rfl, rfl, hwb, dig_Dl RB_two n, Nat.le_trans sb (by decide), hm16, em, fun ob _ hob => ?_⟩⟩
            rw [val_dig RB_two] at hob
            have hobl : ob.l.length ≤ 1000000000 := by
              rw [hob]
              refine Nat.le_trans (dig_length_le RB_two (k := (dig RB n).length + 1) ?_) (by omega)
              have h6 := lt_of_dig_length RB_two n
              have h7 : n * m < RB ^ (dig RB n).length * RB := by
                have h8 : n * m ≤ n * RB := Nat.mul_le_mul_left _ (Nat.le_of_lt hm16)
                have h9 : n * RB < RB ^ (dig RB n).length * RB := Nat.mul_lt_mul_of_pos_right h6 RB_pos
                omega
              rw [Nat.pow_succ]; exact h7
            conv => whnf
            refine ⟨⟨ob.l, dig RB T, ⟨IAt.ow ob, rfl, by rw [hob, val_dig RB_two], hobl⟩, hRt2, hRl2, by rw [val_dig RB_two], hRs4⟩, ?_⟩
            conv => whnf
            refine bcase_intro (fun hle2 => ?_) (fun hle2 => ?_)
            · have hmle : m * n ≤ T := by
                have := of_decide_eq_true (dec_le (m := n * m) (n := T) (val_isOf (by rw [← hob]; exact IAt.ow ob) (congrArg List.length hob).symm) (val_isOf hRt2 hRl2) hle2)
                rwa [Nat.mul_comm]
              obtain ⟨hB2, hmu⟩ := hB.low hm hgt hmle
              conv => whnf
              refine ⟨[0, 1, 2, 3], [0, 1, 6, 7, 8, 9, 10], [0, 1, 2, 3], fun vs7 => ?_⟩
              conv => whnf
              refine ⟨hwa.1, hwb.1, isC_pure _, isC_pure _, ?_⟩
              conv => whnf
              refine ⟨_, _, ?_, ?_, ⟨(m, high, vs7), hB2⟩, hmu, rfl, rfl⟩
              · exact ⟨fun _ => rfl, fun _ => rfl, fun _ => rfl, fun _ => rfl, fun _ => rfl, fun _ => rfl, fun _ => rfl, fun _ => rfl, fun _ => rfl, sint_eq em _ _, fun _ => rfl, fun _ => rfl, fun _ => rfl, fun _ => rfl, fun _ => rfl, fun _ => rfl, fun _ => rfl, fun _ => rfl, fun _ => rfl, fun _ => rfl, fun _ => rfl, fun _ => rfl, fun _ => rfl, fun _ => rfl, fun _ => rfl, fun _ => rfl, fun _ => rfl, fun _ => rfl, fun _ => rfl, fun _ => rfl, fun _ => rfl, fun _ => rfl, fun _ => rfl, fun _ => rfl, fun _ => rfl, fun _ => rfl, fun _ => rfl, fun _ => rfl, fun _ => rfl, fun _ => rfl, fun _ => rfl, fun _ => rfl, fun _ => rfl, fun _ => rfl, fun _ => rfl, fun _ => rfl, fun _ => rfl, fun _ => rfl, fun _ => rfl, fun _ => rfl, fun _ => rfl, fun _ => rfl, fun _ => rfl, fun _ => rfl, fun _ => rfl, fun _ => rfl, fun _ => rfl, fun _ => rfl, fun _ => rfl, fun _ => rfl, fun _ => rfl, fun _ => rfl, trivial⟩
              · exact ⟨⟨rfl, rfl, rfl, fun _ => rfl⟩, ⟨rfl, rfl, rfl, fun _ => rfl⟩, ⟨rfl, rfl, rfl, fun _ => rfl⟩, ⟨rfl, rfl, rfl, fun _ => rfl⟩, trivial⟩
            · have hmle : ¬ m * n ≤ T := by
                have := of_decide_eq_false (dec_le (m := n * m) (n := T) (val_isOf (by rw [← hob]; exact IAt.ow ob) (congrArg List.length hob).symm) (val_isOf hRt2 hRl2) hle2)
                rwa [Nat.mul_comm]
              obtain ⟨hB2, hmu⟩ := hB.high hm hgt hmle
              conv => whnf
              refine ⟨[0, 1, 2, 3], [0, 1, 6, 7, 8, 9, 10], [0, 1, 2, 3], fun vs7 => ?_⟩
              conv => whnf
              refine ⟨hwa.1, hwb.1, isC_pure _, isC_pure _, ?_⟩
              conv => whnf
              refine ⟨_, _, ?_, ?_, ⟨(low, m, vs7), hB2⟩, hmu, rfl, rfl⟩
              · exact ⟨fun _ => rfl, fun _ => rfl, fun _ => rfl, fun _ => rfl, fun _ => rfl, fun _ => rfl, fun _ => rfl, fun _ => rfl, fun _ => rfl, fun _ => rfl, sint_eq em _ _, fun _ => rfl, fun _ => rfl, fun _ => rfl, fun _ => rfl, fun _ => rfl, fun _ => rfl, fun _ => rfl, fun _ => rfl, fun _ => rfl, fun _ => rfl, fun _ => rfl, fun _ => rfl, fun _ => rfl, fun _ => rfl, fun _ => rfl, fun _ => rfl, fun _ => rfl, fun _ => rfl, fun _ => rfl, fun _ => rfl, fun _ => rfl, fun _ => rfl, fun _ => rfl, fun _ => rfl, fun _ => rfl, fun _ => rfl, fun _ => rfl, fun _ => rfl, fun _ => rfl, fun _ => rfl, fun _ => rfl, fun _ => rfl, fun _ => rfl, fun _ => rfl, fun _ => rfl, fun _ => rfl, fun _ => rfl, fun _ => rfl, fun _ => rfl, fun _ => rfl, fun _ => rfl, fun _ => rfl, fun _ => rfl, fun _ => rfl, fun _ => rfl, fun _ => rfl, fun _ => rfl, fun _ => rfl, fun _ => rfl, fun _ => rfl, fun _ => rfl, trivial⟩
              · exact ⟨⟨rfl, rfl, rfl, fun _ => rfl⟩, ⟨rfl, rfl, rfl, fun _ => rfl⟩, ⟨rfl, rfl, rfl, fun _ => rfl⟩, ⟨rfl, rfl, rfl, fun _ => rfl⟩, trivial⟩
          · have hngt := bin_ngt hB.lt hB.le hgt
            conv => whnf
            exact hqx ⟨low, hB.done hngt⟩ (fun i => nth uv (uv :: uv :: _ :: _ :: _ :: _ :: uv :: uv :: uv :: uv :: _ :: _ :: _ :: _ :: _ :: _ :: _ :: _ :: _ :: _ :: _ :: _ :: _ :: _ :: _ :: _ :: _ :: _ :: _ :: _ :: _ :: _ :: _ :: _ :: _ :: _ :: _ :: _ :: _ :: _ :: _ :: _ :: _ :: _ :: _ :: _ :: _ :: _ :: _ :: _ :: _ :: _ :: _ :: _ :: _ :: _ :: _ :: _ :: _ :: _ :: _ :: _ :: []) i)
        · rintro ⟨low, hlo⟩ jj
          have hlo1 : low * n ≤ T := hlo.1
          have hlo2 : T < (low + 1) * n := hlo.2
          have hlow16 : low < 65536 := lowI (hj := hka) hT hI da hlo
          conv => whnf
          conv =>
            arg 2
            tactic' =>
              apply eff_index_sli (hi := hirk) (ho := ?how11) (hT := ?hTw11) (hx := ?hxw11) (hk := ?hkw11) (hlt := ?hltw11)
              case how11 => rfl
              case hTw11 => rfl
              case hxw11 => rfl
              case hkw11 => exact cint (pred_nat h0) hirk
              case hltw11 => exact hka
          conv => whnf
          conv =>
            arg 2
            tactic' =>
              apply eff_store_at (l := [iC (low)]) (cs := isC (lq.set (k - 1) low)) (ho := ?how12) (hT := ?hTw12) (hx := ?hxw12) (hy := ?hyw12) (hl := ?hlw12) (hb := ?hbw12) (hro := ?hrow12) (hs := ?hsw12)
              case how12 => rfl
              case hTw12 => rfl
              case hxw12 => rfl
              case hyw12 => exact congrArg (fun z => some [z]) (iC_eq hlow16 rfl)
              case hlw12 => exact ⟨rfl, rfl⟩
              case hbw12 => rfl
              case hrow12 => rfl
              case hsw12 => exact splice_is hkq _
          conv => whnf
          rw [forceL_eq]
          conv => whnf
          refine ⟨⟨hwb.1, trivial⟩, ⟨_, _, _, _, _, _, _, dig RB n, low, _, _, rfl, rfl, rfl, hwb, dig_Dl RB_two n, Nat.le_trans sb (by decide), hlow16, rfl, fun ob _ hob => ?_⟩⟩
          rw [val_dig RB_two] at hob
          conv => whnf
          refine ⟨⟨isC_pure _, isC_pure _, trivial⟩, ⟨_, _, _, _, _, _, _, dig RB T, _, _, _, _, _, _, _, ob.l, rfl, rfl, hRl2, rfl, hRt2, IAt.ow ob, dig_Dl RB_two T, by rw [hob]; exact dig_Dl RB_two _, hRs3, by rw [hob, ← hRl2]; exact dig_len_mono RB_two (by rw [Nat.mul_comm]; exact hlo1), by rw [hob, val_dig RB_two, val_dig RB_two, Nat.mul_comm]; exact hlo1, fun os hos => ?_⟩⟩
          rw [hob, val_dig RB_two, val_dig RB_two] at hos
          obtain ⟨hI2, -⟩ := hI.step h0 hn0 (hj := hka) da hT hlo1 hlo2 hos
          conv => whnf
          refine ⟨[0, 1, 2, 5], [0, 1, 6, 7, 8], [0, 1, 2, 3], fun vs8 => ?_⟩
          conv => whnf
          refine ⟨hwa.1, hwb.1, isC_pure _, isC_pure _, ?_⟩
          conv => whnf
          refine ⟨_, _, ?_, ?_, ⟨(k - 1, lq.set (k - 1) low, os, vs8), hI2⟩, Nat.sub_lt h0 Nat.one_pos, rfl, rfl⟩
          · exact ⟨fun _ => rfl, fun _ => rfl, fun _ => rfl, fun _ => rfl, fun _ => rfl, fun _ => rfl, fun _ => rfl, fun _ => rfl, sint_eq (cmp_dec h0 (ltI ha hI.hk)) _ _, fun _ => rfl, fun _ => rfl, fun _ => rfl, fun _ => rfl, fun _ => rfl, fun _ => rfl, fun _ => rfl, fun _ => rfl, fun _ => rfl, fun _ => rfl, fun _ => rfl, fun _ => rfl, fun _ => rfl, fun _ => rfl, fun _ => rfl, fun _ => rfl, fun _ => rfl, fun _ => rfl, fun _ => rfl, fun _ => rfl, fun _ => rfl, fun _ => rfl, fun _ => rfl, fun _ => rfl, fun _ => rfl, fun _ => rfl, fun _ => rfl, fun _ => rfl, fun _ => rfl, fun _ => rfl, fun _ => rfl, fun _ => rfl, fun _ => rfl, fun _ => rfl, fun _ => rfl, fun _ => rfl, fun _ => rfl, fun _ => rfl, fun _ => rfl, fun _ => rfl, fun _ => rfl, fun _ => rfl, fun _ => rfl, fun _ => rfl, fun _ => rfl, fun _ => rfl, fun _ => rfl, fun _ => rfl, fun _ => rfl, fun _ => rfl, fun _ => rfl, fun _ => rfl, fun _ => rfl, trivial⟩
          · exact ⟨⟨rfl, rfl, rfl, fun _ => rfl⟩, ⟨rfl, rfl, rfl, fun _ => rfl⟩, ⟨rfl, rfl, rfl, fun _ => rfl⟩, ⟨rfl, rfl, rfl, fun _ => rfl⟩, trivial⟩
    · have h0 : k = 0 := i_lt h0
      subst h0
      obtain ⟨hq1, hr1⟩ := hI.last hn0
      conv => whnf
      refine ⟨⟨isC_pure lq, trivial⟩, ⟨_, _, _, _, _, _, _, lq, rfl, rfl, hI.ql, ⟨isC_pure lq, [], [], by rw [List.append_nil]; rfl, rfl⟩, hI.dq, fun h6 => ?_⟩⟩
      conv => whnf
      refine ⟨[0, 1, 2, 3], [0, 1, 2, 3], fun vs9 => ?_⟩
      conv => whnf
      refine ⟨hwa.1, hwb.1, isC_pure _, isC_pure _, ?_⟩
      conv => whnf
      refine ⟨_, [(OI.ofTrim lq la.length h6 (Nat.le_of_eq hI.ql)).blk, r.blk], rfl, ⟨⟨rfl, rfl, rfl, fun _ => rfl⟩, ⟨rfl, rfl, rfl, fun _ => rfl⟩, ⟨rfl, rfl, ?_, fun ρ => ?_⟩, ⟨rfl, rfl, rfl, fun _ => rfl⟩, trivial⟩, ⟨OI.new _, OI.new _, trivial⟩, .tup [(OI.ofTrim lq la.length h6 (Nat.le_of_eq hI.ql)).t 2, r.t 3], fun ρ => tup2_den (ofTrim_t 2 ρ) rfl, hc _ r ?_ ?_⟩
      · rw [OI.ofTrim_blk]; have := hI.ql; show 0 = la.length - lq.length; omega
      · rw [OI.ofTrim_blk]
      · rw [OI.ofTrim_l hI.dq, hq1]
      · rw [hr1]; exact hI.hr
end Go.Proofs.YtbhcmajeoamloaaDoor

namespace Go.Proofs.YtbhcmajeoamloaaDoor
open Go.RowKit
set_option maxRecDepth 100000

theorem Num.len16 {k : Nat} {b : Bool} {s : ByteArray} {z : Int} (h : Num (k + 7) b s z) (hk : k ≤ 80000000) : (dig RB z.natAbs).length ≤ 50000000 := rdig_len_of h.sm (by omega)
def rquoC : List (FuncId × NewC) := [(59, cDigits), (65, cOver)]
theorem rquoC_ok : AllC Tryd.prog rquoC := .cons csDigits <| .cons csOver .nil
theorem isOf_ow (o : OI) {n : Nat} (h : o.l = dig RB n) : isOf o.blk.cs 0 o.l.length = o.l := isOf_oi o (rdl_eq h)
set_option maxHeartbeats 4000000 in
theorem spRQuoA : SpOk Tryd.prog 63 dQuoA := sp_num2H ⟨Tryd.func63, by kernel_rfl, by kernel_rfl⟩ (envN_ok .nil rdC_ok 0 fun _ => false) (mix_ok rquoC_ok (envN_ok .nil rdC_ok 0 fun _ => false) mixed noF_ok 0) (fun _ _ _ _ => rfl) fun X Y kX kY b s c t nX nY => by
  conv => whnf
  refine ⟨fun _ _ => rfl, trivial, ⟨_, c, t, rfl, rfl, NumA.raw, (nY.sz kY), fun oy hoy => ?_⟩⟩
  rw [nY.natAbs] at hoy
  conv => whnf
  refine bcase_intro (fun hz => ?_) (fun hz => ?_)
  · have hz : Y.z = 0 := by
      have h1 : oy.l.length = 0 := by have := of_decide_eq_true hz; omega
      rw [hoy] at h1
      have := (dig_len_zero RB_two).1 h1
      omega
    have e1 : (0 : Int) = X.z.tdiv Y.z := by rw [hz]; exact (Int.tdiv_zero _).symm
    have e2 : (0 : Int) = remZ X.z Y.z := by rw [hz]; rfl
    have e3 : ∀ ρ : Rho, (T1.c (.val (.bool false))).den ρ = (T1.c (.val (.bool (decide (Y.z ≠ 0))))).den ρ := fun _ => by rw [hz]; rfl
    conv => whnf
    exact fun ρ => tup3_den (wid_agg _ _ e1 ρ) (wid_agg _ _ e2 ρ) (e3 ρ)
  · have hz : Y.z ≠ 0 := fun e => of_decide_eq_false hz (by rw [hoy, e, Int.natAbs_zero, dig_zero]; rfl)
    have hn0 : 0 < Y.z.natAbs := by omega
    conv => whnf
    refine ⟨fun _ _ => rfl, trivial, ⟨_, b, s, rfl, rfl, NumA.raw, (nX.sz kX), fun ox hox => ?_⟩⟩
    rw [nX.natAbs] at hox
    have hvx : val RB ox.l = X.z.natAbs := by rw [hox, val_dig RB_two]
    have hqz : ∀ n : Nat, n = X.z.natAbs / Y.z.natAbs → n = (X.z.tdiv Y.z).natAbs := fun n e => by rw [e, Int.natAbs_tdiv]; rfl
    have hrz : X.z.natAbs % Y.z.natAbs = (remZ X.z Y.z).natAbs := by unfold remZ; rw [if_neg hz, Int.natAbs_tmod]
    have hrs : X.z.natAbs % Y.z.natAbs ≠ 0 → (b = true ↔ remZ X.z Y.z < 0) := fun h0 => by unfold remZ; rw [if_neg hz]; exact rem_sign nX.sgn h0
    conv => whnf
    refine ⟨⟨isC_pure _, isC_pure _, trivial⟩, ⟨_, _, _, _, _, _, _, ox.l, _, _, _, _, _, _, _, Y.z.natAbs, rfl, rfl, rfl, (congrArg List.length hoy).symm, IAt.ow ox, iat_eq oy hoy, rdl_eq hox, hn0, by rw [hox]; exact nX.len16 kX, by rw [hoy]; exact nY.len16 kY, fun oq or hoq hor => ?_⟩⟩
    rw [hvx] at hoq hor
    have hv1 : val RB oq.l = X.z.natAbs / Y.z.natAbs := by rw [hoq, val_dig RB_two]
    have hv2 : val RB or.l = X.z.natAbs % Y.z.natAbs := by rw [hor, val_dig RB_two]
    have hl1 : oq.l.length ≤ 1000000000 := by rw [hoq]; exact Nat.le_trans (dig_len_mono RB_two (Nat.div_le_self _ _)) (Nat.le_trans (nX.len16 kX) (by decide))
    have hl2 : or.l.length ≤ 1000000000 := by rw [hor]; exact Nat.le_trans (dig_len_mono RB_two (Nat.mod_le _ _)) (Nat.le_trans (nX.len16 kX) (by decide))
    conv => whnf
    refine ⟨⟨oq.l, IAt.ow oq, rfl, rdl_eq hoq, hl1⟩, ?_⟩
    conv => whnf
    refine ⟨⟨or.l, IAt.ow or, rfl, rdl_eq hor, hl2⟩, ?_⟩
    conv => whnf
    refine fun ρ => tup3_den ?_ ?_ ?_
    · rw [isOf_ow oq hoq, hv1]
      exact wv_agg _ (hqz _ rfl) (fun h0 => quo_sign nX.sgn nY.sgn h0) ρ
    · rw [isOf_ow or hor, hv2]
      exact wv_agg _ hrz hrs ρ
    · show Value.bool true = Value.bool (decide (Y.z ≠ 0))
      rw [decide_eq_true hz]
end Go.Proofs.YtbhcmajeoamloaaDoor

namespace Go.Proofs.YtbhcmajeoamloaaDoor
open Go.RowKit
set_option maxRecDepth 100000

def RGcdI (g : Nat) (ox oy : OI) : Prop := Nat.gcd (val RB ox.l) (val RB oy.l) = g ∧ ox.l = dig RB (val RB ox.l) ∧ oy.l = dig RB (val RB oy.l) ∧ ox.l.length ≤ 50000000 ∧ oy.l.length ≤ 50000000
set_option maxHeartbeats 8000000 in
theorem spRGcdA : SpOk Tryd.prog 23 dGcdA := sp_num2H ⟨Tryd.func23, by kernel_rfl, by kernel_rfl⟩ (envN_ok .nil rdC_ok 0 fun _ => false) (mix_ok rquoC_ok (envN_ok .nil rdC_ok 0 fun _ => false) mixed noF_ok 0) (fun _ _ _ _ => rfl) fun X Y kX kY b s c t nX nY => by
  conv => whnf
  refine ⟨fun _ _ => rfl, trivial, ⟨_, b, s, rfl, rfl, NumA.raw, (nX.sz kX), fun ox hox => ?_⟩⟩
  rw [nX.natAbs] at hox
  conv => whnf
  refine ⟨fun _ _ => rfl, trivial, ⟨_, c, t, rfl, rfl, NumA.raw, (nY.sz kY), fun oy hoy => ?_⟩⟩
  rw [nY.natAbs] at hoy
  have hvx : val RB ox.l = X.z.natAbs := by rw [hox, val_dig RB_two]
  have hvy : val RB oy.l = Y.z.natAbs := by rw [hoy, val_dig RB_two]
  conv => whnf
  refine loop_cut (G := {g : OI × OI × (Nat → Value) // RGcdI (Nat.gcd X.z.natAbs Y.z.natAbs) g.1 g.2.1}) (X := {x : OI × OI // val RB x.1.l = (Nat.gcd X.z.natAbs Y.z.natAbs) ∧ x.1.l = dig RB (val RB x.1.l) ∧ x.1.l.length ≤ 50000000}) (fun g => (.c (.val (g.1.2.2 0)) :: .c (.val (g.1.2.2 1)) :: .c (.val (g.1.2.2 2)) :: .c (.val (g.1.2.2 3)) :: .c (.ptr 0 0) :: (g.1.1.sl 1) :: (g.1.2.1.sl 2) :: .c (.val (g.1.2.2 7)) :: .c (.val (g.1.2.2 8)) :: .c (.val (g.1.2.2 9)) :: .c (.val (g.1.2.2 10)) :: .c (.val (g.1.2.2 11)) :: .c (.val (g.1.2.2 12)) :: .c (.val (g.1.2.2 13)) :: .c (.val (g.1.2.2 14)) :: .c (.val (g.1.2.2 15)) :: .c (.val (g.1.2.2 16)) :: .c (.val (g.1.2.2 17)) :: .c (.val (g.1.2.2 18)) :: .c (.val (g.1.2.2 19)) :: .c (.val (g.1.2.2 20)) :: .c (.val (g.1.2.2 21)) :: .c (.val (g.1.2.2 22)) :: .c (.val (g.1.2.2 23)) :: .c (.val (g.1.2.2 24)) :: .c (.val (g.1.2.2 25)) :: [])) (fun g => [⟨27, false, [.wid 0 0 (by unfold Sm; decide)], 0⟩, g.1.1.blk, g.1.2.1.blk]) (fun g => val RB g.1.2.1.l) 0 (fun x j => (j 0 :: j 1 :: j 2 :: j 3 :: .c (.ptr 0 0) :: (x.1.1.sl 1) :: j 6 :: j 7 :: j 8 :: j 9 :: j 10 :: j 11 :: j 12 :: j 13 :: j 14 :: j 15 :: j 16 :: j 17 :: j 18 :: j 19 :: j 20 :: j 21 :: j 22 :: j 23 :: j 24 :: j 25 :: [])) (fun x => [⟨27, false, [.wid 0 0 (by unfold Sm; decide)], 0⟩, x.1.1.blk, x.1.2.blk]) ?_ ?_ ?_
  · refine ⟨[2, 3, 4], [4, 5, 6], [0, 1, 2], fun vs => ?_⟩
    conv => whnf
    refine ⟨fun _ _ => rfl, isC_pure _, isC_pure _, ?_⟩
    conv => whnf
    refine ⟨_, _, ?_, ?_, ⟨(ox, oy, vs), by rw [hvx, hvy], by rw [hvx]; exact hox, by rw [hvy]; exact hoy, by rw [hox]; exact nX.len16 kX, by rw [hoy]; exact nY.len16 kY⟩, rfl, rfl⟩
    · exact ⟨fun _ => rfl, fun _ => rfl, fun _ => rfl, fun _ => rfl, fun _ => rfl, fun _ => rfl, fun _ => rfl, fun _ => rfl, fun _ => rfl, fun _ => rfl, fun _ => rfl, fun _ => rfl, fun _ => rfl, fun _ => rfl, fun _ => rfl, fun _ => rfl, fun _ => rfl, fun _ => rfl, fun _ => rfl, fun _ => rfl, fun _ => rfl, fun _ => rfl, fun _ => rfl, fun _ => rfl, fun _ => rfl, fun _ => rfl, trivial⟩
    · exact ⟨⟨rfl, rfl, rfl, fun _ => rfl⟩, ⟨rfl, rfl, rfl, fun _ => rfl⟩, ⟨rfl, rfl, rfl, fun _ => rfl⟩, trivial⟩
  · intro Qx hqx
    rintro ⟨⟨ox, oy, vs3⟩, h1, h2, h3, h4, h5⟩
    have h1 : Nat.gcd (val RB ox.l) (val RB oy.l) = (Nat.gcd X.z.natAbs Y.z.natAbs) := h1
    have h2 : ox.l = dig RB (val RB ox.l) := h2
    have h3 : oy.l = dig RB (val RB oy.l) := h3
    have h4 : ox.l.length ≤ 50000000 := h4
    have h5 : oy.l.length ≤ 50000000 := h5
    conv => whnf
    refine bcase_intro (fun h0 => ?_) (fun h0 => ?_)
    · have h0 : 0 < oy.l.length := nz_gt h0
      have hn0 : 0 < val RB oy.l := by
        rcases Nat.eq_zero_or_pos (val RB oy.l) with h1 | h1
        · rw [h1, dig_zero] at h3; rw [h3] at h0; exact absurd h0 (Nat.lt_irrefl 0)
        · exact h1
      conv => whnf
      refine ⟨⟨isC_pure _, isC_pure _, trivial⟩, ⟨_, _, _, _, _, _, _, ox.l, _, _, _, _, _, _, _, val RB oy.l, rfl, rfl, rfl, (congrArg List.length h3).symm, IAt.ow ox, iat_eq oy h3, rdl_eq h2, hn0, h4, h5, fun oq or hoq hor => ?_⟩⟩
      have hv2 : val RB or.l = val RB ox.l % val RB oy.l := by rw [hor, val_dig RB_two]
      have hl2 : or.l.length ≤ 50000000 := by rw [hor]; exact Nat.le_trans (dig_len_mono RB_two (Nat.mod_le _ _)) (by rw [← h2]; exact h4)
      conv => whnf
      refine ⟨[0, 2, 4], [4, 5, 6], [0, 1, 2], fun vs2 => ?_⟩
      conv => whnf
      refine ⟨fun _ _ => rfl, isC_pure _, isC_pure _, ?_⟩
      conv => whnf
      refine ⟨_, _, ?_, ?_, ⟨(oy, or, vs2), by rw [hv2, Nat.gcd_comm, ← Nat.gcd_rec, Nat.gcd_comm]; exact h1, h3, by rw [hv2]; exact hor, h5, hl2⟩, by show val RB or.l < val RB oy.l; rw [hv2]; exact Nat.mod_lt _ hn0, rfl, rfl⟩
      · exact ⟨fun _ => rfl, fun _ => rfl, fun _ => rfl, fun _ => rfl, fun _ => rfl, fun _ => rfl, fun _ => rfl, fun _ => rfl, fun _ => rfl, fun _ => rfl, fun _ => rfl, fun _ => rfl, fun _ => rfl, fun _ => rfl, fun _ => rfl, fun _ => rfl, fun _ => rfl, fun _ => rfl, fun _ => rfl, fun _ => rfl, fun _ => rfl, fun _ => rfl, fun _ => rfl, fun _ => rfl, fun _ => rfl, fun _ => rfl, trivial⟩
      · exact ⟨⟨rfl, rfl, rfl, fun _ => rfl⟩, ⟨rfl, rfl, rfl, fun _ => rfl⟩, ⟨rfl, rfl, rfl, fun _ => rfl⟩, trivial⟩
    · have h0 : oy.l.length = 0 := len_zero h0
      conv => whnf
      exact hqx ⟨(ox, oy), by rw [← h1, List.eq_nil_of_length_eq_zero h0]; exact (Nat.gcd_zero_right _).symm, h2, h4⟩ (fun i => nth uv (_ :: _ :: _ :: _ :: uv :: uv :: _ :: _ :: _ :: _ :: _ :: _ :: _ :: _ :: _ :: _ :: _ :: _ :: _ :: _ :: _ :: _ :: _ :: _ :: _ :: _ :: []) i)
  · rintro ⟨⟨ox, oy⟩, h1, h2, h4⟩ jj
    have h1 : val RB ox.l = (Nat.gcd X.z.natAbs Y.z.natAbs) := h1
    have h2 : ox.l = dig RB (val RB ox.l) := h2
    have h4 : ox.l.length ≤ 50000000 := h4
    conv => whnf
    refine ⟨⟨ox.l, IAt.ow ox, rfl, by rw [h2]; exact dig_Dl RB_two _, Nat.le_trans h4 (by decide)⟩, ?_⟩
    conv => whnf
    intro ρ
    rw [isOf_ow ox h2]
    exact wv_sv _ h1 (fun _ => ⟨fun h => (by cases h), fun h => absurd h (by omega)⟩) ρ
end Go.Proofs.YtbhcmajeoamloaaDoor

namespace Go.Proofs.YtbhcmajeoamloaaDoor
open Go.RowKit
set_option maxRecDepth 100000

/-- the root's digits from place i on -/
structure RtI (x k i : Nat) (r : OI) : Prop where
  lo : val RB r.l * val RB r.l * RB ^ (2 * i) ≤ x
  hi : x < (val RB r.l + 1) * (val RB r.l + 1) * RB ^ (2 * i)
  dl : Dl RB r.l
  len : r.l.length + i = k
structure RbI (x i R low high : Nat) : Prop where
  lo : (low + RB * R) * (low + RB * R) * RB ^ (2 * i) ≤ x
  hi : x < (high + RB * R) * (high + RB * R) * RB ^ (2 * i)
  lt : low < high
  le : high ≤ 65536
theorem RtI.start {x k : Nat} (hk : (dig RB x).length ≤ 2 * k) : RtI x k k OI.nil := by
  refine ⟨?_, ?_, Dl.nil _, Nat.zero_add _⟩
  · show 0 * 0 * _ ≤ x
    rw [Nat.zero_mul]; exact Nat.zero_le _
  · show x < (0 + 1) * (0 + 1) * RB ^ (2 * k)
    have h1 := lt_of_dig_length RB_two x
    have h2 : RB ^ (dig RB x).length ≤ RB ^ (2 * k) := Nat.pow_le_pow_right RB_pos hk
    rw [Nat.zero_add, Nat.mul_one, Nat.one_mul]
    exact Nat.lt_of_lt_of_le h1 h2
theorem pow_two_pred {i : Nat} (h0 : 0 < i) : RB ^ (2 * i) = RB ^ (2 * (i - 1)) * RB * RB := by
  rw [show 2 * i = 2 * (i - 1) + 1 + 1 by omega, Nat.pow_succ, Nat.pow_succ]
theorem rt_e1 {B R P : Nat} : (0 + B * R) * (0 + B * R) * P = R * R * (P * B * B) := by grind
theorem rt_e2 {B R P : Nat} : (B + B * R) * (B + B * R) * P = (R + 1) * (R + 1) * (P * B * B) := by grind
theorem RbI.start {x k i : Nat} {r : OI} (h : RtI x k i r) (h0 : 0 < i) : RbI x (i - 1) (val RB r.l) 0 65536 := by
  obtain ⟨h1, h2, -, -⟩ := h
  rw [pow_two_pred h0] at h1 h2
  have hB : RB = 65536 := RB_eq
  refine ⟨?_, ?_, by decide, Nat.le_refl _⟩
  · rw [rt_e1]; exact h1
  · rw [← hB, rt_e2]; exact h2
theorem RbI.low {x i R low high m : Nat} (h : RbI x i R low high) (hm : m = (low + high) / 2) (h2 : 1 < high - low) (hle : (m + RB * R) * (m + RB * R) * RB ^ (2 * i) ≤ x) : RbI x i R m high ∧ high - m < high - low := by
  have := h.lt
  exact ⟨⟨hle, h.hi, by omega, h.le⟩, by omega⟩
theorem RbI.high {x i R low high m : Nat} (h : RbI x i R low high) (hm : m = (low + high) / 2) (h2 : 1 < high - low) (hle : ¬ (m + RB * R) * (m + RB * R) * RB ^ (2 * i) ≤ x) : RbI x i R low m ∧ m - low < high - low := by
  have := h.lt; have := h.le
  exact ⟨⟨h.lo, Nat.lt_of_not_le hle, by omega, by omega⟩, by omega⟩
theorem RbI.done {x i R low high : Nat} (h : RbI x i R low high) (h2 : high - low ≤ 1) : (low + RB * R) * (low + RB * R) * RB ^ (2 * i) ≤ x ∧ x < (low + 1 + RB * R) * (low + 1 + RB * R) * RB ^ (2 * i) ∧ low < 65536 := by
  have h3 := h.lt
  have e : high = low + 1 := by omega
  rw [← e]
  exact ⟨h.lo, h.hi, by have := h.le; omega⟩
theorem rdl_cons {x : Nat} {l : List Nat} (hx : x < 65536) (hd : Dl RB l) : Dl RB (x :: l) := fun d hm => by
  rcases List.mem_cons.1 hm with rfl | hm
  · rw [RB_eq]; exact hx
  · exact hd d hm
theorem RtI.step {x k i low : Nat} {r o : OI} (h : RtI x k i r) (h0 : 0 < i) (hl : (low + RB * val RB r.l) * (low + RB * val RB r.l) * RB ^ (2 * (i - 1)) ≤ x) (hh : x < (low + 1 + RB * val RB r.l) * (low + 1 + RB * val RB r.l) * RB ^ (2 * (i - 1))) (h16 : low < 65536) (ho : o.l = low :: r.l) : RtI x k (i - 1) o := by
  have hv : val RB o.l = low + RB * val RB r.l := by rw [ho, val_cons]
  refine ⟨by rw [hv]; exact hl, ?_, ?_, ?_⟩
  · rw [hv, show low + RB * val RB r.l + 1 = low + 1 + RB * val RB r.l by omega]; exact hh
  · rw [ho]; exact rdl_cons h16 h.dl
  · rw [ho, List.length_cons]; have := h.len; omega
theorem RtI.last {x k : Nat} {r : OI} (h : RtI x k 0 r) : isq x = val RB r.l := by
  obtain ⟨h1, h2, -, -⟩ := h
  rw [Nat.mul_zero, Nat.pow_zero, Nat.mul_one] at h1 h2
  exact isq_eq h1 h2
theorem val_shifted (n : Nat) (l : List Nat) : val RB (List.replicate n 0 ++ l) = val RB l * RB ^ n := by
  rw [val_append, val_replicate, List.length_replicate, Nat.zero_add, Nat.mul_comm]
end Go.Proofs.YtbhcmajeoamloaaDoor

namespace Go.Proofs.YtbhcmajeoamloaaDoor
open Go.RowKit
set_option maxRecDepth 100000

theorem bool_s2 {a b : Bool} (e : a = b) (ρ : Rho) : (SV.c (.val (.bool a))).den ρ = (SV.c (.val (.bool b))).den ρ := by subst e; rfl
def dRNeg : Dn := num1 fun X => .c (.val (.bool (decide (X.z < 0))))
theorem neg_y {n : Nat} {z : Int} (h : n = (dig RB z.natAbs).length) (hz : z ≤ 0) : decide ((0 : Int) < (n : Int)) = decide (z < 0) := by
  by_cases h0 : z = 0
  · subst h0
    have : n = 0 := by rw [h]; show (dig RB 0).length = 0; rw [dig_zero]; rfl
    subst this; rfl
  · have : n ≠ 0 := fun e => by rw [e] at h; have := (dig_len_zero RB_two).1 h.symm; omega
    rw [decide_eq_true (by omega : z < 0), decide_eq_true (by omega)]
set_option maxHeartbeats 4000000 in
theorem spRNeg : SpOk Tryd.prog 84 dRNeg := sp_num1H ⟨Tryd.func84, by kernel_rfl, by kernel_rfl⟩ (envN_ok .nil rdC_ok 0 fun _ => false) (mix_ok rquoC_ok (envN_ok .nil rdC_ok 0 fun _ => false) mixed noF_ok 0) (fun _ _ _ => rfl) fun X kX b s nX => by
  conv => whnf
  refine bcase_intro (fun hb => ?_) (fun hb => ?_)
  · conv => whnf
    refine ⟨fun _ _ => rfl, trivial, ⟨_, b, s, rfl, rfl, NumA.raw, (nX.sz kX), fun ox hox => ?_⟩⟩
    rw [nX.natAbs] at hox
    have hz : X.z ≤ 0 := by rcases nX.sgn with ⟨_, h⟩ | ⟨h, _⟩; exact h; rw [hb] at h; cases h
    conv => whnf
    exact fun ρ => bool_s2 (neg_y (congrArg List.length hox) hz) ρ
  · have hz : ¬ X.z < 0 := by rcases nX.sgn with ⟨h, _⟩ | ⟨_, h⟩; rw [hb] at h; cases h; omega
    conv => whnf
    exact fun ρ => bool_s2 (decide_eq_false hz).symm ρ
def OI.cons (x : Nat) (l : List Nat) (cap : Nat) (h : SliOk false (1 + l.length) cap) : OI := ⟨x :: l, [], false, cap, by rw [List.length_cons, Nat.add_comm]; exact h, by rw [List.append_nil, List.length_cons, Nat.add_comm]; exact h.1⟩
theorem OI.cons_sl {x : Nat} {l : List Nat} {cap : Nat} {d : Bool} {h : SliOk (false && d) (1 + l.length) cap} {h' : SliOk false (1 + l.length) cap} (b : Nat) (ρ : Rho) : (SV.c (.sli (false && d) b 0 (1 + l.length) cap h)).den ρ = ((OI.cons x l cap h').sl b).den ρ := by
  simp only [OI.sl, OI.cons, SV.den, C.den, C.cells, Bool.false_and, List.length_cons, Nat.add_comm]
theorem sli_tl {m : Nat} {l : List Nat} {cap : Nat} (hs : SliOk false (1 + l.length) cap) : SliOk false (tlen (m :: l)) cap := ⟨Nat.le_trans (tlen_le _) (by rw [List.length_cons, Nat.add_comm]; exact hs.1), hs.2.1, fun h => by cases h⟩
theorem sli_eq {n : Nat} (h : n ≤ 1000000000) : SliOk false n n := ⟨Nat.le_refl _, by omega, fun h => by cases h⟩
theorem irk {i : Nat} (h : i ≤ 100000000) : IR ((i : Int) - 1) := by unfold IR; omega
theorem root_i {n : Nat} (h : n ≤ 80000000) : IntKind.i64.wrap (IntKind.i64.wrap ((IntKind.i64.wrap ((n : Int) + 1)).tdiv 2) - 1) = (((n + 1) / 2 : Nat) : Int) - 1 := by
  rw [half_make h, wrap_id (by unfold IR; omega)]
theorem two_i {i : Nat} (h0 : 0 < i) (h : i ≤ 100000000) : IntKind.i64.wrap (2 * ((i : Int) - 1)) = ((2 * (i - 1) : Nat) : Int) := by
  rw [wrap_id (by unfold IR; omega)]; omega
theorem iat_rep {n : Nat} {l : List Nat} : IAt (repX n (iC 0) ++ isC l) 0 (List.replicate n 0 ++ l) := by
  rw [isC_rep, ← isC_append]; exact IAt.mk' _
theorem RtI.le {x k i : Nat} {r : OI} (h : RtI x k i r) : i ≤ k := by have := h.len; omega
theorem RtI.rl {x k i : Nat} {r : OI} (h : RtI x k i r) : r.l.length ≤ k := by have := h.len; omega
theorem rt_val {m n P R B : Nat} (hn : n = (m + B * R) * (m + B * R)) : n * P = (m + B * R) * (m + B * R) * P := by rw [hn]
theorem leN {a b : Nat} {z : Int} (h : z = (a : Int)) (hb : a ≤ b) (hb2 : b ≤ 1000000000) : IR z := by unfold IR; omega
def rootE : List (FuncId × Dn) := [(84, dRNeg)]
theorem rootE_ok : AllOk rootE := .cons spRNeg .nil
def rrootC : List (FuncId × NewC) := (70, cTrim) :: (58, cTimes) :: rquoC
theorem rrootC_ok : AllC Tryd.prog rrootC := .cons csTrim <| .cons csTimes rquoC_ok
theorem sq_len {T : Nat} {o : OI} (ho : o.l = dig RB (T * T)) (h : (dig RB T).length ≤ 100000001) : o.l.length ≤ 200000002 := by
  rw [ho]
  refine Nat.le_trans (dig_length_le RB_two (k := (dig RB T).length + (dig RB T).length) ?_) (by omega)
  have h1 := lt_of_dig_length RB_two T
  rw [Nat.pow_add]
  exact Nat.mul_lt_mul'' h1 h1
set_option maxHeartbeats 40000000 in
theorem spRRootA : SpOk Tryd.prog 73 dRootA := sp_num1H ⟨Tryd.func73, by kernel_rfl, by kernel_rfl⟩ (envN_ok rootE_ok rdC_ok 0 fun i => i == 13) (mix_ok rrootC_ok (envN_ok rootE_ok rdC_ok 0 fun i => i == 13) mixed noF_ok 0) (fun _ _ _ => rfl) fun X kX b s nX => by
  have hs8 : 8 * s.size ≤ 80000000 := by have := nX.2; omega
  have eX : ival b s.data.toList = X.z := nX.1
  conv => whnf
  refine ⟨hs8, ?_⟩
  conv => whnf
  refine bcase_intro (fun hz => ?_) (fun hz => ?_)
  · have hz : X.z < 0 := eX ▸ of_decide_eq_true hz
    conv => whnf
    refine fun ρ => tup2_sv (wid_agg _ _ (by unfold rootZ; rw [if_pos hz]) ρ) ?_
    show Value.bool false = Value.bool (decide (0 ≤ X.z))
    rw [decide_eq_false (by omega)]
  · have hz : ¬ X.z < 0 := eX ▸ of_decide_eq_false hz
    conv => whnf
    refine ⟨fun _ _ => rfl, trivial, ⟨_, b, s, rfl, rfl, NumA.raw, (nX.sz kX), fun ox hox => ?_⟩⟩
    rw [nX.natAbs] at hox
    have hx5 : (dig RB X.z.natAbs).length ≤ 50000000 := nX.len16 kX
    have hol5 : ox.l.length ≤ 50000000 := by rw [hox]; exact hx5
    have hox1 : ox.l.length ≤ 1000000000 := Nat.le_trans hol5 (by decide)
    have hoxd : ox.l = dig RB (val RB ox.l) := by rw [hox, val_dig RB_two]
    have hK : ((ox.l.length + 1) / 2) ≤ 100000000 := by omega
    conv => whnf
    refine loop_st (G := {g : Nat × OI × (Nat → Value) // RtI X.z.natAbs ((ox.l.length + 1) / 2) g.1 g.2.1}) (fun g => (.c (.val (g.1.2.2 0)) :: .c (.val (g.1.2.2 1)) :: .c (.ptr 0 0) :: .c (.val (g.1.2.2 3)) :: (ox.sl 1) :: (g.1.2.1.sl 2) :: .c (.int ((g.1.1 : Nat) - 1 : Int) (irk (Nat.le_trans g.2.le hK))) :: .c (.val (g.1.2.2 7)) :: .c (.val (g.1.2.2 8)) :: .c (.val (g.1.2.2 9)) :: .c (.val (g.1.2.2 10)) :: .c (.val (g.1.2.2 11)) :: .c (.val (g.1.2.2 12)) :: .c (.val (g.1.2.2 13)) :: .c (.val (g.1.2.2 14)) :: .c (.val (g.1.2.2 15)) :: .c (.val (g.1.2.2 16)) :: .c (.val (g.1.2.2 17)) :: .c (.val (g.1.2.2 18)) :: .c (.val (g.1.2.2 19)) :: .c (.val (g.1.2.2 20)) :: .c (.val (g.1.2.2 21)) :: .c (.val (g.1.2.2 22)) :: .c (.val (g.1.2.2 23)) :: .c (.val (g.1.2.2 24)) :: .c (.val (g.1.2.2 25)) :: .c (.val (g.1.2.2 26)) :: .c (.val (g.1.2.2 27)) :: .c (.val (g.1.2.2 28)) :: .c (.val (g.1.2.2 29)) :: .c (.val (g.1.2.2 30)) :: .c (.val (g.1.2.2 31)) :: .c (.val (g.1.2.2 32)) :: .c (.val (g.1.2.2 33)) :: .c (.val (g.1.2.2 34)) :: .c (.val (g.1.2.2 35)) :: .c (.val (g.1.2.2 36)) :: .c (.val (g.1.2.2 37)) :: .c (.val (g.1.2.2 38)) :: .c (.val (g.1.2.2 39)) :: .c (.val (g.1.2.2 40)) :: .c (.val (g.1.2.2 41)) :: .c (.val (g.1.2.2 42)) :: .c (.val (g.1.2.2 43)) :: .c (.val (g.1.2.2 44)) :: .c (.val (g.1.2.2 45)) :: .c (.val (g.1.2.2 46)) :: .c (.val (g.1.2.2 47)) :: .c (.val (g.1.2.2 48)) :: .c (.val (g.1.2.2 49)) :: .c (.val (g.1.2.2 50)) :: .c (.val (g.1.2.2 51)) :: .c (.val (g.1.2.2 52)) :: .c (.val (g.1.2.2 53)) :: .c (.val (g.1.2.2 54)) :: .c (.val (g.1.2.2 55)) :: .c (.val (g.1.2.2 56)) :: .c (.val (g.1.2.2 57)) :: .c (.val (g.1.2.2 58)) :: .c (.val (g.1.2.2 59)) :: [])) (fun g => [⟨27, false, [.wid 0 0 (by unfold Sm; decide)], 0⟩, ox.blk, g.1.2.1.blk]) (fun g => g.1.1) ?_ ?_
    · refine ⟨[1, 2, 1000 + 3], [2, 4, 5, 6], [0, 1, 2], fun vs => ?_⟩
      conv => whnf
      refine ⟨fun _ _ => rfl, isC_pure _, ?_⟩
      conv => whnf
      refine ⟨_, _, ?_, ?_, ⟨(((ox.l.length + 1) / 2), OI.nil, vs), RtI.start (by rw [← hox]; omega)⟩, rfl, rfl⟩
      · exact ⟨fun _ => rfl, fun _ => rfl, fun _ => rfl, fun _ => rfl, fun _ => rfl, fun _ => rfl, sint_eq (root_i (Nat.le_trans hol5 (by decide))) _ _, fun _ => rfl, fun _ => rfl, fun _ => rfl, fun _ => rfl, fun _ => rfl, fun _ => rfl, fun _ => rfl, fun _ => rfl, fun _ => rfl, fun _ => rfl, fun _ => rfl, fun _ => rfl, fun _ => rfl, fun _ => rfl, fun _ => rfl, fun _ => rfl, fun _ => rfl, fun _ => rfl, fun _ => rfl, fun _ => rfl, fun _ => rfl, fun _ => rfl, fun _ => rfl, fun _ => rfl, fun _ => rfl, fun _ => rfl, fun _ => rfl, fun _ => rfl, fun _ => rfl, fun _ => rfl, fun _ => rfl, fun _ => rfl, fun _ => rfl, fun _ => rfl, fun _ => rfl, fun _ => rfl, fun _ => rfl, fun _ => rfl, fun _ => rfl, fun _ => rfl, fun _ => rfl, fun _ => rfl, fun _ => rfl, fun _ => rfl, fun _ => rfl, fun _ => rfl, fun _ => rfl, fun _ => rfl, fun _ => rfl, fun _ => rfl, fun _ => rfl, fun _ => rfl, fun _ => rfl, trivial⟩
      · exact ⟨⟨rfl, rfl, rfl, fun _ => rfl⟩, ⟨rfl, rfl, rfl, fun _ => rfl⟩, ⟨rfl, rfl, rfl, fun _ => rfl⟩, trivial⟩
    · rintro ⟨⟨i, r, vs⟩, hI⟩
      have hI : RtI X.z.natAbs ((ox.l.length + 1) / 2) i r := hI
      conv => whnf
      refine bcase_intro (fun h0 => ?_) (fun h0 => ?_)
      · have h0 : 0 < i := i_ge h0
        have hi8 : i ≤ 100000000 := Nat.le_trans hI.le hK
        have hrl : r.l.length ≤ 100000000 := Nat.le_trans hI.rl hK
        have hroom : (1 + r.l.length) * 1 ≤ 5000000000000 := by omega
        have htw := two_i h0 hi8
        have h2i : 2 * (i - 1) ≤ 1000000000 := by omega
        conv => whnf
        refine loop_cut (G := {g : Nat × Nat × (Nat → Value) // RbI X.z.natAbs (i - 1) (val RB r.l) g.1 g.2.1}) (X := {x : Nat // (x + RB * val RB r.l) * (x + RB * val RB r.l) * RB ^ (2 * (i - 1)) ≤ X.z.natAbs ∧ X.z.natAbs < (x + 1 + RB * val RB r.l) * (x + 1 + RB * val RB r.l) * RB ^ (2 * (i - 1)) ∧ x < 65536}) (fun g => (.c (.val (g.1.2.2 0)) :: .c (.val (g.1.2.2 1)) :: .c (.ptr 0 0) :: .c (.val (g.1.2.2 3)) :: (ox.sl 1) :: (r.sl 2) :: .c (.int ((i : Nat) - 1 : Int) (irk hi8)) :: .c (.int (g.1.1 : Nat) (ir_nat (Nat.le_trans (Nat.le_of_lt (Nat.lt_of_lt_of_le g.2.lt g.2.le)) (by decide)))) :: .c (.int (g.1.2.1 : Nat) (ir_nat (Nat.le_trans g.2.le (by decide)))) :: .c (.val (g.1.2.2 9)) :: .c (.val (g.1.2.2 10)) :: .c (.val (g.1.2.2 11)) :: .c (.val (g.1.2.2 12)) :: .c (.val (g.1.2.2 13)) :: .c (.val (g.1.2.2 14)) :: .c (.val (g.1.2.2 15)) :: .c (.val (g.1.2.2 16)) :: .c (.val (g.1.2.2 17)) :: .c (.val (g.1.2.2 18)) :: .c (.val (g.1.2.2 19)) :: .c (.val (g.1.2.2 20)) :: .c (.val (g.1.2.2 21)) :: .c (.val (g.1.2.2 22)) :: .c (.val (g.1.2.2 23)) :: .c (.val (g.1.2.2 24)) :: .c (.val (g.1.2.2 25)) :: .c (.val (g.1.2.2 26)) :: .c (.val (g.1.2.2 27)) :: .c (.val (g.1.2.2 28)) :: .c (.val (g.1.2.2 29)) :: .c (.val (g.1.2.2 30)) :: .c (.val (g.1.2.2 31)) :: .c (.val (g.1.2.2 32)) :: .c (.val (g.1.2.2 33)) :: .c (.val (g.1.2.2 34)) :: .c (.val (g.1.2.2 35)) :: .c (.val (g.1.2.2 36)) :: .c (.val (g.1.2.2 37)) :: .c (.val (g.1.2.2 38)) :: .c (.val (g.1.2.2 39)) :: .c (.val (g.1.2.2 40)) :: .c (.val (g.1.2.2 41)) :: .c (.val (g.1.2.2 42)) :: .c (.val (g.1.2.2 43)) :: .c (.val (g.1.2.2 44)) :: .c (.val (g.1.2.2 45)) :: .c (.val (g.1.2.2 46)) :: .c (.val (g.1.2.2 47)) :: .c (.val (g.1.2.2 48)) :: .c (.val (g.1.2.2 49)) :: .c (.val (g.1.2.2 50)) :: .c (.val (g.1.2.2 51)) :: .c (.val (g.1.2.2 52)) :: .c (.val (g.1.2.2 53)) :: .c (.val (g.1.2.2 54)) :: .c (.val (g.1.2.2 55)) :: .c (.val (g.1.2.2 56)) :: .c (.val (g.1.2.2 57)) :: .c (.val (g.1.2.2 58)) :: .c (.val (g.1.2.2 59)) :: [])) (fun g => [⟨27, false, [.wid 0 0 (by unfold Sm; decide)], 0⟩, ox.blk, r.blk]) (fun g => g.1.2.1 - g.1.1) 2 (fun x j => (j 0 :: j 1 :: .c (.ptr 0 0) :: j 3 :: (ox.sl 1) :: (r.sl 2) :: .c (.int ((i : Nat) - 1 : Int) (irk hi8)) :: .c (.int (x.1 : Nat) (ir_nat (Nat.le_trans (Nat.le_of_lt x.2.2.2) (by decide)))) :: j 8 :: j 9 :: j 10 :: j 11 :: j 12 :: j 13 :: j 14 :: j 15 :: j 16 :: j 17 :: j 18 :: j 19 :: j 20 :: j 21 :: j 22 :: j 23 :: j 24 :: j 25 :: j 26 :: j 27 :: j 28 :: j 29 :: j 30 :: j 31 :: j 32 :: j 33 :: j 34 :: j 35 :: j 36 :: j 37 :: j 38 :: j 39 :: j 40 :: j 41 :: j 42 :: j 43 :: j 44 :: j 45 :: j 46 :: j 47 :: j 48 :: j 49 :: j 50 :: j 51 :: j 52 :: j 53 :: j 54 :: j 55 :: j 56 :: j 57 :: j 58 :: j 59 :: [])) (fun x => [⟨27, false, [.wid 0 0 (by unfold Sm; decide)], 0⟩, ox.blk, r.blk]) ?_ ?_ ?_
        · refine ⟨[0, 1, 2], [2, 4, 5, 6, 7, 8], [0, 1, 2], fun vs5 => ?_⟩
          conv => whnf
          refine ⟨fun _ _ => rfl, isC_pure _, isC_pure _, ?_⟩
          conv => whnf
          refine ⟨_, _, ?_, ?_, ⟨(0, 65536, vs5), RbI.start hI h0⟩, rfl, rfl⟩
          · exact ⟨fun _ => rfl, fun _ => rfl, fun _ => rfl, fun _ => rfl, fun _ => rfl, fun _ => rfl, fun _ => rfl, fun _ => rfl, fun _ => rfl, fun _ => rfl, fun _ => rfl, fun _ => rfl, fun _ => rfl, fun _ => rfl, fun _ => rfl, fun _ => rfl, fun _ => rfl, fun _ => rfl, fun _ => rfl, fun _ => rfl, fun _ => rfl, fun _ => rfl, fun _ => rfl, fun _ => rfl, fun _ => rfl, fun _ => rfl, fun _ => rfl, fun _ => rfl, fun _ => rfl, fun _ => rfl, fun _ => rfl, fun _ => rfl, fun _ => rfl, fun _ => rfl, fun _ => rfl, fun _ => rfl, fun _ => rfl, fun _ => rfl, fun _ => rfl, fun _ => rfl, fun _ => rfl, fun _ => rfl, fun _ => rfl, fun _ => rfl, fun _ => rfl, fun _ => rfl, fun _ => rfl, fun _ => rfl, fun _ => rfl, fun _ => rfl, fun _ => rfl, fun _ => rfl, fun _ => rfl, fun _ => rfl, fun _ => rfl, fun _ => rfl, fun _ => rfl, fun _ => rfl, fun _ => rfl, fun _ => rfl, trivial⟩
          · exact ⟨⟨rfl, rfl, rfl, fun _ => rfl⟩, ⟨rfl, rfl, rfl, fun _ => rfl⟩, ⟨rfl, rfl, rfl, fun _ => rfl⟩, trivial⟩
        · intro Qx hqx
          rintro ⟨⟨low, high, vs6⟩, hB⟩
          have hB : RbI X.z.natAbs (i - 1) (val RB r.l) low high := hB
          conv => whnf
          refine bcase_intro (fun hgt => ?_) (fun hgt => ?_)
          · have hgt := bin_gt hB.lt hB.le hgt
            obtain ⟨m, hm⟩ : ∃ m, m = (low + high) / 2 := ⟨_, rfl⟩
            have hlt := hB.lt
            have hle := hB.le
            have em := (bin_mid (low := low) (high := high) (by omega) (by omega)).trans (congrArg (fun z : Nat => (z : Int)) hm.symm)
            have hm16 : m < 65536 := by omega
            obtain ⟨T, hT⟩ : ∃ T, T = m + RB * val RB r.l := ⟨_, rfl⟩
            have hTv : val RB (m :: r.l) = T := by rw [val_cons, hT]
            have dxr : Dl RB (m :: r.l) := rdl_cons hm16 hI.dl
            have hRl : (dig RB T).length = tlen (m :: r.l) := by rw [← hTv, tlen_rdig dxr]
            have hRs2 : tlen (m :: r.l) ≤ 200000000 := Nat.le_trans (tlen_le _) (by rw [List.length_cons]; omega)
            have hT25 : (dig RB T).length ≤ 100000001 := by rw [hRl]; exact Nat.le_trans (tlen_le _) (by rw [List.length_cons]; omega)
            conv => whnf
            refine .inl ?_
            conv => whnf
            conv =>
              arg 2
              tactic' => exact (IAt.ow r).all rfl
            conv => whnf
            refine ⟨isC_one _, ?_⟩
            conv => whnf
            refine ⟨⟨rfl, rfl, rfl, fun _ => rfl, hroom⟩, fun cap2 hcap2 => ?_⟩
            have hs := slok_1 hcap2
            have hTat : ∀ {z : Int} {hz : IR z} (_ : z = m), IAt ([C.int z hz] ++ isC r.l) 0 (dig RB T) := fun e => by rw [← hTv]; exact iat_dig (iat_cons hm16 e) dxr
            conv => whnf
            refine imp_via (Z := ?Z1_0 ∧ ?Z1_1 ∧ ?Z1_2) (fun hmg => ?cur1) ?nxt1
            case cur1 =>
              refine ⟨?_, ?_, ?_, trivial⟩
              · conv => whnf
                exact hmg.1
              · conv => whnf
                exact hmg.2.1
              · conv => whnf
                exact hmg.2.2
            case nxt1 =>
              refine imp_via (Z := ?Z2_0 ∧ ?Z2_1 ∧ ?Z2_2 ∧ ?Z2_3 ∧ ?Z2_4) (fun hmg => ?cur2) ?nxt2
              case cur2 =>
                refine ⟨?_, ?_, ?_⟩
                · refine ⟨?_, ?_, ?_, trivial⟩
                  · conv => whnf
                    exact hmg.1
                  · conv => whnf
                    exact hmg.2.1
                  · conv => whnf
                    exact hmg.2.2.1
                · refine ⟨?_, ?_, ?_, trivial⟩
                  · conv => whnf
                    exact hmg.2.1
                  · conv => whnf
                    refine ⟨⟨pureL_append (fun _ _ => rfl) (isC_pure _), trivial⟩, ⟨_, _, _, _, _, _, _, m :: r.l, rfl, rfl, Nat.add_comm _ _, iat_cons hm16 em, dxr, fun h3 => ?_⟩⟩
                    obtain rfl : h3 = sli_tl (m := m) hs := rfl
                    conv => whnf
                    exact hmg.2.2.2.1
                  · conv => whnf
                    exact hmg.2.2.2.2
                · refine ⟨?_, ?_, trivial⟩
                  · conv => whnf
                    exact hmg.2.2.1
                  · conv => whnf
                    exact hmg.2.2.2.2
              case nxt2 =>
                refine imp_via (Z := ?Z3_0 ∧ ?Z3_1 ∧ ?Z3_2 ∧ ?Z3_3 ∧ ?Z3_4 ∧ ?Z3_5) (fun hmg => ?cur3) ?nxt3
                case cur3 =>
                  refine ⟨?_, ?_, ?_, ?_, ?_⟩
                  · refine ⟨?_, ?_, ?_, trivial⟩
                    · conv => whnf
                      refine ⟨rfl, 2 * (i - 1), 2 * (i - 1), htw, htw, Nat.le_refl _, h2i, fun h2 => ?_⟩
                      obtain rfl : h2 = sli_eq h2i := rfl
                      conv => whnf
                      exact hmg.1
                    · conv => whnf
                      exact hmg.2.1
                    · conv => whnf
                      exact hmg.2.2.1
                  · refine ⟨?_, ?_, ?_, trivial⟩
                    · conv => whnf
                      exact hmg.2.1
                    · conv => whnf
                      refine ⟨⟨pureL_append (fun _ _ => rfl) (isC_pure _), trivial⟩, ⟨_, _, _, _, _, _, _, m :: r.l, rfl, rfl, Nat.add_comm _ _, iat_cons hm16 em, dxr, fun h3 => ?_⟩⟩
                      obtain rfl : h3 = sli_tl (m := m) hs := rfl
                      conv => whnf
                      exact hmg.2.2.2.1
                    · conv => whnf
                      exact hmg.2.2.2.2.1
                  · refine ⟨?_, ?_, trivial⟩
                    · conv => whnf
                      exact hmg.2.2.1
                    · conv => whnf
                      exact hmg.2.2.2.2.1
                  · refine ⟨?_, ?_, trivial⟩
                    · conv => whnf
                      exact hmg.2.2.2.1
                    · conv => whnf
                      exact hmg.2.2.2.2.2
                  · refine ⟨?_, ?_, trivial⟩
                    · conv => whnf
                      exact hmg.2.2.2.2.1
                    · conv => whnf
                      refine ⟨⟨pureL_append (fun _ _ => rfl) (isC_pure _), trivial⟩, ⟨_, _, _, _, _, _, _, m :: r.l, rfl, rfl, Nat.add_comm _ _, iat_cons hm16 em, dxr, fun h3 => ?_⟩⟩
                      obtain rfl : h3 = sli_tl (m := m) hs := rfl
                      conv => whnf
                      exact hmg.2.2.2.2.2
                case nxt3 =>
                  refine imp_via (Z := ?Z4_0 ∧ ?Z4_1 ∧ ?Z4_2 ∧ ?Z4_3 ∧ ?Z4_4 ∧ ?Z4_5) (fun hmg => ?cur4) ?nxt4
                  case cur4 =>
                    refine ⟨?_, ?_, ?_, ?_, ?_, ?_⟩
                    · refine ⟨?_, ?_, trivial⟩
                      · conv => whnf
                        exact hmg.1
                      · conv => whnf
                        exact hmg.2.1
                    · refine ⟨?_, ?_, ?_, trivial⟩
                      · conv => whnf
                        refine ⟨rfl, 2 * (i - 1), 2 * (i - 1), htw, htw, Nat.le_refl _, h2i, fun h2 => ?_⟩
                        obtain rfl : h2 = sli_eq h2i := rfl
                        conv => whnf
                        exact hmg.1
                      · conv => whnf
                        refine ⟨⟨pureL_append (fun _ _ => rfl) (isC_pure _), trivial⟩, ⟨_, _, _, _, _, _, _, m :: r.l, rfl, rfl, Nat.add_comm _ _, iat_cons hm16 em, dxr, fun h3 => ?_⟩⟩
                        obtain rfl : h3 = sli_tl (m := m) hs := rfl
                        conv => whnf
                        exact hmg.2.2.1
                      · conv => whnf
                        exact hmg.2.2.2.1
                    · refine ⟨?_, ?_, trivial⟩
                      · conv => whnf
                        refine ⟨rfl, 2 * (i - 1), 2 * (i - 1), htw, htw, Nat.le_refl _, h2i, fun h2 => ?_⟩
                        obtain rfl : h2 = sli_eq h2i := rfl
                        conv => whnf
                        exact hmg.2.1
                      · conv => whnf
                        exact hmg.2.2.2.1
                    · refine ⟨?_, ?_, trivial⟩
                      · conv => whnf
                        exact hmg.2.2.1
                      · conv => whnf
                        exact hmg.2.2.2.2.1
                    · refine ⟨?_, ?_, trivial⟩
                      · conv => whnf
                        exact hmg.2.2.2.1
                      · conv => whnf
                        refine ⟨⟨pureL_append (fun _ _ => rfl) (isC_pure _), trivial⟩, ⟨_, _, _, _, _, _, _, m :: r.l, rfl, rfl, Nat.add_comm _ _, iat_cons hm16 em, dxr, fun h3 => ?_⟩⟩
                        obtain rfl : h3 = sli_tl (m := m) hs := rfl
                        conv => whnf
                        exact hmg.2.2.2.2.1
                    · refine ⟨?_, ?_, trivial⟩
                      · conv => whnf
                        exact hmg.2.2.2.2.1
                      · conv => whnf
                        refine ⟨⟨pureL_append (fun _ _ => rfl) (isC_pure _), trivial⟩, ⟨_, _, _, _, _, _, _, m :: r.l, rfl, rfl, Nat.add_comm _ _, iat_cons hm16 em, dxr, fun h3 => ?_⟩⟩
                        obtain rfl : h3 = sli_tl (m := m) hs := rfl
                        conv => whnf
                        exact hmg.2.2.2.2.2
                  case nxt4 =>
                    refine imp_via (Z := ?Z5_0 ∧ ?Z5_1 ∧ ?Z5_2 ∧ ?Z5_3) (fun hmg => ?cur5) ?nxt5
                    case cur5 =>
                      refine ⟨?_, ?_, ?_, ?_, ?_, ?_⟩
                      · refine ⟨?_, ?_, trivial⟩
                        · conv => whnf
                          refine ⟨⟨pureL_append (fun _ _ => rfl) (isC_pure _), trivial⟩, ⟨_, _, _, _, _, _, _, m :: r.l, rfl, rfl, Nat.add_comm _ _, iat_cons hm16 em, dxr, fun h3 => ?_⟩⟩
                          obtain rfl : h3 = sli_tl (m := m) hs := rfl
                          conv => whnf
                          exact hmg.1
                        · conv => whnf
                          exact hmg.2.1
                      · refine ⟨?_, trivial⟩
                        · conv => whnf
                          exact hmg.2.1
                      · refine ⟨?_, ?_, trivial⟩
                        · conv => whnf
                          refine ⟨rfl, 2 * (i - 1), 2 * (i - 1), htw, htw, Nat.le_refl _, h2i, fun h2 => ?_⟩
                          obtain rfl : h2 = sli_eq h2i := rfl
                          conv => whnf
                          exact hmg.1
                        · conv => whnf
                          exact hmg.2.2.1
                      · refine ⟨?_, ?_, trivial⟩
                        · conv => whnf
                          refine ⟨rfl, 2 * (i - 1), 2 * (i - 1), htw, htw, Nat.le_refl _, h2i, fun h2 => ?_⟩
                          obtain rfl : h2 = sli_eq h2i := rfl
                          conv => whnf
                          exact hmg.2.1
                        · conv => whnf
                          refine ⟨⟨pureL_append (fun _ _ => rfl) (isC_pure _), trivial⟩, ⟨_, _, _, _, _, _, _, m :: r.l, rfl, rfl, Nat.add_comm _ _, iat_cons hm16 em, dxr, fun h3 => ?_⟩⟩
                          obtain rfl : h3 = sli_tl (m := m) hs := rfl
                          conv => whnf
                          exact hmg.2.2.1
                      · refine ⟨?_, ?_, trivial⟩
                        · conv => whnf
                          exact hmg.2.2.1
                        · conv => whnf
                          refine ⟨⟨pureL_append (fun _ _ => rfl) (isC_pure _), trivial⟩, ⟨_, _, _, _, _, _, _, m :: r.l, rfl, rfl, Nat.add_comm _ _, iat_cons hm16 em, dxr, fun h3 => ?_⟩⟩
                          obtain rfl : h3 = sli_tl (m := m) hs := rfl
                          conv => whnf
                          exact hmg.2.2.2
                      · refine ⟨?_, ?_, trivial⟩
                        · conv => whnf
                          exact hmg.2.2.2
                        · clear hmg
                          conv => whnf
                          refine ⟨⟨pureL_append (fun _ _ => rfl) (isC_pure _), pureL_append (fun _ _ => rfl) (isC_pure _), trivial⟩, ⟨_, _, _, _, _, _, _, dig RB T, _, _, _, _, _, _, _, dig RB T, rfl, rfl, hRl, hRl, hTat em, hTat em, dig_Dl RB_two T, dig_Dl RB_two T, hRs2, hRs2, trivial, fun o _ ho => ?_⟩⟩
                          rw [val_dig RB_two] at ho
                          have hol := sq_len ho hT25
                          have hov : val RB o.l = (m + RB * val RB r.l) * (m + RB * val RB r.l) := by rw [ho, val_dig RB_two, hT]
                          have hdo := rdl_eq ho
                          conv => whnf
                          refine ⟨?_, trivial⟩
                          conv => whnf
                          refine ⟨?_, trivial⟩
                          conv => whnf
                          refine ⟨?_, trivial⟩
                          conv => whnf
                          refine ⟨rfl, 2 * (i - 1), 2 * (i - 1), htw, htw, Nat.le_refl _, h2i, fun h2 => ?_⟩
                          obtain rfl : h2 = sli_eq h2i := rfl
                          conv => whnf
                          refine .inl ?_
                          conv => whnf
                          conv =>
                            arg 2
                            tactic' => exact (IAt.ow o).all rfl
                          conv => whnf
                          refine ⟨isC_one _, ?_⟩
                          conv => whnf
                          refine ⟨⟨rfl, rfl, by rw [Nat.mul_one]; exact sizeC_rep rfl _, fun _ => by rw [sizeC_rep rfl, Nat.sub_self, Nat.mul_one]; rfl, by omega⟩, fun cap3 hcap3 => ?_⟩
                          have hs3 := slok_1 hcap3
                          obtain ⟨LT, hLT⟩ : ∃ LT, LT = List.replicate (2 * (i - 1)) 0 ++ o.l := ⟨_, rfl⟩
                          have hLTl : LT.length = 2 * (i - 1) + o.l.length := by rw [hLT, List.length_append, List.length_replicate]
                          have hLTd : Dl RB LT := by rw [hLT]; exact (Dl.replicate RB_pos _).append hdo
                          have hLTv : val RB LT = (m + RB * val RB r.l) * (m + RB * val RB r.l) * RB ^ (2 * (i - 1)) := by rw [hLT, val_shifted, hov]
                          have hLTat : IAt (repX (2 * (i - 1)) (iC 0) ++ isC o.l) 0 LT := by rw [hLT]; exact iat_rep
                          conv => whnf
                          refine ⟨⟨pureL_append (irep_pure _) (isC_pure _), trivial⟩, ⟨_, _, _, _, _, _, _, LT, rfl, rfl, hLTl, hLTat, hLTd, fun h4 => ?_⟩⟩
                          have hRlt : (dig RB (val RB LT)).length = tlen LT := tlen_rdig hLTd
                          have hlt1 : tlen LT ≤ 1000000000 := Nat.le_trans (tlen_le _) (by rw [hLTl]; omega)
                          conv => whnf
                          refine ⟨⟨dig RB (val RB LT), ox.l, ⟨iat_dig hLTat hLTd, hRlt, by rw [val_dig RB_two], hlt1⟩, IAt.ow ox, rfl, hoxd, hox1⟩, ?_⟩
                          conv => whnf
                          refine bcase_intro (fun hle2 => ?_) (fun hle2 => ?_)
                          · have hmle : (m + RB * val RB r.l) * (m + RB * val RB r.l) * RB ^ (2 * (i - 1)) ≤ X.z.natAbs := of_decide_eq_true (dec_le (m := _) (n := X.z.natAbs) ((val_isOf (iat_dig hLTat hLTd) hRlt).trans hLTv) (val_isOf (by rw [← hox]; exact IAt.ow ox) (congrArg List.length hox).symm) hle2)
                            obtain ⟨hB2, hmu⟩ := hB.low hm hgt hmle
                            conv => whnf
                            refine ⟨[0, 1, 2], [2, 4, 5, 6, 7, 8], [0, 1, 2], fun vs7 => ?_⟩
                            conv => whnf
                            refine ⟨fun _ _ => rfl, isC_pure _, isC_pure _, ?_⟩
                            conv => whnf
                            refine ⟨_, _, ?_, ?_, ⟨(m, high, vs7), hB2⟩, hmu, rfl, rfl⟩
                            · exact ⟨fun _ => rfl, fun _ => rfl, fun _ => rfl, fun _ => rfl, fun _ => rfl, fun _ => rfl, fun _ => rfl, sint_eq em _ _, fun _ => rfl, fun _ => rfl, fun _ => rfl, fun _ => rfl, fun _ => rfl, fun _ => rfl, fun _ => rfl, fun _ => rfl, fun _ => rfl, fun _ => rfl, fun _ => rfl, fun _ => rfl, fun _ => rfl, fun _ => rfl, fun _ => rfl, fun _ => rfl, fun _ => rfl, fun _ => rfl, fun _ => rfl, fun _ => rfl, fun _ => rfl, fun _ => rfl, fun _ => rfl, fun _ => rfl, fun _ => rfl, fun _ => rfl, fun _ => rfl, fun _ => rfl, fun _ => rfl, fun _ => rfl, fun _ => rfl, fun _ => rfl, fun _ => rfl, fun _ => rfl, fun _ => rfl, fun _ => rfl, fun _ => rfl, fun _ => rfl, fun _ => rfl, fun _ => rfl, fun _ => rfl, fun _ => rfl, fun _ => rfl, fun _ => rfl, fun _ => rfl, fun _ => rfl, fun _ => rfl, fun _ => rfl, fun _ => rfl, fun _ => rfl, fun _ => rfl, fun _ => rfl, trivial⟩
                            · exact ⟨⟨rfl, rfl, rfl, fun _ => rfl⟩, ⟨rfl, rfl, rfl, fun _ => rfl⟩, ⟨rfl, rfl, rfl, fun _ => rfl⟩, trivial⟩
                          · have hmle : ¬ (m + RB * val RB r.l) * (m + RB * val RB r.l) * RB ^ (2 * (i - 1)) ≤ X.z.natAbs := of_decide_eq_false (dec_le (m := _) (n := X.z.natAbs) ((val_isOf (iat_dig hLTat hLTd) hRlt).trans hLTv) (val_isOf (by rw [← hox]; exact IAt.ow ox) (congrArg List.length hox).symm) hle2)
                            obtain ⟨hB2, hmu⟩ := hB.high hm hgt hmle
                            conv => whnf
                            refine ⟨[0, 1, 2], [2, 4, 5, 6, 7, 8], [0, 1, 2], fun vs7 => ?_⟩
                            conv => whnf
                            refine ⟨fun _ _ => rfl, isC_pure _, isC_pure _, ?_⟩
                            conv => whnf
                            refine ⟨_, _, ?_, ?_, ⟨(low, m, vs7), hB2⟩, hmu, rfl, rfl⟩
                            · exact ⟨fun _ => rfl, fun _ => rfl, fun _ => rfl, fun _ => rfl, fun _ => rfl, fun _ => rfl, fun _ => rfl, fun _ => rfl, sint_eq em _ _, fun _ => rfl, fun _ => rfl, fun _ => rfl, fun _ => rfl, fun _ => rfl, fun _ => rfl, fun _ => rfl, fun _ => rfl, fun _ => rfl, fun _ => rfl, fun _ => rfl, fun _ => rfl, fun _ => rfl, fun _ => rfl, fun _ => rfl, fun _ => rfl, fun _ => rfl, fun _ => rfl, fun _ => rfl, fun _ => rfl, fun _ => rfl, fun _ => rfl, fun _ => rfl, fun _ => rfl, fun _ => rfl, fun _ => rfl, fun _ => rfl, fun _ => rfl, fun _ => rfl, fun _ => rfl, fun _ => rfl, fun _ => rfl, fun _ => rfl, fun _ => rfl, fun _ => rfl, fun _ => rfl, fun _ => rfl, fun _ => rfl, fun _ => rfl, fun _ => rfl, fun _ => rfl, fun _ => rfl, fun _ => rfl, fun _ => rfl, fun _ => rfl, fun _ => rfl, fun _ => rfl, fun _ => rfl, fun _ => rfl, fun _ => rfl, fun _ => rfl, trivial⟩
                            · exact ⟨⟨rfl, rfl, rfl, fun _ => rfl⟩, ⟨rfl, rfl, rfl, fun _ => rfl⟩, ⟨rfl, rfl, rfl, fun _ => rfl⟩, trivial⟩
                    case nxt5 =>
                      refine imp_via (Z := ?Z6_0 ∧ ?Z6_1) (fun hmg => ?cur6) ?nxt6
                      case cur6 =>
                        refine ⟨?_, ?_, ?_, ?_⟩
                        · refine ⟨?_, trivial⟩
                          · conv => whnf
                            exact hmg.1
                        · refine ⟨?_, trivial⟩
                          · conv => whnf
                            refine ⟨⟨pureL_append (fun _ _ => rfl) (isC_pure _), trivial⟩, ⟨_, _, _, _, _, _, _, m :: r.l, rfl, rfl, Nat.add_comm _ _, iat_cons hm16 em, dxr, fun h3 => ?_⟩⟩
                            obtain rfl : h3 = sli_tl (m := m) hs := rfl
                            conv => whnf
                            exact hmg.1
                        · refine ⟨?_, ?_, trivial⟩
                          · conv => whnf
                            refine ⟨rfl, 2 * (i - 1), 2 * (i - 1), htw, htw, Nat.le_refl _, h2i, fun h2 => ?_⟩
                            obtain rfl : h2 = sli_eq h2i := rfl
                            conv => whnf
                            exact hmg.1
                          · conv => whnf
                            refine ⟨⟨pureL_append (fun _ _ => rfl) (isC_pure _), trivial⟩, ⟨_, _, _, _, _, _, _, m :: r.l, rfl, rfl, Nat.add_comm _ _, iat_cons hm16 em, dxr, fun h3 => ?_⟩⟩
                            obtain rfl : h3 = sli_tl (m := m) hs := rfl
                            conv => whnf
                            exact hmg.2
                        · refine ⟨?_, ?_, trivial⟩
                          · conv => whnf
                            exact hmg.2
                          · clear hmg
                            conv => whnf
                            refine ⟨⟨pureL_append (fun _ _ => rfl) (isC_pure _), pureL_append (fun _ _ => rfl) (isC_pure _), trivial⟩, ⟨_, _, _, _, _, _, _, dig RB T, _, _, _, _, _, _, _, dig RB T, rfl, rfl, hRl, hRl, hTat em, hTat em, dig_Dl RB_two T, dig_Dl RB_two T, hRs2, hRs2, trivial, fun o _ ho => ?_⟩⟩
                            rw [val_dig RB_two] at ho
                            have hol := sq_len ho hT25
                            have hov : val RB o.l = (m + RB * val RB r.l) * (m + RB * val RB r.l) := by rw [ho, val_dig RB_two, hT]
                            have hdo := rdl_eq ho
                            conv => whnf
                            refine ⟨?_, trivial⟩
                            conv => whnf
                            refine ⟨?_, trivial⟩
                            conv => whnf
                            refine ⟨rfl, 2 * (i - 1), 2 * (i - 1), htw, htw, Nat.le_refl _, h2i, fun h2 => ?_⟩
                            obtain rfl : h2 = sli_eq h2i := rfl
                            conv => whnf
                            refine .inl ?_
                            conv => whnf
                            conv =>
                              arg 2
                              tactic' => exact (IAt.ow o).all rfl
                            conv => whnf
                            refine ⟨isC_one _, ?_⟩
                            conv => whnf
                            refine ⟨⟨rfl, rfl, by rw [Nat.mul_one]; exact sizeC_rep rfl _, fun _ => by rw [sizeC_rep rfl, Nat.sub_self, Nat.mul_one]; rfl, by omega⟩, fun cap3 hcap3 => ?_⟩
                            have hs3 := slok_1 hcap3
                            obtain ⟨LT, hLT⟩ : ∃ LT, LT = List.replicate (2 * (i - 1)) 0 ++ o.l := ⟨_, rfl⟩
                            have hLTl : LT.length = 2 * (i - 1) + o.l.length := by rw [hLT, List.length_append, List.length_replicate]
                            have hLTd : Dl RB LT := by rw [hLT]; exact (Dl.replicate RB_pos _).append hdo
                            have hLTv : val RB LT = (m + RB * val RB r.l) * (m + RB * val RB r.l) * RB ^ (2 * (i - 1)) := by rw [hLT, val_shifted, hov]
                            have hLTat : IAt (repX (2 * (i - 1)) (iC 0) ++ isC o.l) 0 LT := by rw [hLT]; exact iat_rep
                            conv => whnf
                            refine ⟨⟨pureL_append (irep_pure _) (isC_pure _), trivial⟩, ⟨_, _, _, _, _, _, _, LT, rfl, rfl, hLTl, hLTat, hLTd, fun h4 => ?_⟩⟩
                            have hRlt : (dig RB (val RB LT)).length = tlen LT := tlen_rdig hLTd
                            have hlt1 : tlen LT ≤ 1000000000 := Nat.le_trans (tlen_le _) (by rw [hLTl]; omega)
                            conv => whnf
                            refine ⟨⟨dig RB (val RB LT), ox.l, ⟨iat_dig hLTat hLTd, hRlt, by rw [val_dig RB_two], hlt1⟩, IAt.ow ox, rfl, hoxd, hox1⟩, ?_⟩
                            conv => whnf
                            refine bcase_intro (fun hle2 => ?_) (fun hle2 => ?_)
                            · have hmle : (m + RB * val RB r.l) * (m + RB * val RB r.l) * RB ^ (2 * (i - 1)) ≤ X.z.natAbs := of_decide_eq_true (dec_le (m := _) (n := X.z.natAbs) ((val_isOf (iat_dig hLTat hLTd) hRlt).trans hLTv) (val_isOf (by rw [← hox]; exact IAt.ow ox) (congrArg List.length hox).symm) hle2)
                              obtain ⟨hB2, hmu⟩ := hB.low hm hgt hmle
                              conv => whnf
                              refine ⟨[0, 1, 2], [2, 4, 5, 6, 7, 8], [0, 1, 2], fun vs7 => ?_⟩
                              conv => whnf
                              refine ⟨fun _ _ => rfl, isC_pure _, isC_pure _, ?_⟩
                              conv => whnf
                              refine ⟨_, _, ?_, ?_, ⟨(m, high, vs7), hB2⟩, hmu, rfl, rfl⟩
                              · exact ⟨fun _ => rfl, fun _ => rfl, fun _ => rfl, fun _ => rfl, fun _ => rfl, fun _ => rfl, fun _ => rfl, sint_eq em _ _, fun _ => rfl, fun _ => rfl, fun _ => rfl, fun _ => rfl, fun _ => rfl, fun _ => rfl, fun _ => rfl, fun _ => rfl, fun _ => rfl, fun _ => rfl, fun _ => rfl, fun _ => rfl, fun _ => rfl, fun _ => rfl, fun _ => rfl, fun _ => rfl, fun _ => rfl, fun _ => rfl, fun _ => rfl, fun _ => rfl, fun _ => rfl, fun _ => rfl, fun _ => rfl, fun _ => rfl, fun _ => rfl, fun _ => rfl, fun _ => rfl, fun _ => rfl, fun _ => rfl, fun _ => rfl, fun _ => rfl, fun _ => rfl, fun _ => rfl, fun _ => rfl, fun _ => rfl, fun _ => rfl, fun _ => rfl, fun _ => rfl, fun _ => rfl, fun _ => rfl, fun _ => rfl, fun _ => rfl, fun _ => rfl, fun _ => rfl, fun _ => rfl, fun _ => rfl, fun _ => rfl, fun _ => rfl, fun _ => rfl, fun _ => rfl, fun _ => rfl, fun _ => rfl, trivial⟩
                              · exact ⟨⟨rfl, rfl, rfl, fun _ => rfl⟩, ⟨rfl, rfl, rfl, fun _ => rfl⟩, ⟨rfl, rfl, rfl, fun _ => rfl⟩, trivial⟩
                            · have hmle : ¬ (m + RB * val RB r.l) * (m + RB * val RB r.l) * RB ^ (2 * (i - 1)) ≤ X.z.natAbs := of_decide_eq_false (dec_le (m := _) (n := X.z.natAbs) ((val_isOf (iat_dig hLTat hLTd) hRlt).trans hLTv) (val_isOf (by rw [← hox]; exact IAt.ow ox) (congrArg List.length hox).symm) hle2)
                              obtain ⟨hB2, hmu⟩ := hB.high hm hgt hmle
                              conv => whnf
                              refine ⟨[0, 1, 2], [2, 4, 5, 6, 7, 8], [0, 1, 2], fun vs7 => ?_⟩
                              conv => whnf
                              refine ⟨fun _ _ => rfl, isC_pure _, isC_pure _, ?_⟩
                              conv => whnf
                              refine ⟨_, _, ?_, ?_, ⟨(low, m, vs7), hB2⟩, hmu, rfl, rfl⟩
                              · exact ⟨fun _ => rfl, fun _ => rfl, fun _ => rfl, fun _ => rfl, fun _ => rfl, fun _ => rfl, fun _ => rfl, fun _ => rfl, sint_eq em _ _, fun _ => rfl, fun _ => rfl, fun _ => rfl, fun _ => rfl, fun _ => rfl, fun _ => rfl, fun _ => rfl, fun _ => rfl, fun _ => rfl, fun _ => rfl, fun _ => rfl, fun _ => rfl, fun _ => rfl, fun _ => rfl, fun _ => rfl, fun _ => rfl, fun _ => rfl, fun _ => rfl, fun _ => rfl, fun _ => rfl, fun _ => rfl, fun _ => rfl, fun _ => rfl, fun _ => rfl, fun _ => rfl, fun _ => rfl, fun _ => rfl, fun _ => rfl, fun _ => rfl, fun _ => rfl, fun _ => rfl, fun _ => rfl, fun _ => rfl, fun _ => rfl, fun _ => rfl, fun _ => rfl, fun _ => rfl, fun _ => rfl, fun _ => rfl, fun _ => rfl, fun _ => rfl, fun _ => rfl, fun _ => rfl, fun _ => rfl, fun _ => rfl, fun _ => rfl, fun _ => rfl, fun _ => rfl, fun _ => rfl, fun _ => rfl, fun _ => rfl, trivial⟩
                              · exact ⟨⟨rfl, rfl, rfl, fun _ => rfl⟩, ⟨rfl, rfl, rfl, fun _ => rfl⟩, ⟨rfl, rfl, rfl, fun _ => rfl⟩, trivial⟩
                      case nxt6 =>
                        refine imp_via (Z := ?Z7_0) (fun hmg => ?cur7) ?nxt7
                        case cur7 =>
                          refine ⟨?_, ?_⟩
                          · refine ⟨?_, trivial⟩
                            · conv => whnf
                              refine ⟨⟨pureL_append (fun _ _ => rfl) (isC_pure _), trivial⟩, ⟨_, _, _, _, _, _, _, m :: r.l, rfl, rfl, Nat.add_comm _ _, iat_cons hm16 em, dxr, fun h3 => ?_⟩⟩
                              obtain rfl : h3 = sli_tl (m := m) hs := rfl
                              conv => whnf
                              exact hmg
                          · refine ⟨?_, ?_, trivial⟩
                            · conv => whnf
                              refine ⟨rfl, 2 * (i - 1), 2 * (i - 1), htw, htw, Nat.le_refl _, h2i, fun h2 => ?_⟩
                              obtain rfl : h2 = sli_eq h2i := rfl
                              conv => whnf
                              exact hmg
                            · clear hmg
                              conv => whnf
                              refine ⟨⟨pureL_append (fun _ _ => rfl) (isC_pure _), pureL_append (fun _ _ => rfl) (isC_pure _), trivial⟩, ⟨_, _, _, _, _, _, _, dig RB T, _, _, _, _, _, _, _, dig RB T, rfl, rfl, hRl, hRl, hTat em, hTat em, dig_Dl RB_two T, dig_Dl RB_two T, hRs2, hRs2, trivial, fun o _ ho => ?_⟩⟩
                              rw [val_dig RB_two] at ho
                              have hol := sq_len ho hT25
                              have hov : val RB o.l = (m + RB * val RB r.l) * (m + RB * val RB r.l) := by rw [ho, val_dig RB_two, hT]
                              have hdo := rdl_eq ho
                              conv => whnf
                              refine ⟨?_, trivial⟩
                              conv => whnf
                              refine ⟨rfl, 2 * (i - 1), 2 * (i - 1), htw, htw, Nat.le_refl _, h2i, fun h2 => ?_⟩
                              obtain rfl : h2 = sli_eq h2i := rfl
                              conv => whnf
                              refine .inl ?_
                              conv => whnf
                              conv =>
                                arg 2
                                tactic' => exact (IAt.ow o).all rfl
                              conv => whnf
                              refine ⟨isC_one _, ?_⟩
                              conv => whnf
                              refine ⟨⟨rfl, rfl, by rw [Nat.mul_one]; exact sizeC_rep rfl _, fun _ => by rw [sizeC_rep rfl, Nat.sub_self, Nat.mul_one]; rfl, by omega⟩, fun cap3 hcap3 => ?_⟩
                              have hs3 := slok_1 hcap3
                              obtain ⟨LT, hLT⟩ : ∃ LT, LT = List.replicate (2 * (i - 1)) 0 ++ o.l := ⟨_, rfl⟩
                              have hLTl : LT.length = 2 * (i - 1) + o.l.length := by rw [hLT, List.length_append, List.length_replicate]
                              have hLTd : Dl RB LT := by rw [hLT]; exact (Dl.replicate RB_pos _).append hdo
                              have hLTv : val RB LT = (m + RB * val RB r.l) * (m + RB * val RB r.l) * RB ^ (2 * (i - 1)) := by rw [hLT, val_shifted, hov]
                              have hLTat : IAt (repX (2 * (i - 1)) (iC 0) ++ isC o.l) 0 LT := by rw [hLT]; exact iat_rep
                              conv => whnf
                              refine ⟨⟨pureL_append (irep_pure _) (isC_pure _), trivial⟩, ⟨_, _, _, _, _, _, _, LT, rfl, rfl, hLTl, hLTat, hLTd, fun h4 => ?_⟩⟩
                              have hRlt : (dig RB (val RB LT)).length = tlen LT := tlen_rdig hLTd
                              have hlt1 : tlen LT ≤ 1000000000 := Nat.le_trans (tlen_le _) (by rw [hLTl]; omega)
                              conv => whnf
                              refine ⟨⟨dig RB (val RB LT), ox.l, ⟨iat_dig hLTat hLTd, hRlt, by rw [val_dig RB_two], hlt1⟩, IAt.ow ox, rfl, hoxd, hox1⟩, ?_⟩
                              conv => whnf
                              refine bcase_intro (fun hle2 => ?_) (fun hle2 => ?_)
                              · have hmle : (m + RB * val RB r.l) * (m + RB * val RB r.l) * RB ^ (2 * (i - 1)) ≤ X.z.natAbs := of_decide_eq_true (dec_le (m := _) (n := X.z.natAbs) ((val_isOf (iat_dig hLTat hLTd) hRlt).trans hLTv) (val_isOf (by rw [← hox]; exact IAt.ow ox) (congrArg List.length hox).symm) hle2)
                                obtain ⟨hB2, hmu⟩ := hB.low hm hgt hmle
                                conv => whnf
                                refine ⟨[0, 1, 2], [2, 4, 5, 6, 7, 8], [0, 1, 2], fun vs7 => ?_⟩
                                conv => whnf
                                refine ⟨fun _ _ => rfl, isC_pure _, isC_pure _, ?_⟩
                                conv => whnf
                                refine ⟨_, _, ?_, ?_, ⟨(m, high, vs7), hB2⟩, hmu, rfl, rfl⟩
                                · exact ⟨fun _ => rfl, fun _ => rfl, fun _ => rfl, fun _ => rfl, fun _ => rfl, fun _ => rfl, fun _ => rfl, sint_eq em _ _, fun _ => rfl, fun _ => rfl, fun _ => rfl, fun _ => rfl, fun _ => rfl, fun _ => rfl, fun _ => rfl, fun _ => rfl, fun _ => rfl, fun _ => rfl, fun _ => rfl, fun _ => rfl, fun _ => rfl, fun _ => rfl, fun _ => rfl, fun _ => rfl, fun _ => rfl, fun _ => rfl, fun _ => rfl, fun _ => rfl, fun _ => rfl, fun _ => rfl, fun _ => rfl, fun _ => rfl, fun _ => rfl, fun _ => rfl, fun _ => rfl, fun _ => rfl, fun _ => rfl, fun _ => rfl, fun _ => rfl, fun _ => rfl, fun _ => rfl, fun _ => rfl, fun _ => rfl, fun _ => rfl, fun _ => rfl, fun _ => rfl, fun _ => rfl, fun _ => rfl, fun _ => rfl, fun _ => rfl, fun _ => rfl, fun _ => rfl, fun _ => rfl, fun _ => rfl, fun _ => rfl, fun _ => rfl, fun _ => rfl, fun _ => rfl, fun _ => rfl, fun _ => rfl, trivial⟩
                                · exact ⟨⟨rfl, rfl, rfl, fun _ => rfl⟩, ⟨rfl, rfl, rfl, fun _ => rfl⟩, ⟨rfl, rfl, rfl, fun _ => rfl⟩, trivial⟩
                              · have hmle : ¬ (m + RB * val RB r.l) * (m + RB * val RB r.l) * RB ^ (2 * (i - 1)) ≤ X.z.natAbs := of_decide_eq_false (dec_le (m := _) (n := X.z.natAbs) ((val_isOf (iat_dig hLTat hLTd) hRlt).trans hLTv) (val_isOf (by rw [← hox]; exact IAt.ow ox) (congrArg List.length hox).symm) hle2)
                                obtain ⟨hB2, hmu⟩ := hB.high hm hgt hmle
                                conv => whnf
                                refine ⟨[0, 1, 2], [2, 4, 5, 6, 7, 8], [0, 1, 2], fun vs7 => ?_⟩
                                conv => whnf
                                refine ⟨fun _ _ => rfl, isC_pure _, isC_pure _, ?_⟩
                                conv => whnf
                                refine ⟨_, _, ?_, ?_, ⟨(low, m, vs7), hB2⟩, hmu, rfl, rfl⟩
                                · exact ⟨fun _ => rfl, fun _ => rfl, fun _ => rfl, fun _ => rfl, fun _ => rfl, fun _ => rfl, fun _ => rfl, fun _ => rfl, sint_eq em _ _, fun _ => rfl, fun _ => rfl, fun _ => rfl, fun _ => rfl, fun _ => rfl, fun _ => rfl, fun _ => rfl, fun _ => rfl, fun _ => rfl, fun _ => rfl, fun _ => rfl, fun _ => rfl, fun _ => rfl, fun _ => rfl, fun _ => rfl, fun _ => rfl, fun _ => rfl, fun _ => rfl, fun _ => rfl, fun _ => rfl, fun _ => rfl, fun _ => rfl, fun _ => rfl, fun _ => rfl, fun _ => rfl, fun _ => rfl, fun _ => rfl, fun _ => rfl, fun _ => rfl, fun _ => rfl, fun _ => rfl, fun _ => rfl, fun _ => rfl, fun _ => rfl, fun _ => rfl, fun _ => rfl, fun _ => rfl, fun _ => rfl, fun _ => rfl, fun _ => rfl, fun _ => rfl, fun _ => rfl, fun _ => rfl, fun _ => rfl, fun _ => rfl, fun _ => rfl, fun _ => rfl, fun _ => rfl, fun _ => rfl, fun _ => rfl, fun _ => rfl, trivial⟩
                                · exact ⟨⟨rfl, rfl, rfl, fun _ => rfl⟩, ⟨rfl, rfl, rfl, fun _ => rfl⟩, ⟨rfl, rfl, rfl, fun _ => rfl⟩, trivial⟩
                        case nxt7 =>
                          refine ⟨?_, trivial⟩
                          · conv => whnf
                            refine ⟨⟨pureL_append (fun _ _ => rfl) (isC_pure _), pureL_append (fun _ _ => rfl) (isC_pure _), trivial⟩, ⟨_, _, _, _, _, _, _, dig RB T, _, _, _, _, _, _, _, dig RB T, rfl, rfl, hRl, hRl, hTat em, hTat em, dig_Dl RB_two T, dig_Dl RB_two T, hRs2, hRs2, trivial, fun o _ ho => ?_⟩⟩
                            rw [val_dig RB_two] at ho
                            have hol := sq_len ho hT25
                            have hov : val RB o.l = (m + RB * val RB r.l) * (m + RB * val RB r.l) := by rw [ho, val_dig RB_two, hT]
                            have hdo := rdl_eq ho
                            conv => whnf
                            refine .inl ?_
                            conv => whnf
                            conv =>
                              arg 2
                              tactic' => exact (IAt.ow o).all rfl
                            conv => whnf
                            refine ⟨isC_one _, ?_⟩
                            conv => whnf
                            refine ⟨⟨rfl, rfl, by rw [Nat.mul_one]; exact sizeC_rep rfl _, fun _ => by rw [sizeC_rep rfl, Nat.sub_self, Nat.mul_one]; rfl, by omega⟩, fun cap3 hcap3 => ?_⟩
                            have hs3 := slok_1 hcap3
                            obtain ⟨LT, hLT⟩ : ∃ LT, LT = List.replicate (2 * (i - 1)) 0 ++ o.l := ⟨_, rfl⟩
                            have hLTl : LT.length = 2 * (i - 1) + o.l.length := by rw [hLT, List.length_append, List.length_replicate]
                            have hLTd : Dl RB LT := by rw [hLT]; exact (Dl.replicate RB_pos _).append hdo
                            have hLTv : val RB LT = (m + RB * val RB r.l) * (m + RB * val RB r.l) * RB ^ (2 * (i - 1)) := by rw [hLT, val_shifted, hov]
                            have hLTat : IAt (repX (2 * (i - 1)) (iC 0) ++ isC o.l) 0 LT := by rw [hLT]; exact iat_rep
                            conv => whnf
                            refine ⟨⟨pureL_append (irep_pure _) (isC_pure _), trivial⟩, ⟨_, _, _, _, _, _, _, LT, rfl, rfl, hLTl, hLTat, hLTd, fun h4 => ?_⟩⟩
                            have hRlt : (dig RB (val RB LT)).length = tlen LT := tlen_rdig hLTd
                            have hlt1 : tlen LT ≤ 1000000000 := Nat.le_trans (tlen_le _) (by rw [hLTl]; omega)
                            conv => whnf
                            refine ⟨⟨dig RB (val RB LT), ox.l, ⟨iat_dig hLTat hLTd, hRlt, by rw [val_dig RB_two], hlt1⟩, IAt.ow ox, rfl, hoxd, hox1⟩, ?_⟩
                            conv => whnf
                            refine bcase_intro (fun hle2 => ?_) (fun hle2 => ?_)
                            · have hmle : (m + RB * val RB r.l) * (m + RB * val RB r.l) * RB ^ (2 * (i - 1)) ≤ X.z.natAbs := of_decide_eq_true (dec_le (m := _) (n := X.z.natAbs) ((val_isOf (iat_dig hLTat hLTd) hRlt).trans hLTv) (val_isOf (by rw [← hox]; exact IAt.ow ox) (congrArg List.length hox).symm) hle2)
                              obtain ⟨hB2, hmu⟩ := hB.low hm hgt hmle
                              conv => whnf
                              refine ⟨[0, 1, 2], [2, 4, 5, 6, 7, 8], [0, 1, 2], fun vs7 => ?_⟩
                              conv => whnf
                              refine ⟨fun _ _ => rfl, isC_pure _, isC_pure _, ?_⟩
                              conv => whnf
                              refine ⟨_, _, ?_, ?_, ⟨(m, high, vs7), hB2⟩, hmu, rfl, rfl⟩
                              · exact ⟨fun _ => rfl, fun _ => rfl, fun _ => rfl, fun _ => rfl, fun _ => rfl, fun _ => rfl, fun _ => rfl, sint_eq em _ _, fun _ => rfl, fun _ => rfl, fun _ => rfl, fun _ => rfl, fun _ => rfl, fun _ => rfl, fun _ => rfl, fun _ => rfl, fun _ => rfl, fun _ => rfl, fun _ => rfl, fun _ => rfl, fun _ => rfl, fun _ => rfl, fun _ => rfl, fun _ => rfl, fun _ => rfl, fun _ => rfl, fun _ => rfl, fun _ => rfl, fun _ => rfl, fun _ => rfl, fun _ => rfl, fun _ => rfl, fun _ => rfl, fun _ => rfl, fun _ => rfl, fun _ => rfl, fun _ => rfl, fun _ => rfl, fun _ => rfl, fun _ => rfl, fun _ => rfl, fun _ => rfl, fun _ => rfl, fun _ => rfl, fun _ => rfl, fun _ => rfl, fun _ => rfl, fun _ => rfl, fun _ => rfl, fun _ => rfl, fun _ => rfl, fun _ => rfl, fun _ => rfl, fun _ => rfl, fun _ => rfl, fun _ => rfl, fun _ => rfl, fun _ => rfl, fun _ => rfl, fun _ => rfl, trivial⟩
                              · exact ⟨⟨rfl, rfl, rfl, fun _ => rfl⟩, ⟨rfl, rfl, rfl, fun _ => rfl⟩, ⟨rfl, rfl, rfl, fun _ => rfl⟩, trivial⟩
                            · have hmle : ¬ (m + RB * val RB r.l) * (m + RB * val RB r.l) * RB ^ (2 * (i - 1)) ≤ X.z.natAbs := of_decide_eq_false (dec_le (m := _) (n := X.z.natAbs) ((val_isOf (iat_dig hLTat hLTd) hRlt).trans hLTv) (val_isOf (by rw [← hox]; exact IAt.ow ox) (congrArg List.length hox).symm) hle2)
                              obtain ⟨hB2, hmu⟩ := hB.high hm hgt hmle
                              conv => whnf
                              refine ⟨[0, 1, 2], [2, 4, 5, 6, 7, 8], [0, 1, 2], fun vs7 => ?_⟩
                              conv => whnf
                              refine ⟨fun _ _ => rfl, isC_pure _, isC_pure _, ?_⟩
                              conv => whnf
                              refine ⟨_, _, ?_, ?_, ⟨(low, m, vs7), hB2⟩, hmu, rfl, rfl⟩
                              · exact ⟨fun _ => rfl, fun _ => rfl, fun _ => rfl, fun _ => rfl, fun _ => rfl, fun _ => rfl, fun _ => rfl, fun _ => rfl, sint_eq em _ _, fun _ => rfl, fun _ => rfl, fun _ => rfl, fun _ => rfl, fun _ => rfl, fun _ => rfl, fun _ => rfl, fun _ => rfl, fun _ => rfl, fun _ => rfl, fun _ => rfl, fun _ => rfl, fun _ => rfl, fun _ => rfl, fun _ => rfl, fun _ => rfl, fun _ => rfl, fun _ => rfl, fun _ => rfl, fun _ => rfl, fun _ => rfl, fun _ => rfl, fun _ => rfl, fun _ => rfl, fun _ => rfl, fun _ => rfl, fun _ => rfl, fun _ => rfl, fun _ => rfl, fun _ => rfl, fun _ => rfl, fun _ => rfl, fun _ => rfl, fun _ => rfl, fun _ => rfl, fun _ => rfl, fun _ => rfl, fun _ => rfl, fun _ => rfl, fun _ => rfl, fun _ => rfl, fun _ => rfl, fun _ => rfl, fun _ => rfl, fun _ => rfl, fun _ => rfl, fun _ => rfl, fun _ => rfl, fun _ => rfl, fun _ => rfl, fun _ => rfl, trivial⟩
                              · exact ⟨⟨rfl, rfl, rfl, fun _ => rfl⟩, ⟨rfl, rfl, rfl, fun _ => rfl⟩, ⟨rfl, rfl, rfl, fun _ => rfl⟩, trivial⟩
          · have hngt := bin_ngt hB.lt hB.le hgt
            obtain ⟨hl1, hl2, hl3⟩ := hB.done hngt
            conv => whnf
            exact hqx ⟨low, hl1, hl2, hl3⟩ (fun i => nth uv (_ :: _ :: uv :: _ :: uv :: uv :: uv :: uv :: _ :: _ :: _ :: _ :: _ :: _ :: _ :: _ :: _ :: _ :: _ :: _ :: _ :: _ :: _ :: _ :: _ :: _ :: _ :: _ :: _ :: _ :: _ :: _ :: _ :: _ :: _ :: _ :: _ :: _ :: _ :: _ :: _ :: _ :: _ :: _ :: _ :: _ :: _ :: _ :: _ :: _ :: _ :: _ :: _ :: _ :: _ :: _ :: _ :: _ :: _ :: _ :: []) i)
        · rintro ⟨low, hl1, hl2, hl3⟩ jj
          conv => whnf
          refine .inl ?_
          conv => whnf
          conv =>
            arg 2
            tactic' => exact (IAt.ow r).all rfl
          conv => whnf
          refine ⟨isC_one _, ?_⟩
          conv => whnf
          refine ⟨⟨rfl, rfl, rfl, fun _ => rfl, hroom⟩, fun cap2 hcap2 => ?_⟩
          have hs := slok_1 hcap2
          conv => whnf
          obtain ⟨o, ho, hosl, hobk⟩ : ∃ o : OI, o.l = low :: r.l ∧ o = OI.cons low r.l cap2 hs ∧ True := ⟨_, rfl, rfl, trivial⟩
          have hI2 := hI.step (o := o) h0 hl1 hl2 hl3 ho
          subst hosl
          conv => whnf
          refine ⟨[0, 1, 4], [2, 4, 5, 6], [0, 1, 2], fun vs8 => ?_⟩
          conv => whnf
          refine ⟨fun _ _ => rfl, isC_pure _, pureL_append (fun _ _ => rfl) (isC_pure _), ?_⟩
          conv => whnf
          refine ⟨_, _, ?_, ?_, ⟨(i - 1, OI.cons low r.l cap2 hs, vs8), hI2⟩, Nat.sub_lt h0 Nat.one_pos, rfl, rfl⟩
          · exact ⟨fun _ => rfl, fun _ => rfl, fun _ => rfl, fun _ => rfl, fun _ => rfl, fun ρ => OI.cons_sl (h' := hs) 2 ρ, sint_eq (cmp_dec h0 (ir_nat (Nat.le_trans hI.le (Nat.le_trans hK (by decide))))) _ _, fun _ => rfl, fun _ => rfl, fun _ => rfl, fun _ => rfl, fun _ => rfl, fun _ => rfl, fun _ => rfl, fun _ => rfl, fun _ => rfl, fun _ => rfl, fun _ => rfl, fun _ => rfl, fun _ => rfl, fun _ => rfl, fun _ => rfl, fun _ => rfl, fun _ => rfl, fun _ => rfl, fun _ => rfl, fun _ => rfl, fun _ => rfl, fun _ => rfl, fun _ => rfl, fun _ => rfl, fun _ => rfl, fun _ => rfl, fun _ => rfl, fun _ => rfl, fun _ => rfl, fun _ => rfl, fun _ => rfl, fun _ => rfl, fun _ => rfl, fun _ => rfl, fun _ => rfl, fun _ => rfl, fun _ => rfl, fun _ => rfl, fun _ => rfl, fun _ => rfl, fun _ => rfl, fun _ => rfl, fun _ => rfl, fun _ => rfl, fun _ => rfl, fun _ => rfl, fun _ => rfl, fun _ => rfl, fun _ => rfl, fun _ => rfl, fun _ => rfl, fun _ => rfl, fun _ => rfl, trivial⟩
          · exact ⟨⟨rfl, rfl, rfl, fun _ => rfl⟩, ⟨rfl, rfl, rfl, fun _ => rfl⟩, ⟨rfl, rfl, (by show (cap2 - (1 + r.l.length)) * 1 = cap2 - ((low :: r.l) ++ []).length; rw [List.append_nil]; exact cons_tl), fun ρ => (by show cellsL ρ _ = cellsL ρ (isC ((low :: r.l) ++ [])); rw [List.append_nil]; exact cons_cells hl3 rfl ρ)⟩, trivial⟩
      · have h0 : i = 0 := i_lt h0
        subst h0
        have hq := hI.last
        conv => whnf
        refine ⟨⟨r.l, IAt.ow r, rfl, hI.dl, Nat.le_trans hI.rl (Nat.le_trans hK (by decide))⟩, ?_⟩
        conv => whnf
        refine fun ρ => tup2_sv ?_ ?_
        · rw [isOf_oi r hI.dl, ← hq]
          refine wv_agg _ ?_ (fun _ => ⟨fun h => (by cases h), fun h => ?_⟩) ρ
          · unfold rootZ; rw [if_neg hz]; rfl
          · exact absurd h (by unfold rootZ; rw [if_neg hz]; omega)
        · show Value.bool true = Value.bool (decide (0 ≤ X.z))
          rw [decide_eq_true (by omega)]
end Go.Proofs.YtbhcmajeoamloaaDoor

namespace Go.Proofs.YtbhcmajeoamloaaDoor
open Go.RowKit
set_option maxRecDepth 100000

structure RIntI (l : List Nat) (i m : Nat) : Prop where
  hi : i ≤ l.length
  hv : m = val RB (l.drop i)
  hm : m < RB ^ (l.length - i)
theorem RIntI.start (l : List Nat) : RIntI l l.length 0 := ⟨Nat.le_refl _, by rw [List.drop_of_length_le (Nat.le_refl _)]; rfl, Nat.pow_pos RB_pos⟩
theorem RIntI.big {l : List Nat} {i m : Nat} (h : RIntI l i m) (hl : l.length ≤ 4) (h0 : 0 < i) : m < 281474976710656 := by
  have h1 := h.hm
  have h2 : RB ^ (l.length - i) ≤ RB ^ 3 := Nat.pow_le_pow_right RB_pos (by omega)
  have h3 : RB ^ 3 = 281474976710656 := by rw [RB_eq]
  omega
theorem RIntI.step {l : List Nat} {i m : Nat} (h : RIntI l i m) (h0 : 0 < i) {hj : i - 1 < l.length} (dl : Dl RB l) : RIntI l (i - 1) (m * 65536 + l[i - 1]) := by
  have hx : l[i - 1] < 65536 := by have := dl.get _ hj; rwa [RB_eq] at this
  refine ⟨by have := h.hi; omega, ?_, ?_⟩
  · rw [List.drop_eq_getElem_cons hj, val_cons, show i - 1 + 1 = i by omega, ← h.hv, RB_eq]; omega
  · have e : RB ^ (l.length - (i - 1)) = RB ^ (l.length - i) * 65536 := by
      rw [show l.length - (i - 1) = l.length - i + 1 by have := h.hi; omega, Nat.pow_succ, RB_eq]
    rw [e]
    have := h.hm
    have h3 : (m + 1) * 65536 ≤ RB ^ (l.length - i) * 65536 := Nat.mul_le_mul_right _ this
    omega
theorem int_acc {m d : Nat} (h1 : m < 281474976710656) (h2 : d < 65536) : IntKind.u64.wrap (IntKind.u64.wrap ((m : Int) * 65536) + IntKind.u64.wrap (d : Int)) = ((m * 65536 + d : Nat) : Int) := by
  have e1 : IntKind.u64.wrap ((m : Int) * 65536) = ((m * 65536 : Nat) : Int) := by unfold IntKind.wrap; simp [IntKind.bits, IntKind.signed]; omega
  have e2 : IntKind.u64.wrap (d : Int) = (d : Int) := by unfold IntKind.wrap; simp [IntKind.bits, IntKind.signed]; omega
  rw [e1, e2]
  unfold IntKind.wrap; simp [IntKind.bits, IntKind.signed]; omega
theorem gt_four {k : Nat} (h : decide ((4 : Int) < (k : Int)) = true) : 4 < k := by have := of_decide_eq_true h; omega
theorem ngt_four {k : Nat} (h : decide ((4 : Int) < (k : Int)) = false) : k ≤ 4 := by have := of_decide_eq_false h; omega
set_option maxHeartbeats 8000000 in
theorem spRIntA : SpOk Tryd.prog 47 dIntA := sp_num1H ⟨Tryd.func47, by kernel_rfl, by kernel_rfl⟩ (envN_ok .nil rdC_ok 0 fun _ => false) (mix_ok rquoC_ok (envN_ok .nil rdC_ok 0 fun _ => false) mixed noF_ok 0) (fun _ _ _ => rfl) fun X kX b s nX => by
  conv => whnf
  refine ⟨fun _ _ => rfl, trivial, ⟨_, b, s, rfl, rfl, NumA.raw, (nX.sz kX), fun ox hox => ?_⟩⟩
  rw [nX.natAbs] at hox
  have hvx : val RB ox.l = X.z.natAbs := by rw [hox, val_dig RB_two]
  have dlx := rdl_eq hox
  conv => whnf
  refine bcase_intro (fun h2 => ?_) (fun h2 => ?_)
  · have h2 : 4 < ox.l.length := gt_four h2
    obtain ⟨r1, r2⟩ := int_no (z := X.z) (by
      have h3 : 0 < X.z.natAbs := by
        rcases Nat.eq_zero_or_pos X.z.natAbs with h4 | h4
        · rw [hox, h4, dig_zero] at h2; exact absurd h2 (by decide)
        · exact h4
      have h5 := le_of_dig_length RB_two h3
      rw [← hox] at h5
      have h6 : RB ^ 4 ≤ RB ^ (ox.l.length - 1) := Nat.pow_le_pow_right RB_pos (by omega)
      have h7 : RB ^ 4 = 18446744073709551616 := by rw [RB_eq]
      unfold IR; omega)
    conv => whnf
    exact fun ρ => tup2_sv (int_t1 r1 ρ) (bool_t1 r2 ρ)
  · have hl4 : ox.l.length ≤ 4 := ngt_four h2
    conv => whnf
    refine loop_cut (G := {g : Nat × Nat × (Nat → Value) // RIntI ox.l g.1 g.2.1}) (X := {m : Nat // m = X.z.natAbs}) (fun g => (.c (.val (g.1.2.2 0)) :: .c (.ptr 0 0) :: .c (.val (g.1.2.2 2)) :: .c (.val (g.1.2.2 3)) :: (ox.sl 1) :: .c (.val (.int .u64 ((g.1.2.1 : Nat) : Int))) :: .c (.int ((g.1.1 : Nat) - 1 : Int) (irp ox.ok g.2.hi)) :: .c (.val (g.1.2.2 7)) :: .c (.val (g.1.2.2 8)) :: .c (.val (g.1.2.2 9)) :: .c (.val (g.1.2.2 10)) :: .c (.val (g.1.2.2 11)) :: .c (.val (g.1.2.2 12)) :: .c (.val (g.1.2.2 13)) :: .c (.val (g.1.2.2 14)) :: .c (.val (g.1.2.2 15)) :: .c (.val (g.1.2.2 16)) :: .c (.val (g.1.2.2 17)) :: .c (.val (g.1.2.2 18)) :: .c (.val (g.1.2.2 19)) :: .c (.val (g.1.2.2 20)) :: .c (.val (g.1.2.2 21)) :: .c (.val (g.1.2.2 22)) :: .c (.val (g.1.2.2 23)) :: .c (.val (g.1.2.2 24)) :: .c (.val (g.1.2.2 25)) :: .c (.val (g.1.2.2 26)) :: .c (.val (g.1.2.2 27)) :: .c (.val (g.1.2.2 28)) :: .c (.val (g.1.2.2 29)) :: .c (.val (g.1.2.2 30)) :: .c (.val (g.1.2.2 31)) :: .c (.val (g.1.2.2 32)) :: .c (.val (g.1.2.2 33)) :: .c (.val (g.1.2.2 34)) :: .c (.val (g.1.2.2 35)) :: .c (.val (g.1.2.2 36)) :: .c (.val (g.1.2.2 37)) :: .c (.val (g.1.2.2 38)) :: .c (.val (g.1.2.2 39)) :: [])) (fun g => [⟨27, false, [.val (.bool b), .val (.string s)], 0⟩, ox.blk]) (fun g => g.1.1) 0 (fun x j => (j 0 :: .c (.ptr 0 0) :: j 2 :: j 3 :: j 4 :: .c (.val (.int .u64 ((x.1 : Nat) : Int))) :: j 6 :: j 7 :: j 8 :: j 9 :: j 10 :: j 11 :: j 12 :: j 13 :: j 14 :: j 15 :: j 16 :: j 17 :: j 18 :: j 19 :: j 20 :: j 21 :: j 22 :: j 23 :: j 24 :: j 25 :: j 26 :: j 27 :: j 28 :: j 29 :: j 30 :: j 31 :: j 32 :: j 33 :: j 34 :: j 35 :: j 36 :: j 37 :: j 38 :: j 39 :: [])) (fun x => [⟨27, false, [.val (.bool b), .val (.string s)], 0⟩, ox.blk]) ?_ ?_ ?_
    · refine ⟨[0, 1], [1, 4, 5, 6], [0, 1], fun vs => ?_⟩
      conv => whnf
      refine ⟨fun _ _ => rfl, isC_pure _, ?_⟩
      conv => whnf
      refine ⟨_, _, ?_, ?_, ⟨(ox.l.length, 0, vs), RIntI.start _⟩, rfl, rfl⟩
      · exact ⟨fun _ => rfl, fun _ => rfl, fun _ => rfl, fun _ => rfl, fun _ => rfl, fun _ => rfl, sint_eq (wrap_id (irp ox.ok (Nat.le_refl _))) _ _, fun _ => rfl, fun _ => rfl, fun _ => rfl, fun _ => rfl, fun _ => rfl, fun _ => rfl, fun _ => rfl, fun _ => rfl, fun _ => rfl, fun _ => rfl, fun _ => rfl, fun _ => rfl, fun _ => rfl, fun _ => rfl, fun _ => rfl, fun _ => rfl, fun _ => rfl, fun _ => rfl, fun _ => rfl, fun _ => rfl, fun _ => rfl, fun _ => rfl, fun _ => rfl, fun _ => rfl, fun _ => rfl, fun _ => rfl, fun _ => rfl, fun _ => rfl, fun _ => rfl, fun _ => rfl, fun _ => rfl, fun _ => rfl, fun _ => rfl, trivial⟩
      · exact ⟨⟨rfl, rfl, rfl, fun _ => rfl⟩, ⟨rfl, rfl, rfl, fun _ => rfl⟩, trivial⟩
    · intro Qx hqx
      rintro ⟨⟨i, m, vs⟩, hI⟩
      have hI : RIntI ox.l i m := hI
      conv => whnf
      refine bcase_intro (fun h0 => ?_) (fun h0 => ?_)
      · have h0 : 0 < i := i_ge h0
        have hii := hI.hi
        have hj : i - 1 < ox.l.length := by omega
        have hirk : IR ((i - 1 : Nat) : Int) := ltI ox.ok (Nat.le_of_lt hj)
        have hI2 := hI.step h0 (hj := hj) dlx
        have hb1 := hI.big hl4 h0
        have hx16 : (ox.l[i - 1]'hj) < 65536 := by have := dlx.get _ hj; rwa [RB_eq] at this
        have e1 := int_acc hb1 hx16
        conv => whnf
        conv =>
          arg 2
          tactic' =>
            apply eff_index_sli (hi := hirk) (ho := ?how11) (hT := ?hTw11) (hx := ?hxw11) (hk := ?hkw11) (hlt := ?hltw11)
            case how11 => rfl
            case hTw11 => rfl
            case hxw11 => rfl
            case hkw11 => exact cint (pred_nat h0) hirk
            case hltw11 => exact hj
        conv => whnf
        conv =>
          arg 2
          tactic' =>
            apply eff_load_sub (m := [.int (((ox.l[i - 1]'hj) : Nat) : Int) (ir_dig (dlx.get _ hj))]) (ho := ?how12) (hT := ?hTw12) (hx := ?hxw12) (hb := ?hbw12) (hm := ?hmw12) (hv := ?hvw12)
            case how12 => rfl
            case hTw12 => rfl
            case hxw12 => rfl
            case hbw12 => rfl
            case hmw12 => exact (IAt.ow ox).int dlx hj
            case hvw12 => rfl
        conv => whnf
        refine ⟨[0, 1], [1, 4, 5, 6], [0, 1], fun vs2 => ?_⟩
        conv => whnf
        refine ⟨fun _ _ => rfl, isC_pure _, ?_⟩
        conv => whnf
        refine ⟨_, _, ?_, ?_, ⟨(i - 1, m * 65536 + (ox.l[i - 1]'hj), vs2), hI2⟩, Nat.sub_lt h0 Nat.one_pos, rfl, rfl⟩
        · exact ⟨fun _ => rfl, fun _ => rfl, fun _ => rfl, fun _ => rfl, fun _ => rfl, fun _ => congrArg (Value.int .u64) e1, sint_eq (cmp_dec h0 (ltI ox.ok hI.hi)) _ _, fun _ => rfl, fun _ => rfl, fun _ => rfl, fun _ => rfl, fun _ => rfl, fun _ => rfl, fun _ => rfl, fun _ => rfl, fun _ => rfl, fun _ => rfl, fun _ => rfl, fun _ => rfl, fun _ => rfl, fun _ => rfl, fun _ => rfl, fun _ => rfl, fun _ => rfl, fun _ => rfl, fun _ => rfl, fun _ => rfl, fun _ => rfl, fun _ => rfl, fun _ => rfl, fun _ => rfl, fun _ => rfl, fun _ => rfl, fun _ => rfl, fun _ => rfl, fun _ => rfl, fun _ => rfl, fun _ => rfl, fun _ => rfl, fun _ => rfl, trivial⟩
        · exact ⟨⟨rfl, rfl, rfl, fun _ => rfl⟩, ⟨rfl, rfl, rfl, fun _ => rfl⟩, trivial⟩
      · have h0 : i = 0 := i_lt h0
        have hm : m = X.z.natAbs := by rw [hI.hv, h0, List.drop_zero, hvx]
        conv => whnf
        exact hqx ⟨m, hm⟩ (fun i => nth uv (_ :: uv :: _ :: _ :: _ :: uv :: _ :: _ :: _ :: _ :: _ :: _ :: _ :: _ :: _ :: _ :: _ :: _ :: _ :: _ :: _ :: _ :: _ :: _ :: _ :: _ :: _ :: _ :: _ :: _ :: _ :: _ :: _ :: _ :: _ :: _ :: _ :: _ :: _ :: _ :: []) i)
    · rintro ⟨m, hm⟩ jj
      conv => whnf
      refine bcase_intro (fun hb => ?_) (fun hb => ?_)
      · have hz : X.z = -(m : Int) := by rcases nX.sgn with ⟨_, h⟩ | ⟨h, _⟩; omega; rw [hb] at h; cases h
        conv => whnf
        refine bcase_intro (fun hle => ?_) (fun hle => ?_)
        · have hle : m ≤ 9223372036854775808 := le_63 hle
          obtain ⟨r1, r2⟩ := int_yes (z := X.z) (by unfold IR; omega) ((neg_back hle).trans hz.symm)
          conv => whnf
          exact fun ρ => tup2_sv (int_t1 r1 ρ) (bool_t1 r2 ρ)
        · have hle : 9223372036854775808 < m := nle_63 hle
          obtain ⟨r1, r2⟩ := int_no (z := X.z) (by unfold IR; omega)
          conv => whnf
          refine bcase_intro (fun hge => ?_) (fun hge => ?_)
          · conv => whnf
            exact fun ρ => tup2_sv (int_t1 r1 ρ) (bool_t1 r2 ρ)
          · have hge : m < 9223372036854775808 := nge_63 hge
            omega
      · have hz : X.z = (m : Int) := by rcases nX.sgn with ⟨h, _⟩ | ⟨_, h⟩; rw [hb] at h; cases h; omega
        conv => whnf
        refine bcase_intro (fun hge => ?_) (fun hge => ?_)
        · have hge : 9223372036854775808 ≤ m := ge_63 hge
          obtain ⟨r1, r2⟩ := int_no (z := X.z) (by unfold IR; omega)
          conv => whnf
          exact fun ρ => tup2_sv (int_t1 r1 ρ) (bool_t1 r2 ρ)
        · have hge : m < 9223372036854775808 := nge_63 hge
          obtain ⟨r1, r2⟩ := int_yes (z := X.z) (by unfold IR; omega) ((pos_back hge).trans hz.symm)
          conv => whnf
          exact fun ρ => tup2_sv (int_t1 r1 ρ) (bool_t1 r2 ρ)
end Go.Proofs.YtbhcmajeoamloaaDoor
