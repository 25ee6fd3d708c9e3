/- nat.cmp. -/
import Derived.Test.YtapppahniablmaaDoorAdd
namespace Go.Proofs.YtapppahniablmaaDoor
open Go.RowKit

def cmpN (m n : Nat) : Int := if m < n then -1 else if n < m then 1 else 0

theorem cmpN_self (m : Nat) : cmpN m m = 0 := by unfold cmpN; rw [if_neg (by omega), if_neg (by omega)]
theorem cmpN_lt {m n : Nat} (h : m < n) : cmpN m n = -1 := by unfold cmpN; rw [if_pos h]
theorem cmpN_gt {m n : Nat} (h : n < m) : cmpN m n = 1 := by unfold cmpN; rw [if_neg (by omega), if_pos h]

set_option maxRecDepth 100000 in
set_option maxHeartbeats 1000000 in
theorem cmp_any (m n : Nat) (Aa Ab : Option Addr) (na nb ca cb : Nat) (w : World)
    (ha : Wd .u64 w w.heap.size Aa (dig WB m)) (hb : Wd .u64 w w.heap.size Ab (dig WB n)) (hna : (dig WB m).length = na) (hnb : (dig WB n).length = nb) (hsa : na ≤ 1000000000) (hsb : nb ≤ 1000000000) :
    Calls Tryd.prog 57 #[.slice Aa na ca, .slice Ab nb cb] w fun e w' => e = .returned (.int .i64 (cmpN m n)) ∧ Below w.heap.size w w' := by
  by_cases h1 : na < nb
  · have hlt : m < n := lt_of_len_lt WB_two (by omega)
    clear ha hb hna hnb
    go_enter Tryd.func57, Tryd.ntmps57
    go_wp2
    go_ret
    exact ⟨ret_eq (by rw [cmpN_lt hlt]; rfl), Below.refl _ _⟩
  · by_cases h2 : nb < na
    · have hlt : n < m := lt_of_len_lt WB_two (by omega)
      clear ha hb hna hnb
      go_enter Tryd.func57, Tryd.ntmps57
      go_wp2
      go_ret
      exact ⟨ret_eq (by rw [cmpN_gt hlt]; rfl), Below.refl _ _⟩
    · obtain rfl : na = nb := by omega
      have HX := Lib.hid ha
      have HY := Lib.hid hb
      have Hnx := Lib.hid hna
      have Hny := Lib.hid hnb
      have dx := dig_Dl WB_two m
      have dy := dig_Dl WB_two n
      have HM := Lib.hid (val_dig WB_two m)
      have HN := Lib.hid (val_dig WB_two n)
      clear ha hb hna hnb
      generalize dig WB m = la at *
      generalize dig WB n = lb at *
      go_enter Tryd.func57, Tryd.ntmps57
      go_wp2
      go_loopw [5] (fun i wr => ∃ (k : Nat), k ≤ na ∧ i = .int .i64 ((k : Int) - 1) ∧ Hid (la.drop k = lb.drop k) ∧ Below w.heap.size w wr) (fun i _ => (intOf i + 1).toNat)
      case atStart => exact ⟨na, Nat.le_refl _, rfl, by rw [Hid, List.drop_of_length_le (by have := Hnx.out; omega), List.drop_of_length_le (by have := Hny.out; omega)], Below.refl _ _⟩
      case round =>
        obtain ⟨k, hk, rfl, Hd, hbel⟩ := hrel
        have HBEL := Lib.hid hbel
        clear hbel
        rcases Nat.eq_zero_or_pos k with h0 | h0
        · subst h0
          go_wp2
          go_ret
          have e := Hd.out
          rw [List.drop_zero, List.drop_zero] at e
          have hmn : m = n := by rw [← HM.out, ← HN.out, e]
          exact ⟨ret_eq (by rw [hmn, cmpN_self]; rfl), HBEL.out⟩
        · obtain ⟨ax, rfl, hcx⟩ := (HX.out.below HBEL.out).get (k := k - 1) (by have := Hnx.out; omega)
          obtain ⟨ay, rfl, hcy⟩ := (HY.out.below HBEL.out).get (k := k - 1) (by have := Hny.out; omega)
          have HLEN := Lib.hid (Hnx.out.trans Hny.out.symm)
          have HKL : Hid (k ≤ la.length) := by have := Hnx.out; show k ≤ la.length; omega
          have HKM : Hid (k ≤ lb.length) := by have := Hny.out; show k ≤ lb.length; omega
          by_cases hxy : la[k - 1]?.getD 0 < lb[k - 1]?.getD 0
          · have hlt : m < n := by
              rw [← HM.out, ← HN.out]
              exact val_lt_of_getD dx HLEN.out h0 HKL.out Hd.out hxy
            go_wp2
            go_region
            go_wp2
            go_ret
            exact ⟨ret_eq (by rw [cmpN_lt hlt]; rfl), HBEL.out.drew⟩
          · by_cases hyx : lb[k - 1]?.getD 0 < la[k - 1]?.getD 0
            · have hlt : n < m := by
                rw [← HM.out, ← HN.out]
                exact val_lt_of_getD dy HLEN.out.symm h0 HKM.out Hd.out.symm hyx
              go_wp2
              go_region
              go_wp2
              go_region
              go_wp2
              go_ret
              exact ⟨ret_eq (by rw [cmpN_gt hlt]; rfl), HBEL.out.drew.drew⟩
            · have hd := drop_pred HLEN.out h0 HKL.out Hd.out (by omega)
              have HD := Lib.hid hd
              clear hd
              go_wp2
              go_region
              go_wp2
              go_region
              go_wp2
              go_roundw
              case rel => exact ⟨k - 1, by omega, by go_num, HD.out, HBEL.out.drew.drew⟩
              case measure => simp [intOf]; omega
end Go.Proofs.YtapppahniablmaaDoor
