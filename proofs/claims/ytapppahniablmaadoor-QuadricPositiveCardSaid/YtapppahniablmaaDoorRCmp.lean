/- ref compare. -/
import Derived.Test.YtapppahniablmaaDoorCmp
import Derived.Test.YtapppahniablmaaDoorRDig
namespace Go.Proofs.YtapppahniablmaaDoor
open Go.RowKit

set_option maxRecDepth 100000 in
set_option maxHeartbeats 1000000 in
theorem compare_any (m n : Nat) (Aa Ab : Option Addr) (na nb ca cb : Nat) (w : World)
    (ha : Wd .i64 w w.heap.size Aa (dig RB m)) (hb : Wd .i64 w w.heap.size Ab (dig RB n)) (hna : (dig RB m).length = na) (hnb : (dig RB n).length = nb) (hsa : na ≤ 1000000000) (hsb : nb ≤ 1000000000) :
    Calls Tryd.prog 44 #[.slice Aa na ca, .slice Ab nb cb] w fun e w' => e = .returned (.int .i64 (cmpN m n)) ∧ Below w.heap.size w w' := by
  by_cases h1 : na < nb
  · have hlt : m < n := lt_of_len_lt RB_two (by omega)
    clear ha hb hna hnb
    go_enter Tryd.func44, Tryd.ntmps44
    go_wp2
    go_ret
    exact ⟨ret_eq (by rw [cmpN_lt hlt]; rfl), Below.refl _ _⟩
  · by_cases h2 : nb < na
    · have hlt : n < m := lt_of_len_lt RB_two (by omega)
      clear ha hb hna hnb
      go_enter Tryd.func44, Tryd.ntmps44
      go_wp2
      go_ret
      exact ⟨ret_eq (by rw [cmpN_gt hlt]; rfl), Below.refl _ _⟩
    · obtain rfl : na = nb := by omega
      have HX := Lib.hid ha
      have HY := Lib.hid hb
      have Hnx := Lib.hid hna
      have Hny := Lib.hid hnb
      have dx := dig_Dl RB_two m
      have dy := dig_Dl RB_two n
      have HM := Lib.hid (val_dig RB_two m)
      have HN := Lib.hid (val_dig RB_two n)
      clear ha hb hna hnb
      generalize dig RB m = la at *
      generalize dig RB n = lb at *
      go_enter Tryd.func44, Tryd.ntmps44
      go_wp2
      go_loopw [5] (fun i wr => ∃ (k : Nat), k ≤ na ∧ i = .int .i64 ((k : Int) - 1) ∧ Hid (la.drop k = lb.drop k) ∧ Below w.heap.size w wr) (fun i _ => (intOf i + 1).toNat)
      case atStart => exact ⟨na, Nat.le_refl _, rfl, by rw [Hid, List.drop_of_length_le (by have := Hnx.out; omega), List.drop_of_length_le (by have := Hny.out; omega)], Below.refl _ _⟩
      case round =>
        obtain ⟨k, hk, rfl, Hd, hbel⟩ := hrel
        have HBEL := Lib.hid hbel
        clear hbel
        rcases Nat.eq_zero_or_pos k with h0 | h0
        · subst h0
          go_wp2
          go_ret
          have e := Hd.out
          rw [List.drop_zero, List.drop_zero] at e
          have hmn : m = n := by rw [← HM.out, ← HN.out, e]
          exact ⟨ret_eq (by rw [hmn, cmpN_self]; rfl), HBEL.out⟩
        · obtain ⟨ax, rfl, hcx⟩ := (HX.out.below HBEL.out).get (k := k - 1) (by have := Hnx.out; omega)
          obtain ⟨ay, rfl, hcy⟩ := (HY.out.below HBEL.out).get (k := k - 1) (by have := Hny.out; omega)
          have HLEN := Lib.hid (Hnx.out.trans Hny.out.symm)
          have HKL : Hid (k ≤ la.length) := by have := Hnx.out; show k ≤ la.length; omega
          have HKM : Hid (k ≤ lb.length) := by have := Hny.out; show k ≤ lb.length; omega
          by_cases hxy : la[k - 1]?.getD 0 < lb[k - 1]?.getD 0
          · have hlt : m < n := by
              rw [← HM.out, ← HN.out]
              exact val_lt_of_getD dx HLEN.out h0 HKL.out Hd.out hxy
            have hne : (((la[k - 1]?.getD 0 : Nat) : Int) != ((lb[k - 1]?.getD 0 : Nat) : Int)) = true := by rw [bne_iff_ne]; omega
            go_wp2
            go_region
            go_wp2
            go_region
            go_wp2
            go_ret
            exact ⟨ret_eq (by rw [cmpN_lt hlt]; rfl), HBEL.out.drew.drew⟩
          · by_cases hyx : lb[k - 1]?.getD 0 < la[k - 1]?.getD 0
            · have hlt : n < m := by
                rw [← HM.out, ← HN.out]
                exact val_lt_of_getD dy HLEN.out.symm h0 HKM.out Hd.out.symm hyx
              have hne : (((la[k - 1]?.getD 0 : Nat) : Int) != ((lb[k - 1]?.getD 0 : Nat) : Int)) = true := by rw [bne_iff_ne]; omega
              go_wp2
              go_region
              go_wp2
              go_region
              go_wp2
              go_ret
              exact ⟨ret_eq (by rw [cmpN_gt hlt]; rfl), HBEL.out.drew.drew⟩
            · have hd := drop_pred HLEN.out h0 HKL.out Hd.out (by omega)
              have HD := Lib.hid hd
              clear hd
              have hne : (((la[k - 1]?.getD 0 : Nat) : Int) != ((lb[k - 1]?.getD 0 : Nat) : Int)) = false := by rw [bne_eq_false_iff_eq]; omega
              go_wp2
              go_region
              go_wp2
              go_roundw
              case rel => exact ⟨k - 1, by omega, by go_num, HD.out, HBEL.out.drew⟩
              case measure => simp [intOf]; omega
end Go.Proofs.YtapppahniablmaaDoor
