/- nat.sub, where the first number is not less. -/
import Derived.Test.YtapppahniablmaaDoorAdd
namespace Go.Proofs.YtapppahniablmaaDoor
open Go.RowKit

/-- the digit and the borrow of a difference -/
theorem sub_word {x c y : Nat} (hx : x < 4294967296) (hc : c ≤ 1) (hy : y < 4294967296) : ∃ s : Nat, IntKind.u64.wrap (IntKind.u64.wrap ((x : Int) - c) - y) = (s : Int) ∧ s < 18446744073709551616 ∧
    s / 9223372036854775808 ≤ 1 ∧ s % WB + c + y = x + WB * (s / 9223372036854775808) := by
  rw [IntKind.wrap_u64, IntKind.wrap_u64, WB_eq]
  refine ⟨((((x : Int) - c) % 18446744073709551616 - y) % 18446744073709551616).toNat, ?_, ?_, ?_, ?_⟩ <;> omega

set_option maxRecDepth 100000 in
set_option maxHeartbeats 1000000 in
theorem sub_any (la lb : List Nat) (Aa Ab : Option Addr) (na nb ca cb : Nat) (w : World) (da : Dl WB la) (db : Dl WB lb)
    (ha : Wd .u64 w w.heap.size Aa la) (hb : Wd .u64 w w.heap.size Ab lb) (hna : la.length = na) (hnb : lb.length = nb) (hsa : na ≤ 1000000000) (hsb : nb ≤ na) (hle : val WB lb ≤ val WB la) :
    Calls Tryd.prog 58 #[.slice Aa na ca, .slice Ab nb cb] w (GivesNat (val WB la - val WB lb) w) := by
  have HX := Lib.hid ha
  have HY := Lib.hid hb
  have Hnx := Lib.hid hna
  have Hny := Lib.hid hnb
  have Hle := Lib.hid hle
  clear ha hb hna hnb hle
  have hmk := run_make_dig (P := Tryd.prog) 75 72 Tryd.underlying75 info_u64 (na : Int) na (by omega) (by omega)
  go_enter Tryd.func58, Tryd.ntmps58
  go_wp2
  clear hmk
  go_loopw [6, 14] (fun cr i wr => ∃ (k c : Nat) (lo : List Nat), k ≤ na ∧ c ≤ 1 ∧ i = .int .i64 k ∧ cr = .int .u64 c ∧ Ow .u64 wr w.heap.size 72 lo ∧ Hid (lo.length = na) ∧ Dl WB lo ∧
      Hid (val WB (lo.take k) + val WB (lb.take k) = val WB (la.take k) + WB ^ k * c) ∧ Below w.heap.size w wr) (fun _ i _ => na - (intOf i).toNat)
  case atStart => exact ⟨0, 0, List.replicate na 0, Nat.zero_le _, by omega, rfl, rfl, Ow.new _ _ _ _, List.length_replicate, Dl.replicate WB_pos _, by simp [Hid, val], (Below.refl _ _).alloc (Nat.le_refl _) _⟩
  case round =>
    obtain ⟨k, c, lo, hk, hc, rfl, rfl, how, Hlen, dlo, Hv, hbel⟩ := hrel
    have HOW := Lib.hid how
    have HBEL := Lib.hid hbel
    clear how hbel
    by_cases hlt : k < na
    · obtain ⟨ax, rfl, hcx⟩ := (HX.out.below HBEL.out).get (k := k) (by have := Hnx.out; omega)
      have hbx := da.getD WB_pos k
      rw [List.getD_eq_getElem?_getD, WB_eq] at hbx
      have hfo := HOW.out.free k
      have hco := HOW.out.cell k (by have := Hlen.out; omega)
      by_cases hlty : k < nb
      · obtain ⟨ay, rfl, hcy⟩ := (HY.out.below HBEL.out).get (k := k) (by have := Hny.out; omega)
        have hby := db.getD WB_pos k
        rw [List.getD_eq_getElem?_getD, WB_eq] at hby
        obtain ⟨s, es, hs, hs1, hs2⟩ := sub_word hbx hc hby
        have ES := Lib.hid es
        clear es
        go_wp2
        go_roundw
        case rel =>
          have e1 := and_mask _ s ES.out hs
          have hl := Hlen.out
          exact ⟨k + 1, _, lo.set k (s % WB), by omega, hs1, by go_num, by rw [ES.out]; go_num, by rw [e1]; exact HOW.out.set _ _, by rw [List.length_set]; exact hl, dlo.set _ (Nat.mod_lt _ WB_pos), sub_step (by omega) rfl rfl hs2 Hv.out, HBEL.out.setCell (Nat.le_refl _) _⟩
        case measure => simp [intOf]; omega
      · have hy0 : lb[k]?.getD 0 = 0 := by rw [List.getElem?_eq_none (by have := Hny.out; omega)]; rfl
        have HY0 := Lib.hid hy0
        clear hy0
        obtain ⟨s, es, hs, hs1, hs2⟩ := sub_word hbx hc (y := 0) (by omega)
        have es' : IntKind.u64.wrap (((la[k]?.getD 0 : Nat) : Int) - c) = (s : Int) := by
          rw [← es]; simp only [IntKind.wrap_u64]; omega
        have ES := Lib.hid es'
        clear es es'
        go_wp2
        go_roundw
        case rel =>
          have e1 := and_mask _ s ES.out hs
          have hl := Hlen.out
          exact ⟨k + 1, _, lo.set k (s % WB), by omega, hs1, by go_num, by rw [ES.out]; go_num, by rw [e1]; exact HOW.out.set _ _, by rw [List.length_set]; exact hl, dlo.set _ (Nat.mod_lt _ WB_pos), sub_step (by omega) rfl HY0.out hs2 Hv.out, HBEL.out.setCell (Nat.le_refl _) _⟩
        case measure => simp [intOf]; omega
    · obtain rfl : k = na := by omega
      have hval : val WB lo = val WB la - val WB lb := by
        have h2 := Hv.out
        rw [List.take_of_length_le (l := la) (by have := Hnx.out; omega), List.take_of_length_le (l := lb) (by have := Hny.out; omega), List.take_of_length_le (l := lo) (by have := Hlen.out; omega)] at h2
        have h3 := Hle.out
        have h4 := val_lt dlo
        rw [Hlen.out] at h4
        rcases Nat.eq_zero_or_pos c with h0 | h0
        · subst h0; omega
        · obtain rfl : c = 1 := by omega
          omega
      have HVAL := Lib.hid hval
      clear hval
      go_wp2_with (go_at_call 68; refine (norm_any lo _ _ _ wr.heap.size _ Hlen.out (by omega) (by omega) (HOW.out.wd HOW.out.lt)).mono ?_; rintro e w' ⟨rfl, rfl⟩)
      go_ret
      rw [← HVAL.out]
      exact gives_norm HBEL.out (HOW.out.wd HOW.out.lt) dlo (by have := Hlen.out; omega) (by omega)
end Go.Proofs.YtapppahniablmaaDoor
