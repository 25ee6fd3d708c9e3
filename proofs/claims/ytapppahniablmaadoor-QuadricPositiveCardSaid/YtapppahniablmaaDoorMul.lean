/- nat.mul. -/
import Derived.Test.YtapppahniablmaaDoorAdd
namespace Go.Proofs.YtapppahniablmaaDoor
open Go.RowKit

theorem mul_word {x y u c : Nat} (hx : x < 4294967296) (hy : y < 4294967296) (hu : u < 4294967296) (hc : c < 4294967296) : (x : Int) * y ≤ 18446744065119617025 ∧ u + x * y + c < 18446744073709551616 ∧ 0 ≤ (x : Int) * y := by
  have h : x * y ≤ 4294967295 * 4294967295 := Nat.mul_le_mul (by omega) (by omega)
  have e : (x : Int) * y = ((x * y : Nat) : Int) := by rw [Int.natCast_mul]
  rw [e]
  omega

set_option maxRecDepth 100000 in
set_option maxHeartbeats 1000000 in
theorem mul_any (la lb : List Nat) (Aa Ab : Option Addr) (na nb ca cb : Nat) (w : World) (da : Dl WB la) (db : Dl WB lb)
    (ha : Wd .u64 w w.heap.size Aa la) (hb : Wd .u64 w w.heap.size Ab lb) (hna : la.length = na) (hnb : lb.length = nb) (hsa : na ≤ 1000000000) (hsb : nb ≤ 1000000000) :
    Calls Tryd.prog 53 #[.slice Aa na ca, .slice Ab nb cb] w (GivesNat (val WB la * val WB lb) w) := by
  have HX := Lib.hid ha
  have HY := Lib.hid hb
  have Hnx := Lib.hid hna
  have Hny := Lib.hid hnb
  clear ha hb hna hnb
  have hmk := run_make_dig (P := Tryd.prog) 75 72 Tryd.underlying75 info_u64 ((na : Int) + nb) (na + nb) (by omega) (by omega)
  go_enter Tryd.func53, Tryd.ntmps53
  go_wp2
  clear hmk
  go_loopw [20] (fun i wr => ∃ (k : Nat) (lo : List Nat), k ≤ na ∧ i = .int .i64 k ∧ Ow .u64 wr w.heap.size 72 lo ∧ Hid (lo.length = na + nb) ∧ Dl WB lo ∧
      Hid (val WB lo = val WB (la.take k) * val WB lb) ∧ Hid (∀ j, k + nb ≤ j → lo[j]?.getD 0 = 0) ∧ Below w.heap.size w wr) (fun i _ => na - (intOf i).toNat)
  case atStart => exact ⟨0, List.replicate (na + nb) 0, Nat.zero_le _, rfl, Ow.new _ _ _ _, List.length_replicate, Dl.replicate WB_pos _, by simp [Hid, val, val_replicate], fun j _ => by rw [List.getElem?_replicate]; split <;> rfl, (Below.refl _ _).alloc (Nat.le_refl _) _⟩
  case round =>
    obtain ⟨i, lo, hi, rfl, how, Hlen, dlo, Hv, Hz, hbel⟩ := hrel
    by_cases hlt : i < na
    · obtain ⟨ax, rfl, hcx⟩ := (HX.out.below hbel).get (k := i) (by have := Hnx.out; omega)
      have hbx := da.getD WB_pos i
      rw [List.getD_eq_getElem?_getD, WB_eq] at hbx
      have HOW := Lib.hid how
      have HBEL := Lib.hid hbel
      have HDL := Lib.hid dlo
      clear how hbel dlo
      obtain ⟨wo, rfl⟩ : ∃ wo : World, wo = wr := ⟨_, rfl⟩
      go_wp2
      go_loopw [8, 27] (fun cr i2 wr => ∃ (k c : Nat) (lo : List Nat), k ≤ nb ∧ c < 4294967296 ∧ i2 = .int .i64 k ∧ cr = .int .u64 c ∧ Ow .u64 wr w.heap.size 72 lo ∧ Hid (lo.length = na + nb) ∧ Dl WB lo ∧
        Hid (val WB lo + WB ^ (i + k) * c = val WB (la.take i) * val WB lb + (la[i]?.getD 0) * val WB (lb.take k) * WB ^ i) ∧ Hid (∀ j, i + nb ≤ j → lo[j]?.getD 0 = 0) ∧ Below w.heap.size w wr) (fun _ i2 _ => nb - (intOf i2).toNat)
      case atStart => exact ⟨0, 0, lo, Nat.zero_le _, by omega, rfl, rfl, HOW.out, Hlen, HDL.out, by have := Hv.out; simp [Hid, val, this], Hz, HBEL.out⟩
      case round =>
        clear HOW HBEL HDL Hv Hz hcx Hlen
        obtain ⟨k, c, l2, hk, hc, rfl, rfl, how, Hlen, dl2, Hv, Hz, hbel⟩ := hrel
        have HOW := Lib.hid how
        have HBEL := Lib.hid hbel
        clear how hbel
        by_cases hlk : k < nb
        · obtain ⟨ay, rfl, hcy⟩ := (HY.out.below HBEL.out).get (k := k) (by have := Hny.out; omega)
          have hby := db.getD WB_pos k
          rw [List.getD_eq_getElem?_getD, WB_eq] at hby
          have hbu := dl2.getD WB_pos (i + k)
          rw [List.getD_eq_getElem?_getD, WB_eq] at hbu
          obtain ⟨hm1, hm2, hm3⟩ := mul_word hbx hby hbu hc
          have hfo := HOW.out.free (i + k)
          have hco := HOW.out.cell (i + k) (by have := Hlen.out; omega)
          go_wp2
          go_roundw
          case rel =>
            have e1 := and_mask (((l2[i + k]?.getD 0 : Nat) : Int) + (la[i]?.getD 0 : Nat) * (lb[k]?.getD 0 : Nat) + (c : Nat)) (l2[i + k]?.getD 0 + la[i]?.getD 0 * lb[k]?.getD 0 + c) (by rw [Int.natCast_add, Int.natCast_add, Int.natCast_mul]) hm2
            have e2 := div_word (((l2[i + k]?.getD 0 : Nat) : Int) + (la[i]?.getD 0 : Nat) * (lb[k]?.getD 0 : Nat) + (c : Nat)) (l2[i + k]?.getD 0 + la[i]?.getD 0 * lb[k]?.getD 0 + c) (by rw [Int.natCast_add, Int.natCast_add, Int.natCast_mul])
            have hl := Hlen.out
            refine ⟨k + 1, _, l2.set (i + k) ((l2[i + k]?.getD 0 + la[i]?.getD 0 * lb[k]?.getD 0 + c) % WB), by omega, ?_, by go_num, by rw [e2], by rw [e1]; exact HOW.out.set _ _, by rw [List.length_set]; exact hl, dl2.set _ (Nat.mod_lt _ WB_pos), mul_step (by omega) Hv.out, fun j hj => by rw [List.getElem?_set_ne (by omega)]; exact Hz.out j hj, HBEL.out.setCell (Nat.le_refl _) _⟩
            rw [WB_eq]; omega
          case measure => simp [intOf]; omega
        · obtain rfl : k = nb := by omega
          have hfo := HOW.out.free (i + k)
          have hco := HOW.out.cell (i + k) (by have := Hlen.out; omega)
          go_wp2
          go_roundw
          case rel =>
            have hl := Hlen.out
            have hnb := Hny.out
            refine ⟨i + 1, l2.set (i + k) c, by omega, by go_num, HOW.out.set _ _, by rw [List.length_set]; exact hl, dl2.set _ (by rw [WB_eq]; exact hc), ?_, fun j hj => by rw [List.getElem?_set_ne (by omega)]; exact Hz.out j (by omega), HBEL.out.setCell (Nat.le_refl _) _⟩
            have hv := Hv.out
            have hz := Hz.out (i + k) (Nat.le_refl _)
            subst hnb
            exact mul_row (by omega) hz hv
          case measure => simp [intOf]; omega
    · obtain rfl : i = na := by omega
      have HOW := Lib.hid how
      have HBEL := Lib.hid hbel
      clear how hbel
      have hval : val WB lo = val WB la * val WB lb := by
        have h2 := Hv.out
        rwa [List.take_of_length_le (l := la) (by have := Hnx.out; omega)] at h2
      have HVAL := Lib.hid hval
      clear hval
      go_wp2_with (go_at_call 68; refine (norm_any lo _ _ _ wr.heap.size _ Hlen.out (by omega) (by omega) (HOW.out.wd HOW.out.lt)).mono ?_; rintro e w' ⟨rfl, rfl⟩)
      go_ret
      rw [← HVAL.out]
      exact gives_norm HBEL.out (HOW.out.wd HOW.out.lt) dlo (by have := Hlen.out; omega) (by omega)
end Go.Proofs.YtapppahniablmaaDoor
