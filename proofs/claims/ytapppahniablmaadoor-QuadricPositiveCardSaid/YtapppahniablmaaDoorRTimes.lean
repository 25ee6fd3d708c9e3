/- ref times. -/
import Derived.Test.YtapppahniablmaaDoorRDig
import Derived.Test.YtapppahniablmaaDoorKeep
namespace Go.Proofs.YtapppahniablmaaDoor
open Go.RowKit

theorem rmul_word {x y u c : Nat} (hx : x < 65536) (hy : y < 65536) (hu : u < 65536) (hc : c < 65536) : (x : Int) * y ≤ 4294836225 ∧ u + x * y + c < 4294967296 ∧ 0 ≤ (x : Int) * y := by
  have h : x * y ≤ 65535 * 65535 := Nat.mul_le_mul (by omega) (by omega)
  have e : (x : Int) * y = ((x * y : Nat) : Int) := by rw [Int.natCast_mul]
  rw [e]
  omega

set_option maxRecDepth 100000 in
set_option maxHeartbeats 1000000 in
theorem times_any (la lb : List Nat) (Aa Ab : Option Addr) (na nb ca cb : Nat) (w : World) (da : Dl RB la) (db : Dl RB lb)
    (ha : Wd .i64 w w.heap.size Aa la) (hb : Wd .i64 w w.heap.size Ab lb) (hna : la.length = na) (hnb : lb.length = nb) (hsa : na ≤ 1000000000) (hsb : nb ≤ 1000000000) :
    Calls Tryd.prog 40 #[.slice Aa na ca, .slice Ab nb cb] w (GivesDig (val RB la * val RB lb) w) := by
  have HX := Lib.hid ha
  have HY := Lib.hid hb
  have Hnx := Lib.hid hna
  have Hny := Lib.hid hnb
  clear ha hb hna hnb
  have hmk := run_make_dig (P := Tryd.prog) 45 3 Tryd.underlying45 info_int ((na : Int) + nb) (na + nb) (by omega) (by omega)
  go_enter Tryd.func40, Tryd.ntmps40
  go_wp2
  clear hmk
  go_loopw [6] (fun i wr => ∃ (k : Nat) (lo : List Nat), k ≤ na ∧ i = .int .i64 k ∧ Ow .i64 wr w.heap.size 3 lo ∧ Hid (lo.length = na + nb) ∧ Dl RB lo ∧
      Hid (val RB lo = val RB (la.take k) * val RB lb) ∧ Hid (∀ j, k + nb ≤ j → lo[j]?.getD 0 = 0) ∧ Below w.heap.size w wr) (fun i _ => na - (intOf i).toNat)
  case atStart => exact ⟨0, List.replicate (na + nb) 0, Nat.zero_le _, rfl, Ow.new _ _ _ _, List.length_replicate, Dl.replicate RB_pos _, by simp [Hid, val, val_replicate], fun j _ => by rw [List.getElem?_replicate]; split <;> rfl, (Below.refl _ _).alloc (Nat.le_refl _) _⟩
  case round =>
    obtain ⟨i, lo, hi, rfl, how, Hlen, dlo, Hv, Hz, hbel⟩ := hrel
    by_cases hlt : i < na
    · obtain ⟨ax, rfl, hcx⟩ := (HX.out.below hbel).get (k := i) (by have := Hnx.out; omega)
      have hbx := da.getD RB_pos i
      rw [List.getD_eq_getElem?_getD, RB_eq] at hbx
      have HOW := Lib.hid how
      have HBEL := Lib.hid hbel
      have HDL := Lib.hid dlo
      clear how hbel dlo
      obtain ⟨wo, rfl⟩ : ∃ wo : World, wo = wr := ⟨_, rfl⟩
      go_wp2
      go_loopw [7, 8] (fun cr i2 wr => ∃ (k c : Nat) (lo : List Nat), k ≤ nb ∧ c < 65536 ∧ i2 = .int .i64 k ∧ cr = .int .i64 c ∧ Ow .i64 wr w.heap.size 3 lo ∧ Hid (lo.length = na + nb) ∧ Dl RB lo ∧
        Hid (val RB lo + RB ^ (i + k) * c = val RB (la.take i) * val RB lb + (la[i]?.getD 0) * val RB (lb.take k) * RB ^ i) ∧ Hid (∀ j, i + nb ≤ j → lo[j]?.getD 0 = 0) ∧ Below w.heap.size w wr) (fun _ i2 _ => nb - (intOf i2).toNat)
      case atStart => exact ⟨0, 0, lo, Nat.zero_le _, by omega, rfl, rfl, HOW.out, Hlen, HDL.out, by have := Hv.out; simp [Hid, val, this], Hz, HBEL.out⟩
      case round =>
        clear HOW HBEL HDL Hv Hz hcx Hlen
        obtain ⟨k, c, l2, hk, hc, rfl, rfl, how, Hlen, dl2, Hv, Hz, hbel⟩ := hrel
        have HOW := Lib.hid how
        have HBEL := Lib.hid hbel
        clear how hbel
        by_cases hlk : k < nb
        · obtain ⟨ax', eax, hcx⟩ := (HX.out.below HBEL.out).get (k := i) (by have := Hnx.out; omega)
          obtain rfl : ax = ax' := by injection eax
          clear eax
          obtain ⟨ay, rfl, hcy⟩ := (HY.out.below HBEL.out).get (k := k) (by have := Hny.out; omega)
          have hby := db.getD RB_pos k
          rw [List.getD_eq_getElem?_getD, RB_eq] at hby
          have hbu := dl2.getD RB_pos (i + k)
          rw [List.getD_eq_getElem?_getD, RB_eq] at hbu
          obtain ⟨hm1, hm2, hm3⟩ := rmul_word hbx hby hbu hc
          have hfo := HOW.out.free (i + k)
          have hco := HOW.out.cell (i + k) (by have := Hlen.out; omega)
          go_wp2
          go_region
          go_wp2
          go_roundw
          case rel =>
            have e1 : (((l2[i + k]?.getD 0 : Nat) : Int) + (la[i]?.getD 0 : Nat) * (lb[k]?.getD 0 : Nat) + (c : Nat)) % 65536 = (((l2[i + k]?.getD 0 + la[i]?.getD 0 * lb[k]?.getD 0 + c) % RB : Nat) : Int) := by rw [RB_eq, Int.natCast_emod, Int.natCast_add, Int.natCast_add, Int.natCast_mul]; rfl
            have e2 : (((l2[i + k]?.getD 0 : Nat) : Int) + (la[i]?.getD 0 : Nat) * (lb[k]?.getD 0 : Nat) + (c : Nat)) / 65536 = (((l2[i + k]?.getD 0 + la[i]?.getD 0 * lb[k]?.getD 0 + c) / RB : Nat) : Int) := by rw [RB_eq, Int.natCast_ediv, Int.natCast_add, Int.natCast_add, Int.natCast_mul]; rfl
            have hl := Hlen.out
            refine ⟨k + 1, _, l2.set (i + k) ((l2[i + k]?.getD 0 + la[i]?.getD 0 * lb[k]?.getD 0 + c) % RB), by omega, ?_, by go_num, by rw [e2], by rw [e1]; exact HOW.out.set _ _, by rw [List.length_set]; exact hl, dl2.set _ (Nat.mod_lt _ RB_pos), mul_step (by omega) Hv.out, fun j hj => by rw [List.getElem?_set_ne (by omega)]; exact Hz.out j hj, HBEL.out.drew.setCell (Nat.le_refl _) _⟩
            rw [RB_eq]; omega
          case measure => simp [intOf]; omega
        · obtain rfl : k = nb := by omega
          have hfo := HOW.out.free (i + k)
          have hco := HOW.out.cell (i + k) (by have := Hlen.out; omega)
          go_wp2
          go_roundw
          case rel =>
            have hl := Hlen.out
            have hnb := Hny.out
            refine ⟨i + 1, l2.set (i + k) c, by omega, by go_num, HOW.out.set _ _, by rw [List.length_set]; exact hl, dl2.set _ (by rw [RB_eq]; exact hc), ?_, fun j hj => by rw [List.getElem?_set_ne (by omega)]; exact Hz.out j (by omega), HBEL.out.setCell (Nat.le_refl _) _⟩
            have hv := Hv.out
            have hz := Hz.out (i + k) (Nat.le_refl _)
            subst hnb
            exact mul_row (by omega) hz hv
          case measure => simp [intOf]; omega
    · obtain rfl : i = na := by omega
      have HOW := Lib.hid how
      have HBEL := Lib.hid hbel
      clear how hbel
      have hval : val RB lo = val RB la * val RB lb := by
        have h2 := Hv.out
        rwa [List.take_of_length_le (l := la) (by have := Hnx.out; omega)] at h2
      have HVAL := Lib.hid hval
      clear hval
      go_wp2_with (go_at_call 59; refine (trim_any lo _ _ _ wr.heap.size _ Hlen.out (by omega) (by omega) (HOW.out.wd HOW.out.lt)).mono ?_; rintro e w' ⟨rfl, rfl⟩)
      go_ret
      rw [← HVAL.out]
      exact gives_trim HBEL.out (HOW.out.wd HOW.out.lt) dlo (by have := Hlen.out; omega) (by omega)

end Go.Proofs.YtapppahniablmaaDoor
