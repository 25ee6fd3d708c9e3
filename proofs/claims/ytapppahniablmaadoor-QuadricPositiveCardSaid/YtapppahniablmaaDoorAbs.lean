/- wide.abs: the words of a number. -/
import Derived.Test.YtapppahniablmaaDoorBits
namespace Go.Proofs.YtapppahniablmaaDoor
open Go.RowKit

theorem byte_shl_lt {b e : Nat} (hb : b < 256) (he : e ≤ 24) : b * 2 ^ e < 4294967296 := by
  have h1 : b * 2 ^ e ≤ 255 * 2 ^ 24 := Nat.mul_le_mul (by omega) (Nat.pow_le_pow_right (by omega) he)
  omega
theorem byte_shl {b e : Nat} (hb : b < 256) (he : e ≤ 24) : IntKind.u64.wrap (IntKind.u64.wrap (b : Int) * 2 ^ e) = ((b * 2 ^ e : Nat) : Int) := by
  have h := byte_shl_lt hb he
  have e0 : IntKind.u64.wrap (b : Int) = (b : Int) := by rw [IntKind.wrap_u64]; omega
  rw [e0]
  exact shl_form (by omega)

set_option maxRecDepth 100000 in
set_option maxHeartbeats 1000000 in
theorem abs_any (neg : Bool) (s : ByteArray) (w : World) (hs : s.size ≤ 1000000000) :
    Calls Tryd.prog 52 #[.agg #[.bool neg, .string s]] w (GivesNat (mval s.data.toList) w) := by
  have hmk := run_make_dig (P := Tryd.prog) 75 72 Tryd.underlying75 info_u64 (((s.size : Int) + 4 - 1) / 4) ((s.size + 3) / 4) (by omega) (by omega)
  go_enter Tryd.func52, Tryd.ntmps52
  go_wp2
  clear hmk
  go_loopw [16] (fun i wr => ∃ (k : Nat) (lo : List Nat), k ≤ s.size ∧ i = .int .i64 (k : Int) ∧ wr.cell? ⟨w.heap.size, 1, none⟩ = some (.string s) ∧ Ow .u64 wr (w.heap.size + 1) 72 lo ∧ Hid (lo.length = (s.size + 3) / 4) ∧ Dl WB lo ∧
      Hid (val WB lo = 256 ^ (s.size - k) * mval (s.data.toList.take k)) ∧ Below w.heap.size w wr) (fun i _ => s.size - (intOf i).toNat)
  case atStart => exact ⟨0, List.replicate _ 0, Nat.zero_le _, rfl, by simp [go_sem], by have h := Ow.new (w.alloc (.cells #[.bool neg, .string s] 26)) .u64 72 ((s.size + 3) / 4); simpa using h, List.length_replicate, Dl.replicate WB_pos _, by simp [Hid, val, val_replicate, mval], ((Below.refl _ _).alloc (Nat.le_refl _) _).alloc (by simp) _⟩
  case round =>
    obtain ⟨k, lo, hk, rfl, hstr, how, Hlen, dlo, Hv, hbel⟩ := hrel
    have HOW := Lib.hid how
    have HBEL := Lib.hid hbel
    clear how hbel
    by_cases hlt : k < s.size
    · have hfo := HOW.out.free ((s.size - 1 - k) / 4)
      have hco := HOW.out.cell ((s.size - 1 - k) / 4) (by have := Hlen.out; omega)
      go_wp2
      go_region
      go_wp2
      go_roundw
      case rel =>
        have hl := Hlen.out
        have hb : s[k].toNat < 256 := UInt8.toNat_lt _
        have hg : s.data.toList[k]? = some s[k] := by rw [Array.getElem?_toList, Array.getElem?_eq_getElem (by exact hlt)]; rfl
        have hv := Hv.out
        rw [WB_eq] at hv
        have dlo4 : Dl 4294967296 lo := by rw [← WB_eq]; exact dlo
        obtain ⟨h1, h2⟩ := abs_step' dlo4 (by simp only [Array.length_toList]; rfl) hg (by omega) hv
        have e1 : bits .or .u64 ((lo[(s.size - 1 - k) / 4]?.getD 0 : Nat) : Int) (IntKind.u64.wrap (IntKind.u64.wrap (s[k].toNat : Int) * 2 ^ (8 * ((s.size - 1 - k) % 4)))) = ((lo[(s.size - 1 - k) / 4]?.getD 0 ||| s[k].toNat * 2 ^ (8 * ((s.size - 1 - k) % 4)) : Nat) : Int) := by
          have hd := dlo4.getD (by omega) ((s.size - 1 - k) / 4)
          rw [List.getD_eq_getElem?_getD] at hd
          rw [byte_shl hb (by omega)]
          exact or_nat hd (byte_shl_lt hb (by omega))
        rw [e1]
        exact ⟨k + 1, _, by omega, by go_num, by rw [World.cell?_drew, World.cell?_setCell_other _ _ _ _ (by simp)]; exact hstr, (HOW.out.set _ _).drew, by rw [List.length_set]; exact hl, dlo.set _ (by rw [WB_eq]; exact h1), by rw [Hid, WB_eq]; exact h2, (HBEL.out.setCell (Nat.le_succ _) _).drew⟩
      case measure => simp [intOf]; omega
    · obtain rfl : k = s.size := by omega
      go_wp2_with (go_at_call 68; refine (norm_any lo _ _ _ wr.heap.size _ Hlen.out (by omega) (by omega) (HOW.out.wd HOW.out.lt)).mono ?_; rintro e w' ⟨rfl, rfl⟩)
      go_ret
      have hv : val WB lo = mval s.data.toList := by
        have h := Hv.out
        rw [Nat.sub_self, Nat.pow_zero, Nat.one_mul, List.take_of_length_le (by simp)] at h
        exact h
      rw [← hv]
      exact gives_norm HBEL.out (HOW.out.wd HOW.out.lt) dlo (by have := Hlen.out; omega) (by omega)
end Go.Proofs.YtapppahniablmaaDoor
