/- ref minus. -/
import Derived.Test.YtapppahniablmaaDoorRPlus
namespace Go.Proofs.YtapppahniablmaaDoor
open Go.RowKit

set_option maxRecDepth 100000 in
set_option maxHeartbeats 2000000 in
theorem minus_any (la lb : List Nat) (Aa Ab : Option Addr) (na nb ca cb : Nat) (w : World) (da : Dl RB la) (db : Dl RB lb)
    (ha : Wd .i64 w w.heap.size Aa la) (hb : Wd .i64 w w.heap.size Ab lb) (hna : la.length = na) (hnb : lb.length = nb) (hsa : na ≤ 1000000000) (hsb : nb ≤ na) (hle : val RB lb ≤ val RB la) :
    Calls Tryd.prog 45 #[.slice Aa na ca, .slice Ab nb cb] w (GivesDig (val RB la - val RB lb) w) := by
  obtain ⟨i0, hi, hz0, hz1, hz2⟩ := info_parts info_int
  have HX := Lib.hid ha
  have HY := Lib.hid hb
  have Hnx := Lib.hid hna
  have Hny := Lib.hid hnb
  have Hle := Lib.hid hle
  clear ha hb hna hnb hle
  go_enter Tryd.func45, Tryd.ntmps45
  go_wp2
  go_loopw [5, 6, 7] (fun v cr i wr => ∃ (k c cap : Nat) (A : Option Addr) (lo : List Nat), k ≤ na ∧ c ≤ 1 ∧ i = .int .i64 k ∧ cr = .int .i64 c ∧ v = .slice A k cap ∧
      wr.ownsRow w.heap.size 3 1 (.slice A k cap) k (lo.map fun d : Nat => Value.int .i64 (d : Int)) ∧ Hid (lo.length = k) ∧ Dl RB lo ∧
      Hid (val RB lo + val RB (lb.take k) = val RB (la.take k) + RB ^ k * c) ∧ Below w.heap.size w wr) (fun _ _ i _ => na - (intOf i).toNat)
  case atStart => exact ⟨0, 0, 0, none, [], by omega, by omega, rfl, rfl, rfl, ⟨rfl, .inl ⟨rfl, rfl⟩⟩, rfl, Dl.nil _, by simp [Hid, val], Below.refl _ _⟩
  case round =>
    obtain ⟨k, c, cap, A, lo, hk, hc, rfl, rfl, rfl, hown, Hlen, dlo, Hv, hbel⟩ := hrel
    have HBEL := Lib.hid hbel
    have hsz := hbel.size
    clear hbel
    by_cases h1 : k < na
    · obtain ⟨ax, rfl, hcx⟩ := (HX.out.below HBEL.out).get (k := k) (by have := Hnx.out; omega)
      have hbx := da.getD RB_pos k
      rw [List.getD_eq_getElem?_getD, RB_eq] at hbx
      by_cases h2 : k < nb
      · obtain ⟨ay, rfl, hcy⟩ := (HY.out.below HBEL.out).get (k := k) (by have := Hny.out; omega)
        have hby := db.getD RB_pos k
        rw [List.getD_eq_getElem?_getD, RB_eq] at hby
        by_cases h3 : la[k]?.getD 0 < c + lb[k]?.getD 0
        · go_wp2_with (at_builtin; refine wpList_append_own _ rfl _ _ 45 rfl w.heap.size 3 i0 (.int .i64 0) 1 8 Tryd.underlying45 hi hz0 hz1 hz2 rfl (by decide) _ _ _ rfl (hown.alloc _) ⟨wr.heap.size, 0, none⟩ 1 1 [_] rfl rfl (cell_one_new _ _ _) (by simp [Value.oneCell']) (by unfold maxLen; omega) (by omega) (by simp; omega) ?_; intro v' w1 hown' hgrow _; obtain ⟨g', cap', rfl⟩ := ownsRow_succ hown'; have hb1 := HBEL.out.trans (((Below.refl _ wr).alloc hsz _).grown hgrow (by simp; omega) (by intro k hk; exact own_block_ge hown hk)))
          go_roundw
          case rel =>
            refine ⟨k + 1, 1, cap', _, lo ++ [(la[k]?.getD 0 + 65536 - c - lb[k]?.getD 0)], by omega, by omega, by go_num, rfl, rfl, own_snoc hown' (by omega), ?_, dlo.append (Dl.one (by rw [RB_eq]; omega)), minus_step Hlen.out rfl rfl (by rw [RB_eq]; omega) Hv.out, hb1⟩
            rw [Hid, List.length_append, Hlen.out]; rfl
          case measure => simp [intOf]; omega
        · go_wp2_with (at_builtin; refine wpList_append_own _ rfl _ _ 45 rfl w.heap.size 3 i0 (.int .i64 0) 1 8 Tryd.underlying45 hi hz0 hz1 hz2 rfl (by decide) _ _ _ rfl (hown.alloc _) ⟨wr.heap.size, 0, none⟩ 1 1 [_] rfl rfl (cell_one_new _ _ _) (by simp [Value.oneCell']) (by unfold maxLen; omega) (by omega) (by simp; omega) ?_; intro v' w1 hown' hgrow _; obtain ⟨g', cap', rfl⟩ := ownsRow_succ hown'; have hb1 := HBEL.out.trans (((Below.refl _ wr).alloc hsz _).grown hgrow (by simp; omega) (by intro k hk; exact own_block_ge hown hk)))
          go_roundw
          case rel =>
            refine ⟨k + 1, 0, cap', _, lo ++ [(la[k]?.getD 0 - c - lb[k]?.getD 0)], by omega, by omega, by go_num, rfl, rfl, own_snoc hown' (by omega), ?_, dlo.append (Dl.one (by rw [RB_eq]; omega)), minus_step Hlen.out rfl rfl (by rw [RB_eq]; omega) Hv.out, hb1⟩
            rw [Hid, List.length_append, Hlen.out]; rfl
          case measure => simp [intOf]; omega
      · have HY0 : Hid (lb[k]?.getD 0 = 0) := by rw [Hid, List.getElem?_eq_none (by have := Hny.out; omega)]; rfl
        by_cases h3 : la[k]?.getD 0 < c
        · go_wp2_with (at_builtin; refine wpList_append_own _ rfl _ _ 45 rfl w.heap.size 3 i0 (.int .i64 0) 1 8 Tryd.underlying45 hi hz0 hz1 hz2 rfl (by decide) _ _ _ rfl (hown.alloc _) ⟨wr.heap.size, 0, none⟩ 1 1 [_] rfl rfl (cell_one_new _ _ _) (by simp [Value.oneCell']) (by unfold maxLen; omega) (by omega) (by simp; omega) ?_; intro v' w1 hown' hgrow _; obtain ⟨g', cap', rfl⟩ := ownsRow_succ hown'; have hb1 := HBEL.out.trans (((Below.refl _ wr).alloc hsz _).grown hgrow (by simp; omega) (by intro k hk; exact own_block_ge hown hk)))
          go_roundw
          case rel =>
            refine ⟨k + 1, 1, cap', _, lo ++ [(la[k]?.getD 0 + 65536 - c - 0)], by omega, by omega, by go_num, rfl, rfl, own_snoc hown' (by omega), ?_, dlo.append (Dl.one (by rw [RB_eq]; omega)), minus_step Hlen.out rfl HY0.out (by rw [RB_eq]; omega) Hv.out, hb1⟩
            rw [Hid, List.length_append, Hlen.out]; rfl
          case measure => simp [intOf]; omega
        · go_wp2_with (at_builtin; refine wpList_append_own _ rfl _ _ 45 rfl w.heap.size 3 i0 (.int .i64 0) 1 8 Tryd.underlying45 hi hz0 hz1 hz2 rfl (by decide) _ _ _ rfl (hown.alloc _) ⟨wr.heap.size, 0, none⟩ 1 1 [_] rfl rfl (cell_one_new _ _ _) (by simp [Value.oneCell']) (by unfold maxLen; omega) (by omega) (by simp; omega) ?_; intro v' w1 hown' hgrow _; obtain ⟨g', cap', rfl⟩ := ownsRow_succ hown'; have hb1 := HBEL.out.trans (((Below.refl _ wr).alloc hsz _).grown hgrow (by simp; omega) (by intro k hk; exact own_block_ge hown hk)))
          go_roundw
          case rel =>
            refine ⟨k + 1, 0, cap', _, lo ++ [(la[k]?.getD 0 - c - 0)], by omega, by omega, by go_num, rfl, rfl, own_snoc hown' (by omega), ?_, dlo.append (Dl.one (by rw [RB_eq]; omega)), minus_step Hlen.out rfl HY0.out (by rw [RB_eq]; omega) Hv.out, hb1⟩
            rw [Hid, List.length_append, Hlen.out]; rfl
          case measure => simp [intOf]; omega
    · obtain rfl : k = na := by omega
      have HCAP := Lib.hid (own_cap hown)
      have HWD : Hid (Wd .i64 wr wr.heap.size A lo) := by have h := hown; rw [← Hlen.out] at h; exact own_wd h
      have HVAL : Hid (val RB lo = val RB la - val RB lb) := by
        have hv := Hv.out
        rw [List.take_of_length_le (l := la) (by have := Hnx.out; omega), List.take_of_length_le (l := lb) (by have := Hny.out; omega)] at hv
        have h3 := Hle.out
        have h4 := val_lt dlo
        rw [Hlen.out] at h4
        rcases Nat.eq_zero_or_pos c with h0 | h0
        · subst h0; show _ = _; omega
        · obtain rfl : c = 1 := by omega
          show _ = _; omega
      clear hown
      go_wp2_with (go_at_call 59; refine (trim_any lo A k cap _ _ Hlen.out HCAP.out.1 HCAP.out.2 HWD.out).mono ?_; rintro e w' ⟨rfl, rfl⟩)
      go_ret
      rw [← HVAL.out]
      exact gives_trim HBEL.out HWD.out dlo (by rw [Hlen.out]; exact HCAP.out.1) HCAP.out.2
end Go.Proofs.YtapppahniablmaaDoor
