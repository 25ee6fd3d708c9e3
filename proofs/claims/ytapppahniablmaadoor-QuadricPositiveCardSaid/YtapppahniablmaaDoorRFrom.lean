/- ref From. -/
import Derived.Test.YtapppahniablmaaDoorRArith
namespace Go.Proofs.YtapppahniablmaaDoor
open Go.RowKit

theorem from_len {V j m n : Nat} (h : V + RB ^ j * m = n) (hn : n < 18446744073709551616) (hm : 0 < m) : j ≤ 4 := by
  rcases Nat.lt_or_ge 4 j with h4 | h4
  · have h1 : RB ^ 4 ≤ RB ^ j := Nat.pow_le_pow_right RB_pos (by omega)
    have h2 : RB ^ j * 1 ≤ RB ^ j * m := Nat.mul_le_mul_left _ hm
    have h3 : RB ^ 4 = 18446744073709551616 := by rw [RB_eq]
    omega
  · exact h4
theorem from_div (m : Nat) : Value.int .u64 ((m : Int) / 65536) = .int .u64 ((m / RB : Nat) : Int) := by rw [RB_eq, Int.natCast_ediv]; rfl
theorem from_mod (m : Nat) : (m : Int) % 65536 = ((m % RB : Nat) : Int) := by rw [RB_eq, Int.natCast_emod]; rfl
theorem from_lt {m : Nat} (h : m < 18446744073709551616) : m / RB < 18446744073709551616 := Nat.lt_of_le_of_lt (Nat.div_le_self _ _) h
theorem from_step {l : List Nat} {j m n : Nat} (hl : l.length = j) (h : val RB l + RB ^ j * m = n) : val RB (l ++ [m % RB]) + RB ^ (j + 1) * (m / RB) = n := by
  rw [val_snoc, hl, Nat.pow_succ, Nat.mul_assoc, Nat.add_assoc, ← Nat.mul_add, Nat.mod_add_div, h]

set_option maxRecDepth 100000 in
set_option maxHeartbeats 2000000 in
theorem RFrom_any (n : Int) (hn1 : -9223372036854775808 ≤ n) (hn2 : n ≤ 9223372036854775807) (w : World) :
    Calls Tryd.prog 42 #[.int .i64 n] w (GivesW 71 n w) := by
  obtain ⟨i0, hi, hz0, hz1, hz2⟩ := info_parts info_int
  by_cases h0 : n < 0
  · have hm : (IntKind.u64.wrap (-IntKind.u64.wrap n)) = ((n.natAbs : Nat) : Int) := by simp only [IntKind.wrap_u64]; omega
    have HM := Lib.hid hm
    clear hm
    have hlt : n.natAbs < 18446744073709551616 := by omega
    have HLT := Lib.hid hlt
    clear hlt
    go_enter Tryd.func42, Tryd.ntmps42
    go_wp2
    go_loopw [3, 4] (fun v mv wr => ∃ (j m cap : Nat) (A : Option Addr) (l : List Nat), mv = .int .u64 (m : Int) ∧ v = .slice A j cap ∧ m < 18446744073709551616 ∧
        wr.ownsRow (w.heap.size + 1) 3 1 (.slice A j cap) j (l.map fun d : Nat => Value.int .i64 (d : Int)) ∧ Hid (l.length = j) ∧ Dl RB l ∧ Hid (val RB l + RB ^ j * m = n.natAbs) ∧ (0 < m ∨ j ≤ 5) ∧
        Below (w.heap.size + 1) (w.alloc (.cells #[.bool false, .string ⟨#[]⟩] 26)) wr) (fun _ mv _ => (intOf mv).toNat)
    case atStart => exact ⟨0, n.natAbs, 0, none, [], by rw [← HM.out], rfl, HLT.out, ⟨rfl, .inl ⟨rfl, rfl⟩⟩, rfl, Dl.nil _, by simp [Hid, val], by omega, Below.refl _ _⟩
    case round =>
      obtain ⟨j, m, cap, A, l, rfl, rfl, hm64, hown, Hlen, dl, Hv, hj, hbel⟩ := hrel
      have HBEL := Lib.hid hbel
      have hsz := hbel.size
      rw [World.size_alloc] at hsz
      clear hbel
      by_cases h0 : 0 < m
      · have hj4 : j ≤ 4 := from_len Hv.out HLT.out h0
        go_wp2_with (at_builtin; refine wpList_append_own _ rfl _ _ 45 rfl (w.heap.size + 1) 3 i0 (.int .i64 0) 1 8 Tryd.underlying45 hi hz0 hz1 hz2 rfl (by decide) _ _ _ rfl (hown.alloc _) ⟨wr.heap.size, 0, none⟩ 1 1 [_] rfl rfl (cell_one_new _ _ _) (by simp [Value.oneCell']) (by unfold maxLen; omega) (by omega) (by simp; omega) ?_; intro v' w1 hown' hgrow _; obtain ⟨g', cap', rfl⟩ := ownsRow_succ hown'; have hb1 := HBEL.out.trans (((Below.refl _ wr).alloc hsz _).grown hgrow (by simp; omega) (by intro k hk; exact own_block_ge hown hk)))
        go_roundw
        case rel =>
          refine ⟨j + 1, m / RB, cap', _, l ++ [m % RB], from_div m, rfl, from_lt hm64, own_snoc hown' (from_mod m), by rw [Hid, List.length_append, Hlen.out]; rfl, dl.append (Dl.one (Nat.mod_lt _ RB_pos)), from_step Hlen.out Hv.out, by omega, hb1⟩
        case measure => simp [intOf]; omega
      · obtain rfl : m = 0 := by omega
        have HCAP := Lib.hid (own_cap hown)
        have HWD : Hid (Wd .i64 wr wr.heap.size A l) := by have h := hown; rw [← Hlen.out] at h; exact own_wd h
        have hblk : wr.heap[w.heap.size]? = some (.cells #[.bool false, .string ⟨#[]⟩] 26 (0, 0)) := (HBEL.out.block _ (by omega)).trans (heap_alloc_new w _)
        have HB2 : Hid (Below w.heap.size w wr) := ((Below.refl _ w).alloc (Nat.le_refl _) _).trans (HBEL.out.mono (by omega))
        have HVV : Hid (val RB l = n.natAbs) := by have h := Hv.out; rw [Nat.mul_zero, Nat.add_zero] at h; exact h
        clear hown
        go_wp2_with fail
        refine (rwide_any l A j cap _ _ dl HWD.out Hlen.out (by omega) HCAP.out.1 HCAP.out.2).mono ?_
        rintro e wD ⟨rfl, hb4⟩
        rw [HVV.out]
        unfold wv
        have hblk2 := keepBlk hb4 hblk
        have g5 := cell_of_row _ _ 0 _ _ _ hblk2
        have g6 := cell_of_row _ _ 1 _ _ _ hblk2
        have g7 := frozen_of_row _ _ 0 _ _ hblk2
        have g8 := frozen_of_row _ _ 1 _ _ hblk2
        have HB4 := Lib.hid (keepBel hb4 HB2.out (by omega))
        have HBLK := Lib.hid hblk2
        clear hblk hblk2 hb4
        go_wp2
        refine bodyPost_ret (results_cell_row rfl _ _ w.heap.size 26 _ (0, 0) _ rfl (res_box2 HBLK.out) Tryd.underlying26 rfl (by kernel_rfl)) rfl ?_
        have hz : Sm 64 n := Sm.int hn1 hn2
        exact gives_close (k := 64) true (n := n.natAbs) (by simp) rfl (fun h => by simp; omega) hz ((HB4.out.setCell (p := ⟨w.heap.size, 0, none⟩) (Nat.le_refl _) _).setCell (p := ⟨w.heap.size, 1, none⟩) (Nat.le_refl _) _)
  · have hm : n = ((n.natAbs : Nat) : Int) := by omega
    have HM := Lib.hid hm
    clear hm
    have hlt : n.natAbs < 18446744073709551616 := by omega
    have HLT := Lib.hid hlt
    clear hlt
    go_enter Tryd.func42, Tryd.ntmps42
    go_wp2
    go_loopw [3, 4] (fun v mv wr => ∃ (j m cap : Nat) (A : Option Addr) (l : List Nat), mv = .int .u64 (m : Int) ∧ v = .slice A j cap ∧ m < 18446744073709551616 ∧
        wr.ownsRow (w.heap.size + 1) 3 1 (.slice A j cap) j (l.map fun d : Nat => Value.int .i64 (d : Int)) ∧ Hid (l.length = j) ∧ Dl RB l ∧ Hid (val RB l + RB ^ j * m = n.natAbs) ∧ (0 < m ∨ j ≤ 5) ∧
        Below (w.heap.size + 1) (w.alloc (.cells #[.bool false, .string ⟨#[]⟩] 26)) wr) (fun _ mv _ => (intOf mv).toNat)
    case atStart => exact ⟨0, n.natAbs, 0, none, [], by rw [← HM.out], rfl, HLT.out, ⟨rfl, .inl ⟨rfl, rfl⟩⟩, rfl, Dl.nil _, by simp [Hid, val], by omega, Below.refl _ _⟩
    case round =>
      obtain ⟨j, m, cap, A, l, rfl, rfl, hm64, hown, Hlen, dl, Hv, hj, hbel⟩ := hrel
      have HBEL := Lib.hid hbel
      have hsz := hbel.size
      rw [World.size_alloc] at hsz
      clear hbel
      by_cases h0 : 0 < m
      · have hj4 : j ≤ 4 := from_len Hv.out HLT.out h0
        go_wp2_with (at_builtin; refine wpList_append_own _ rfl _ _ 45 rfl (w.heap.size + 1) 3 i0 (.int .i64 0) 1 8 Tryd.underlying45 hi hz0 hz1 hz2 rfl (by decide) _ _ _ rfl (hown.alloc _) ⟨wr.heap.size, 0, none⟩ 1 1 [_] rfl rfl (cell_one_new _ _ _) (by simp [Value.oneCell']) (by unfold maxLen; omega) (by omega) (by simp; omega) ?_; intro v' w1 hown' hgrow _; obtain ⟨g', cap', rfl⟩ := ownsRow_succ hown'; have hb1 := HBEL.out.trans (((Below.refl _ wr).alloc hsz _).grown hgrow (by simp; omega) (by intro k hk; exact own_block_ge hown hk)))
        go_roundw
        case rel =>
          refine ⟨j + 1, m / RB, cap', _, l ++ [m % RB], from_div m, rfl, from_lt hm64, own_snoc hown' (from_mod m), by rw [Hid, List.length_append, Hlen.out]; rfl, dl.append (Dl.one (Nat.mod_lt _ RB_pos)), from_step Hlen.out Hv.out, by omega, hb1⟩
        case measure => simp [intOf]; omega
      · obtain rfl : m = 0 := by omega
        have HCAP := Lib.hid (own_cap hown)
        have HWD : Hid (Wd .i64 wr wr.heap.size A l) := by have h := hown; rw [← Hlen.out] at h; exact own_wd h
        have hblk : wr.heap[w.heap.size]? = some (.cells #[.bool false, .string ⟨#[]⟩] 26 (0, 0)) := (HBEL.out.block _ (by omega)).trans (heap_alloc_new w _)
        have HB2 : Hid (Below w.heap.size w wr) := ((Below.refl _ w).alloc (Nat.le_refl _) _).trans (HBEL.out.mono (by omega))
        have HVV : Hid (val RB l = n.natAbs) := by have h := Hv.out; rw [Nat.mul_zero, Nat.add_zero] at h; exact h
        clear hown
        go_wp2_with fail
        refine (rwide_any l A j cap _ _ dl HWD.out Hlen.out (by omega) HCAP.out.1 HCAP.out.2).mono ?_
        rintro e wD ⟨rfl, hb4⟩
        rw [HVV.out]
        unfold wv
        have hblk2 := keepBlk hb4 hblk
        have g5 := cell_of_row _ _ 0 _ _ _ hblk2
        have g6 := cell_of_row _ _ 1 _ _ _ hblk2
        have g7 := frozen_of_row _ _ 0 _ _ hblk2
        have g8 := frozen_of_row _ _ 1 _ _ hblk2
        have HB4 := Lib.hid (keepBel hb4 HB2.out (by omega))
        have HBLK := Lib.hid hblk2
        clear hblk hblk2 hb4
        go_wp2
        refine bodyPost_ret (results_cell_row rfl _ _ w.heap.size 26 _ (0, 0) _ rfl (res_box2 HBLK.out) Tryd.underlying26 rfl (by kernel_rfl)) rfl ?_
        have hz : Sm 64 n := Sm.int hn1 hn2
        exact gives_close (k := 64) false (n := n.natAbs) (by simp; omega) rfl (fun h => by simp; omega) hz ((HB4.out.setCell (p := ⟨w.heap.size, 0, none⟩) (Nat.le_refl _) _).setCell (p := ⟨w.heap.size, 1, none⟩) (Nat.le_refl _) _)
end Go.Proofs.YtapppahniablmaaDoor
