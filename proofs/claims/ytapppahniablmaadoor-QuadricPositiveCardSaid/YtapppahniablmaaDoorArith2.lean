/- wide.Sub, From. -/
import Derived.Test.YtapppahniablmaaDoorArith
namespace Go.Proofs.YtapppahniablmaaDoor
open Go.RowKit

set_option maxRecDepth 100000 in
set_option maxHeartbeats 1000000 in
theorem Sub_any {k1 k2 : Nat} {b1 b2 : Bool} {s1 s2 : ByteArray} {z1 z2 : Int} (h1 : Num k1 b1 s1 z1) (h2 : Num k2 b2 s2 z2) (hk1 : k1 ≤ 90000000) (hk2 : k2 ≤ 90000000) (w : World) :
    Calls Tryd.prog 50 #[.agg #[.bool b1, .string s1], .agg #[.bool b2, .string s2]] w (GivesW (k1 + k2 + 15) (z1 - z2) w) := by
  have H1 := Lib.hid h1
  have H2 := Lib.hid h2
  clear h1 h2
  go_enter Tryd.func50, Tryd.ntmps50
  go_wp2_with fail
  obtain ⟨W0, hW0⟩ : ∃ W0, W0 = ((w.alloc (.cells #[.bool b1, .string s1] 26)).alloc (.cells #[.bool b2, .string s2] 26)).alloc (.cells #[.bool false, .string ⟨#[]⟩] 26) := ⟨_, rfl⟩
  rw [← hW0]
  obtain ⟨f1, f2, f3, f4, f5, f6, f7, f8, hblk, hbel, hsz⟩ := box2res _ _ _ _ _ _ _ _ _ _ _ hW0
  clear hW0
  have HBLK := Lib.hid hblk
  have HSZ := Lib.hid hsz
  have HBEL := Lib.hid hbel
  clear hblk hsz hbel
  go_region_held3 (fun w' => w'.cell? ⟨w.heap.size, 0, none⟩ = some (.bool b1) ∧ w'.cell? ⟨w.heap.size, 1, none⟩ = some (.string s1) ∧ w'.cell? ⟨w.heap.size + 1, 0, none⟩ = some (.bool b2) ∧ w'.cell? ⟨w.heap.size + 1, 1, none⟩ = some (.string s2))
    (first
      | (go_keep; done)
      | ((try go_split_ands); (try dsimp only); (repeat' apply And.intro) <;> first | assumption | exact keepCell (by assumption) (by assumption) | exact keepSet (keepSet (by assumption) (by dsimp only; omega)) (by dsimp only; omega) | go_keep))
    (first
      | (go_at_call 67; refine (Neg_any H2.out (by omega) _).mono ?_; rintro e wA ⟨b3, s3, rfl, hc3, hn3, hb1⟩)
      | (go_at_call 38; refine (Add_any H1.out hn3 (by omega) (by omega) _).mono ?_; rintro e wD ⟨b4, s4, rfl, hc4, hn4, hb4⟩; have hr1 := keepCell hb4 (keepCell hb1 f5); have hr2 := keepCell hb4 (keepCell hb1 f6); have hr3 := keepFree hb4 (keepCell hb1 f5) (keepFree hb1 f5 f7); have hr4 := keepFree hb4 (keepCell hb1 f6) (keepFree hb1 f6 f8)))
  go_wp2
  have hblk := res_box2 (x := Value.bool b4) (y := .string s4) (keepBlk hb4 (keepBlk hb1 HBLK.out))
  refine bodyPost_ret (results_cell_row rfl _ _ (w.heap.size + 2) 26 _ (0, 0) _ rfl hblk Tryd.underlying26 rfl (by kernel_rfl)) rfl ?_
  have hsz := HSZ.out
  have h1 : w.heap.size + 3 ≤ wA.heap.size := by have := hb1.size; rw [← hsz]; exact this
  refine ⟨b4, s4, rfl, by rw [Int.sub_eq_add_neg]; exact hc4, by rw [Int.sub_eq_add_neg]; exact hn4.mono (by omega), ?_⟩
  exact ((keepBel hb4 (keepBel hb1 HBEL.out.drew (by show _ ≤ W0.heap.size; omega)) (by omega)).setCell (p := ⟨w.heap.size + 2, 0, none⟩) (by simp) _).setCell (p := ⟨w.heap.size + 2, 1, none⟩) (by simp) _

set_option maxRecDepth 100000 in
set_option maxHeartbeats 1000000 in
theorem From_any (n : Int) (hn1 : -9223372036854775808 ≤ n) (hn2 : n ≤ 9223372036854775807) (w : World) :
    Calls Tryd.prog 29 #[.int .i64 n] w (GivesW 71 n w) := by
  by_cases h0 : n < 0
  · have hm : (IntKind.u64.wrap (-IntKind.u64.wrap n)) = ((n.natAbs : Nat) : Int) := by simp only [IntKind.wrap_u64]; omega
    have HM := Lib.hid hm
    clear hm
    go_enter Tryd.func29, Tryd.ntmps29
    go_wp2_with fail
    have hlt : n.natAbs < 18446744073709551616 := by omega
    obtain ⟨W0, hW0⟩ : ∃ W0, W0 = (w.alloc (.cells #[.bool false, .string ⟨#[]⟩] 26)).alloc (.cells #[.int .u64 (bits .and .u64 (IntKind.u64.wrap (-IntKind.u64.wrap n)) 4294967295), .int .u64 ((IntKind.u64.wrap (-IntKind.u64.wrap n)) / 4294967296)] 72) := ⟨_, rfl⟩
    rw [← hW0]
    obtain ⟨f5, f6, f7, f8, hblk, hblk2, hbel, hsz⟩ := box0res _ _ _ _ _ _ hW0
    clear hW0
    refine (wide_lst [n.natAbs % WB, n.natAbs / WB] _ 2 2 _ _ (dl_two hlt) (wd_two (and_mask _ n.natAbs HM.out hlt) (div_word _ n.natAbs HM.out) hblk2) rfl (by omega) (by omega) (by omega)).mono ?_
    rintro e wD ⟨rfl, hb4⟩
    rw [val_two]
    unfold wv
    have hr1 := keepCell hb4 f5
    have hr2 := keepCell hb4 f6
    have hr3 := keepFree hb4 f5 f7
    have hr4 := keepFree hb4 f6 f8
    have HB4 := Lib.hid (keepBel hb4 hbel (by omega))
    have HBLK := Lib.hid (keepBlk hb4 hblk)
    clear f5 f6 f7 f8 hblk hblk2 hbel hsz hb4
    go_wp2
    refine bodyPost_ret (results_cell_row rfl _ _ w.heap.size 26 _ (0, 0) _ rfl (res_box2 HBLK.out) Tryd.underlying26 rfl (by kernel_rfl)) rfl ?_
    have hz : Sm 64 n := Sm.int hn1 hn2
    exact gives_close (k := 64) true (n := n.natAbs) (by simp) rfl (fun h => by simp; omega) hz ((HB4.out.setCell (p := ⟨w.heap.size, 0, none⟩) (Nat.le_refl _) _).setCell (p := ⟨w.heap.size, 1, none⟩) (Nat.le_refl _) _)
  · have hm : n = ((n.natAbs : Nat) : Int) := by omega
    have HM := Lib.hid hm
    clear hm
    go_enter Tryd.func29, Tryd.ntmps29
    go_wp2_with fail
    have hlt : n.natAbs < 18446744073709551616 := by omega
    obtain ⟨W0, hW0⟩ : ∃ W0, W0 = (w.alloc (.cells #[.bool false, .string ⟨#[]⟩] 26)).alloc (.cells #[.int .u64 (bits .and .u64 n 4294967295), .int .u64 (n / 4294967296)] 72) := ⟨_, rfl⟩
    rw [← hW0]
    obtain ⟨f5, f6, f7, f8, hblk, hblk2, hbel, hsz⟩ := box0res _ _ _ _ _ _ hW0
    clear hW0
    refine (wide_lst [n.natAbs % WB, n.natAbs / WB] _ 2 2 _ _ (dl_two hlt) (wd_two (and_mask _ n.natAbs HM.out hlt) (div_word _ n.natAbs HM.out) hblk2) rfl (by omega) (by omega) (by omega)).mono ?_
    rintro e wD ⟨rfl, hb4⟩
    rw [val_two]
    unfold wv
    have hr1 := keepCell hb4 f5
    have hr2 := keepCell hb4 f6
    have hr3 := keepFree hb4 f5 f7
    have hr4 := keepFree hb4 f6 f8
    have HB4 := Lib.hid (keepBel hb4 hbel (by omega))
    have HBLK := Lib.hid (keepBlk hb4 hblk)
    clear f5 f6 f7 f8 hblk hblk2 hbel hsz hb4
    go_wp2
    refine bodyPost_ret (results_cell_row rfl _ _ w.heap.size 26 _ (0, 0) _ rfl (res_box2 HBLK.out) Tryd.underlying26 rfl (by kernel_rfl)) rfl ?_
    have hz : Sm 64 n := Sm.int hn1 hn2
    exact gives_close (k := 64) false (n := n.natAbs) (by simp) rfl (fun h => by simp; omega) hz ((HB4.out.setCell (p := ⟨w.heap.size, 0, none⟩) (Nat.le_refl _) _).setCell (p := ⟨w.heap.size, 1, none⟩) (Nat.le_refl _) _)
end Go.Proofs.YtapppahniablmaaDoor
