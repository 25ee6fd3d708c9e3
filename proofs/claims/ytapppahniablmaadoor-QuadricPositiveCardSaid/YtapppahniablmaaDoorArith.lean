/- wide.Mul, Neg, Add, Sub, From, Sign, Cmp. -/
import Derived.Test.YtapppahniablmaaDoorNum
namespace Go.Proofs.YtapppahniablmaaDoor
open Go.RowKit

set_option maxRecDepth 100000 in
set_option maxHeartbeats 1000000 in
theorem Mul_any {k1 k2 : Nat} {b1 b2 : Bool} {s1 s2 : ByteArray} {z1 z2 : Int} (h1 : Num k1 b1 s1 z1) (h2 : Num k2 b2 s2 z2) (hk1 : k1 ≤ 100000000) (hk2 : k2 ≤ 100000000) (w : World) :
    Calls Tryd.prog 32 #[.agg #[.bool b1, .string s1], .agg #[.bool b2, .string s2]] w (GivesW (k1 + k2 + 7) (z1 * z2) w) := by
  have H1 := Lib.hid h1
  have H2 := Lib.hid h2
  clear h1 h2
  go_enter Tryd.func32, Tryd.ntmps32
  go_wp2_with fail
  have hm1 := H1.out.dig_len (by omega)
  have hm2 := H2.out.dig_len (by omega)
  obtain ⟨W0, hW0⟩ : ∃ W0, W0 = ((w.alloc (.cells #[.bool b1, .string s1] 26)).alloc (.cells #[.bool b2, .string s2] 26)).alloc (.cells #[.bool false, .string ⟨#[]⟩] 26) := ⟨_, rfl⟩
  rw [← hW0]
  obtain ⟨f1, f2, f3, f4, f5, f6, f7, f8, hblk, hbel, hsz⟩ := box2res _ _ _ _ _ _ _ _ _ _ _ hW0
  clear hW0
  have HBLK := Lib.hid hblk
  have HSZ := Lib.hid hsz
  have HBEL := Lib.hid hbel
  clear hblk hsz hbel
  go_region_held3 (fun w' => w'.cell? ⟨w.heap.size, 0, none⟩ = some (.bool b1) ∧ w'.cell? ⟨w.heap.size, 1, none⟩ = some (.string s1) ∧ w'.cell? ⟨w.heap.size + 1, 0, none⟩ = some (.bool b2) ∧ w'.cell? ⟨w.heap.size + 1, 1, none⟩ = some (.string s2))
    (first
      | (go_keep; done)
      | ((try go_split_ands); (try dsimp only); (repeat' apply And.intro) <;> first | assumption | exact keepCell (by assumption) (by assumption) | exact keepSet (keepSet (by assumption) (by dsimp only; omega)) (by dsimp only; omega) | go_keep))
    (first
      | (go_at_call_of 52 (Value.agg #[.bool b1, .string s1]); refine (abs_num H1.out (by omega) _).mono ?_; rintro e wA ⟨A1, n1, c1, rfl, hl1, hn1, hc1, hw1, hb1⟩)
      | (go_at_call_of 52 (Value.agg #[.bool b2, .string s2]); refine (abs_num H2.out (by omega) _).mono ?_; rintro e wB ⟨A2, n2, c2, rfl, hl2, hn2, hc2, hw2, hb2⟩)
      | (go_at_call 53; refine (mul_any (dig WB z1.natAbs) (dig WB z2.natAbs) A1 A2 n1 n2 c1 c2 _ (dig_Dl WB_two _) (dig_Dl WB_two _) (keepWd hb2 hw1) hw2 hl1 hl2 (by omega) (by omega)).mono ?_; rintro e wC ⟨A3, n3, c3, rfl, hl3, hn3, hc3, hw3, hb3⟩)
      | (go_at_call 51; rw [val_dig WB_two, val_dig WB_two] at hl3 hw3; refine (wide_any (z1.natAbs * z2.natAbs) A3 n3 c3 _ _ hw3 hl3 (by have := dig_len_mul H1.out H2.out hk1 hk2; omega) hn3 hc3).mono ?_; rintro e wD ⟨rfl, hb4⟩; unfold wv; have hr1 := keepCell hb4 (keepCell hb3 (keepCell hb2 (keepCell hb1 f5))); have hr2 := keepCell hb4 (keepCell hb3 (keepCell hb2 (keepCell hb1 f6))); have hr3 := keepFree hb4 (keepCell hb3 (keepCell hb2 (keepCell hb1 f5))) (keepFree hb3 (keepCell hb2 (keepCell hb1 f5)) (keepFree hb2 (keepCell hb1 f5) (keepFree hb1 f5 f7))); have hr4 := keepFree hb4 (keepCell hb3 (keepCell hb2 (keepCell hb1 f6))) (keepFree hb3 (keepCell hb2 (keepCell hb1 f6)) (keepFree hb2 (keepCell hb1 f6) (keepFree hb1 f6 f8)))))
  go_wp2
  have hblk := res_box2 (x := Value.bool (!b1 == b2 && !decide (z1.natAbs * z2.natAbs = 0))) (y := .string ⟨(mag (z1.natAbs * z2.natAbs)).toArray⟩) (keepBlk hb4 (keepBlk hb3 (keepBlk hb2 (keepBlk hb1 HBLK.out))))
  refine bodyPost_ret (results_cell_row rfl _ _ (w.heap.size + 2) 26 _ (0, 0) _ rfl hblk Tryd.underlying26 rfl (by kernel_rfl)) rfl ?_
  have e : (!b1 == b2 && !decide (z1.natAbs * z2.natAbs = 0)) = ((b1 != b2) && decide (z1.natAbs * z2.natAbs ≠ 0)) := by cases b1 <;> cases b2 <;> simp
  rw [e]
  refine gives_wv (by rw [Int.natAbs_mul]) (mul_sign H1.out H2.out) (H1.out.sm.mul H2.out.sm) ?_
  have hsz := HSZ.out
  have h1 : w.heap.size + 3 ≤ wA.heap.size := by have := hb1.size; rw [← hsz]; exact this
  have h2 := hb2.size
  have h3 := hb3.size
  exact ((keepBel hb4 (keepBel hb3 (keepBel hb2 (keepBel hb1 HBEL.out.drew (by show _ ≤ W0.heap.size; omega)) (by omega)) (by omega)) (by omega)).setCell (p := ⟨w.heap.size + 2, 0, none⟩) (by simp) _).setCell (p := ⟨w.heap.size + 2, 1, none⟩) (by simp) _

set_option maxRecDepth 100000 in
set_option maxHeartbeats 1000000 in
theorem Neg_any {k1 : Nat} {b1 : Bool} {s1 : ByteArray} {z1 : Int} (h1 : Num k1 b1 s1 z1) (hk1 : k1 ≤ 1000000000) (w : World) :
    Calls Tryd.prog 67 #[.agg #[.bool b1, .string s1]] w (GivesW (k1 + 7) (-z1) w) := by
  have H1 := Lib.hid h1
  clear h1
  go_enter Tryd.func67, Tryd.ntmps67
  go_wp2_with fail
  have hm1 := H1.out.dig_len (by omega)
  obtain ⟨W0, hW0⟩ : ∃ W0, W0 = (w.alloc (.cells #[.bool b1, .string s1] 26)).alloc (.cells #[.bool false, .string ⟨#[]⟩] 26) := ⟨_, rfl⟩
  rw [← hW0]
  obtain ⟨f1, f2, f5, f6, f7, f8, hblk, hbel, hsz⟩ := box1res _ _ _ _ _ _ _ _ hW0
  clear hW0
  have HBLK := Lib.hid hblk
  have HSZ := Lib.hid hsz
  have HBEL := Lib.hid hbel
  clear hblk hsz hbel
  go_region_held3 (fun w' => w'.cell? ⟨w.heap.size, 0, none⟩ = some (.bool b1) ∧ w'.cell? ⟨w.heap.size, 1, none⟩ = some (.string s1))
    (first
      | (go_keep; done)
      | ((try go_split_ands); (try dsimp only); (repeat' apply And.intro) <;> first | assumption | exact keepCell (by assumption) (by assumption) | exact keepSet (keepSet (by assumption) (by dsimp only; omega)) (by dsimp only; omega) | go_keep))
    (first
      | (go_at_call 52; refine (abs_num H1.out (by omega) _).mono ?_; rintro e wA ⟨A1, n1, c1, rfl, hl1, hn1, hc1, hw1, hb1⟩)
      | (go_at_call 51; refine (wide_any z1.natAbs A1 n1 c1 _ _ hw1 hl1 (by omega) hn1 hc1).mono ?_; rintro e wD ⟨rfl, hb4⟩; unfold wv; have hr1 := keepCell hb4 (keepCell hb1 f5); have hr2 := keepCell hb4 (keepCell hb1 f6); have hr3 := keepFree hb4 (keepCell hb1 f5) (keepFree hb1 f5 f7); have hr4 := keepFree hb4 (keepCell hb1 f6) (keepFree hb1 f6 f8)))
  go_wp2
  have hblk := res_box2 (x := Value.bool (!b1 && !decide (z1 = 0))) (y := .string ⟨(mag z1.natAbs).toArray⟩) (keepBlk hb4 (keepBlk hb1 HBLK.out))
  refine bodyPost_ret (results_cell_row rfl _ _ (w.heap.size + 1) 26 _ (0, 0) _ rfl hblk Tryd.underlying26 rfl (by kernel_rfl)) rfl ?_
  have e : (!b1 && !decide (z1 = 0)) = ((!b1) && decide (z1.natAbs ≠ 0)) := by cases b1 <;> simp
  rw [e]
  refine gives_wv (by rw [Int.natAbs_neg]) (neg_sign H1.out) H1.out.sm.neg ?_
  have hsz := HSZ.out
  have h1 : w.heap.size + 2 ≤ wA.heap.size := by have := hb1.size; rw [← hsz]; exact this
  exact ((keepBel hb4 (keepBel hb1 HBEL.out.drew (by show _ ≤ W0.heap.size; omega)) (by omega)).setCell (p := ⟨w.heap.size + 1, 0, none⟩) (by simp) _).setCell (p := ⟨w.heap.size + 1, 1, none⟩) (by simp) _

set_option maxRecDepth 100000 in
set_option maxHeartbeats 2000000 in
theorem Add_any {k1 k2 : Nat} {b1 b2 : Bool} {s1 s2 : ByteArray} {z1 z2 : Int} (h1 : Num k1 b1 s1 z1) (h2 : Num k2 b2 s2 z2) (hk1 : k1 ≤ 100000000) (hk2 : k2 ≤ 100000000) (w : World) :
    Calls Tryd.prog 38 #[.agg #[.bool b1, .string s1], .agg #[.bool b2, .string s2]] w (GivesW (k1 + k2 + 8) (z1 + z2) w) := by
  have H1 := Lib.hid h1
  have H2 := Lib.hid h2
  clear h1 h2
  go_enter Tryd.func38, Tryd.ntmps38
  go_wp2_with fail
  have hm1 := H1.out.dig_len (by omega)
  have hm2 := H2.out.dig_len (by omega)
  have HLS := Lib.hid (dig_len_z (sm_add_max H1.out.sm H2.out.sm) (by omega))
  have HSM := Lib.hid (sm_add_max H1.out.sm H2.out.sm)
  obtain ⟨W0, hW0⟩ : ∃ W0, W0 = ((w.alloc (.cells #[.bool b1, .string s1] 26)).alloc (.cells #[.bool b2, .string s2] 26)).alloc (.cells #[.bool false, .string ⟨#[]⟩] 26) := ⟨_, rfl⟩
  rw [← hW0]
  obtain ⟨f1, f2, f3, f4, f5, f6, f7, f8, hblk, hbel, hsz⟩ := box2res _ _ _ _ _ _ _ _ _ _ _ hW0
  clear hW0
  have HBLK := Lib.hid hblk
  have HSZ := Lib.hid hsz
  have HBEL := Lib.hid hbel
  clear hblk hsz hbel
  go_region_held3 (fun w' => w'.cell? ⟨w.heap.size, 0, none⟩ = some (.bool b1) ∧ w'.cell? ⟨w.heap.size, 1, none⟩ = some (.string s1) ∧ w'.cell? ⟨w.heap.size + 1, 0, none⟩ = some (.bool b2) ∧ w'.cell? ⟨w.heap.size + 1, 1, none⟩ = some (.string s2))
    (first
      | (go_keep; done)
      | ((try go_split_ands); (try dsimp only); (repeat' apply And.intro) <;> first | assumption | exact keepCell (by assumption) (by assumption) | exact keepSet (keepSet (by assumption) (by dsimp only; omega)) (by dsimp only; omega) | go_keep))
    (first
      | (go_at_call_of 52 (Value.agg #[.bool b1, .string s1]); refine (abs_num H1.out (by omega) _).mono ?_; rintro e wA ⟨A1, n1, c1, rfl, hl1, hn1, hc1, hw1, hb1⟩)
      | (go_at_call_of 52 (Value.agg #[.bool b2, .string s2]); refine (abs_num H2.out (by omega) _).mono ?_; rintro e wB ⟨A2, n2, c2, rfl, hl2, hn2, hc2, hw2, hb2⟩))
  have g1 := keepCell hb2 (keepCell hb1 f1)
  have g2 := keepCell hb2 (keepCell hb1 f2)
  have g3 := keepCell hb2 (keepCell hb1 f3)
  have g4 := keepCell hb2 (keepCell hb1 f4)
  have g5 := keepCell hb2 (keepCell hb1 f5)
  have g6 := keepCell hb2 (keepCell hb1 f6)
  have g7 := keepFree hb2 (keepCell hb1 f5) (keepFree hb1 f5 f7)
  have g8 := keepFree hb2 (keepCell hb1 f6) (keepFree hb1 f6 f8)
  have HB2 := Lib.hid (keepBel hb2 (keepBel hb1 HBEL.out.drew (by have := HSZ.out; show _ ≤ W0.heap.size; omega)) (by have := HSZ.out; have := hb1.size; have h3 : W0.heap.size ≤ wA.heap.size := this; omega))
  have HK2 := Lib.hid (keepBlk hb2 (keepBlk hb1 HBLK.out))
  have hsB : w.heap.size + 3 ≤ wB.heap.size := by have h1 := HSZ.out; have h2 : W0.heap.size ≤ wA.heap.size := hb1.size; have h3 := hb2.size; omega
  have HW1 := Lib.hid (keepWd hb2 hw1)
  have HW2 := Lib.hid hw2
  have HL1 := Lib.hid hl1
  have HL2 := Lib.hid hl2
  clear f1 f2 f3 f4 f5 f6 f7 f8 HBLK HBEL HSZ hw1 hw2 hb1 hb2
  have hn1' : n1 ≤ 1000000000 := by omega
  have hn2' : n2 ≤ 1000000000 := by omega
  clear hl1 hl2 hm1 hm2
  by_cases hbb : b1 = b2
  · have hbt : (b1 == b2) = true := by simpa using hbb
    have HA := Lib.hid (add_same H1.out H2.out hbb)
    clear hbb
    go_wp2_with fail
    go_region_held3 (fun w' => w'.cell? ⟨w.heap.size, 0, none⟩ = some (.bool b1) ∧ w'.cell? ⟨w.heap.size, 1, none⟩ = some (.string s1) ∧ w'.cell? ⟨w.heap.size + 1, 0, none⟩ = some (.bool b2) ∧ w'.cell? ⟨w.heap.size + 1, 1, none⟩ = some (.string s2))
      (first
            | (go_keep; done)
            | ((try go_split_ands); (try dsimp only); (repeat' apply And.intro) <;> first | assumption | exact keepCell (by assumption) (by assumption) | exact keepSet (keepSet (by assumption) (by dsimp only; omega)) (by dsimp only; omega) | go_keep))
      (first
        | (go_at_call 56; refine (add_any (dig WB z1.natAbs) (dig WB z2.natAbs) A1 A2 n1 n2 c1 c2 _ (dig_Dl WB_two _) (dig_Dl WB_two _) (wdDrew HW1.out) (wdDrew HW2.out) HL1.out HL2.out hn1' hn2').mono ?_; rintro e wC ⟨A3, n3, c3, rfl, hl3, hn3, hc3, hw3, hb3⟩)
        | (go_at_call 51; rw [val_dig WB_two, val_dig WB_two, HA.out.1] at hl3 hw3; refine (wide_any (z1 + z2).natAbs A3 n3 c3 _ _ hw3 hl3 (by have := HLS.out; omega) hn3 hc3).mono ?_; rintro e wD ⟨rfl, hb4⟩; unfold wv; have hr1 := keepCell hb4 (keepCell hb3 g5); have hr2 := keepCell hb4 (keepCell hb3 g6); have hr3 := keepFree hb4 (keepCell hb3 g5) (keepFree hb3 g5 g7); have hr4 := keepFree hb4 (keepCell hb3 g6) (keepFree hb3 g6 g8)))
    go_wp2
    have hblk := res_box2 (x := Value.bool (b1 && !decide (z1 + z2 = 0))) (y := .string ⟨(mag (z1 + z2).natAbs).toArray⟩) (keepBlk hb4 (keepBlk hb3 HK2.out))
    refine bodyPost_ret (results_cell_row rfl _ _ (w.heap.size + 2) 26 _ (0, 0) _ rfl hblk Tryd.underlying26 rfl (by kernel_rfl)) rfl ?_
    have e : (b1 && !decide (z1 + z2 = 0)) = (b1 && decide ((z1 + z2).natAbs ≠ 0)) := by cases b1 <;> simp
    rw [e]
    refine gives_wv rfl (fun h0 => HA.out.2 (by rw [HA.out.1]; exact h0)) HSM.out ?_
    have h3 := hb3.size
    have h3' : wB.heap.size ≤ wC.heap.size := h3
    exact ((keepBel hb4 (keepBel hb3 HB2.out.drew (by show _ ≤ wB.heap.size; omega)) (by omega)).setCell (p := ⟨w.heap.size + 2, 0, none⟩) (by simp) _).setCell (p := ⟨w.heap.size + 2, 1, none⟩) (by simp) _
  · have hbt : (b1 == b2) = false := by simpa using hbb
    by_cases hlt : z1.natAbs < z2.natAbs
    · have HA := Lib.hid (add_lt H1.out H2.out hbb hlt)
      have HCM := Lib.hid (show cmpN z1.natAbs z2.natAbs < 0 by rw [cmpN_lt hlt]; omega)
      have HLE := Lib.hid (Nat.le_of_lt hlt)
      have HLEN : Hid (n1 ≤ n2) := by show n1 ≤ n2; rw [← HL1.out, ← HL2.out]; exact dig_len_mono WB_two (Nat.le_of_lt hlt)
      clear hbb hlt
      go_wp2_with (go_at_call 57; refine (cmp_any z1.natAbs z2.natAbs A1 A2 n1 n2 c1 c2 _ HW1.out HW2.out HL1.out HL2.out hn1' hn2').mono ?_; rintro e wE ⟨rfl, hbE⟩; have hcm := HCM.out)
      have g7 := keepFree hbE g5 g7
      have g8 := keepFree hbE g6 g8
      have g1 := keepCell hbE g1
      have g2 := keepCell hbE g2
      have g3 := keepCell hbE g3
      have g4 := keepCell hbE g4
      have g5 := keepCell hbE g5
      have g6 := keepCell hbE g6
      have HB2 := Lib.hid (keepBel hbE HB2.out (by omega))
      have HK2 := Lib.hid (keepBlk hbE HK2.out)
      have hsE : w.heap.size + 3 ≤ wE.heap.size := Nat.le_trans hsB hbE.size
      have HW1 := Lib.hid (keepWd hbE HW1.out)
      have HW2 := Lib.hid (keepWd hbE HW2.out)
      clear hbE
      go_region_held3 (fun w' => w'.cell? ⟨w.heap.size, 0, none⟩ = some (.bool b1) ∧ w'.cell? ⟨w.heap.size, 1, none⟩ = some (.string s1) ∧ w'.cell? ⟨w.heap.size + 1, 0, none⟩ = some (.bool b2) ∧ w'.cell? ⟨w.heap.size + 1, 1, none⟩ = some (.string s2))
        (first
              | (go_keep; done)
              | ((try go_split_ands); (try dsimp only); (repeat' apply And.intro) <;> first | assumption | exact keepCell (by assumption) (by assumption) | exact keepSet (keepSet (by assumption) (by dsimp only; omega)) (by dsimp only; omega) | go_keep))
        (first
          | (go_at_call 58; refine (sub_any (dig WB z2.natAbs) (dig WB z1.natAbs) A2 A1 n2 n1 c2 c1 _ (dig_Dl WB_two _) (dig_Dl WB_two _) (wdDrew HW2.out) (wdDrew HW1.out) HL2.out HL1.out hn2' HLEN.out (by rw [val_dig WB_two, val_dig WB_two]; exact HLE.out)).mono ?_; rintro e wC ⟨A3, n3, c3, rfl, hl3, hn3, hc3, hw3, hb3⟩)
          | (go_at_call 51; rw [val_dig WB_two, val_dig WB_two, HA.out.1] at hl3 hw3; refine (wide_any (z1 + z2).natAbs A3 n3 c3 _ _ hw3 hl3 (by have := HLS.out; omega) hn3 hc3).mono ?_; rintro e wD ⟨rfl, hb4⟩; unfold wv; have hr1 := keepCell hb4 (keepCell hb3 g5); have hr2 := keepCell hb4 (keepCell hb3 g6); have hr3 := keepFree hb4 (keepCell hb3 g5) (keepFree hb3 g5 g7); have hr4 := keepFree hb4 (keepCell hb3 g6) (keepFree hb3 g6 g8)))
      go_wp2
      have hblk := res_box2 (x := Value.bool (b2 && !decide (z1 + z2 = 0))) (y := .string ⟨(mag (z1 + z2).natAbs).toArray⟩) (keepBlk hb4 (keepBlk hb3 HK2.out))
      refine bodyPost_ret (results_cell_row rfl _ _ (w.heap.size + 2) 26 _ (0, 0) _ rfl hblk Tryd.underlying26 rfl (by kernel_rfl)) rfl ?_
      have e : (b2 && !decide (z1 + z2 = 0)) = (b2 && decide ((z1 + z2).natAbs ≠ 0)) := by cases b2 <;> simp
      rw [e]
      refine gives_wv rfl (fun h0 => HA.out.2 (by rw [HA.out.1]; exact h0)) HSM.out ?_
      have h3 := hb3.size
      have h3' : wE.heap.size ≤ wC.heap.size := h3
      exact ((keepBel hb4 (keepBel hb3 HB2.out.drew (by show _ ≤ wE.heap.size; omega)) (by omega)).setCell (p := ⟨w.heap.size + 2, 0, none⟩) (by simp) _).setCell (p := ⟨w.heap.size + 2, 1, none⟩) (by simp) _
    · have HA := Lib.hid (add_ge H1.out H2.out hbb hlt)
      have HCM := Lib.hid (show ¬ cmpN z1.natAbs z2.natAbs < 0 by rcases Nat.lt_or_ge z2.natAbs z1.natAbs with h | h; rw [cmpN_gt h]; omega; rw [Nat.le_antisymm h (by omega), cmpN_self]; omega)
      have HLE := Lib.hid (show z2.natAbs ≤ z1.natAbs by omega)
      have HLEN : Hid (n2 ≤ n1) := by show n2 ≤ n1; rw [← HL1.out, ← HL2.out]; exact dig_len_mono WB_two (by omega)
      clear hbb hlt
      go_wp2_with (go_at_call 57; refine (cmp_any z1.natAbs z2.natAbs A1 A2 n1 n2 c1 c2 _ HW1.out HW2.out HL1.out HL2.out hn1' hn2').mono ?_; rintro e wE ⟨rfl, hbE⟩; have hcm := HCM.out)
      have g7 := keepFree hbE g5 g7
      have g8 := keepFree hbE g6 g8
      have g1 := keepCell hbE g1
      have g2 := keepCell hbE g2
      have g3 := keepCell hbE g3
      have g4 := keepCell hbE g4
      have g5 := keepCell hbE g5
      have g6 := keepCell hbE g6
      have HB2 := Lib.hid (keepBel hbE HB2.out (by omega))
      have HK2 := Lib.hid (keepBlk hbE HK2.out)
      have hsE : w.heap.size + 3 ≤ wE.heap.size := Nat.le_trans hsB hbE.size
      have HW1 := Lib.hid (keepWd hbE HW1.out)
      have HW2 := Lib.hid (keepWd hbE HW2.out)
      clear hbE
      go_region_held3 (fun w' => w'.cell? ⟨w.heap.size, 0, none⟩ = some (.bool b1) ∧ w'.cell? ⟨w.heap.size, 1, none⟩ = some (.string s1) ∧ w'.cell? ⟨w.heap.size + 1, 0, none⟩ = some (.bool b2) ∧ w'.cell? ⟨w.heap.size + 1, 1, none⟩ = some (.string s2))
        (first
              | (go_keep; done)
              | ((try go_split_ands); (try dsimp only); (repeat' apply And.intro) <;> first | assumption | exact keepCell (by assumption) (by assumption) | exact keepSet (keepSet (by assumption) (by dsimp only; omega)) (by dsimp only; omega) | go_keep))
        (first
          | (go_at_call 58; refine (sub_any (dig WB z1.natAbs) (dig WB z2.natAbs) A1 A2 n1 n2 c1 c2 _ (dig_Dl WB_two _) (dig_Dl WB_two _) (wdDrew HW1.out) (wdDrew HW2.out) HL1.out HL2.out hn1' HLEN.out (by rw [val_dig WB_two, val_dig WB_two]; exact HLE.out)).mono ?_; rintro e wC ⟨A3, n3, c3, rfl, hl3, hn3, hc3, hw3, hb3⟩)
          | (go_at_call 51; rw [val_dig WB_two, val_dig WB_two, HA.out.1] at hl3 hw3; refine (wide_any (z1 + z2).natAbs A3 n3 c3 _ _ hw3 hl3 (by have := HLS.out; omega) hn3 hc3).mono ?_; rintro e wD ⟨rfl, hb4⟩; unfold wv; have hr1 := keepCell hb4 (keepCell hb3 g5); have hr2 := keepCell hb4 (keepCell hb3 g6); have hr3 := keepFree hb4 (keepCell hb3 g5) (keepFree hb3 g5 g7); have hr4 := keepFree hb4 (keepCell hb3 g6) (keepFree hb3 g6 g8)))
      go_wp2
      have hblk := res_box2 (x := Value.bool (b1 && !decide (z1 + z2 = 0))) (y := .string ⟨(mag (z1 + z2).natAbs).toArray⟩) (keepBlk hb4 (keepBlk hb3 HK2.out))
      refine bodyPost_ret (results_cell_row rfl _ _ (w.heap.size + 2) 26 _ (0, 0) _ rfl hblk Tryd.underlying26 rfl (by kernel_rfl)) rfl ?_
      have e : (b1 && !decide (z1 + z2 = 0)) = (b1 && decide ((z1 + z2).natAbs ≠ 0)) := by cases b1 <;> simp
      rw [e]
      refine gives_wv rfl (fun h0 => HA.out.2 (by rw [HA.out.1]; exact h0)) HSM.out ?_
      have h3 := hb3.size
      have h3' : wE.heap.size ≤ wC.heap.size := h3
      exact ((keepBel hb4 (keepBel hb3 HB2.out.drew (by show _ ≤ wE.heap.size; omega)) (by omega)).setCell (p := ⟨w.heap.size + 2, 0, none⟩) (by simp) _).setCell (p := ⟨w.heap.size + 2, 1, none⟩) (by simp) _
end Go.Proofs.YtapppahniablmaaDoor
