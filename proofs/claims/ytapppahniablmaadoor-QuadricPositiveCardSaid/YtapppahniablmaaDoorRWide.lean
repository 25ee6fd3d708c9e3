/- ref wide: the canonical number with some digits. -/
import Derived.Test.YtapppahniablmaaDoorRDig
import Derived.Test.YtapppahniablmaaDoorNum
namespace Go.Proofs.YtapppahniablmaaDoor
open Go.RowKit

theorem u8_div {d : Nat} (h : d < 65536) : (d : Int) / 256 = ((UInt8.ofNat (d / 256)).toNat : Int) := by rw [UInt8.toNat_ofNat']; omega
theorem u8_mod (d : Nat) : (d : Int) % 256 = ((UInt8.ofNat (d % 256)).toNat : Int) := by rw [UInt8.toNat_ofNat']; omega
theorem own_bsnoc {w : World} {base n : Nat} {b : UInt8} {e : TypeId} {v : Value} {l : List UInt8} {z : Int} (h : w.ownsRow base e 1 v n (l.map (fun b : UInt8 => Value.int .u8 (b.toNat : Int)) ++ [.int .u8 z])) (hz : z = b.toNat) :
    w.ownsRow base e 1 v n ((l ++ [b]).map fun b : UInt8 => Value.int .u8 (b.toNat : Int)) := by
  subst hz; rw [List.map_append]; exact h
theorem own_bsnoc_l {w : World} {base n : Nat} {b : UInt8} {e : TypeId} {v x : Value} {l : List UInt8} {z : Int} (h : w.ownsRow base e 1 v n (l.map (fun b : UInt8 => Value.int .u8 (b.toNat : Int)) ++ [.int .u8 z] ++ [x])) (hz : z = b.toNat) :
    w.ownsRow base e 1 v n ((l ++ [b]).map (fun b : UInt8 => Value.int .u8 (b.toNat : Int)) ++ [x]) := by
  subst hz; rw [List.map_append]; exact h
theorem two_bytes {zs : List Nat} {bs : List UInt8} {k : Nat} (h0 : 0 < k) (hk : k ≤ zs.length) (hd : Dl RB zs) (h : mval bs = val RB (zs.drop k)) :
    mval (bs ++ [UInt8.ofNat (zs[k - 1]?.getD 0 / 256)] ++ [UInt8.ofNat (zs[k - 1]?.getD 0 % 256)]) = val RB (zs.drop (k - 1)) := by
  have h1 := hd.get (k - 1) (by omega)
  rw [val_drop RB zs (k - 1) (by omega), show k - 1 + 1 = k from by omega, mval_snoc, mval_snoc, h, getD_get (show k - 1 < zs.length by omega)]
  rw [RB_eq] at h1 ⊢
  rw [UInt8.toNat_ofNat', UInt8.toNat_ofNat']
  omega
theorem one_byte {zs : List Nat} {bs : List UInt8} {k : Nat} (h0 : 0 < k) (hk : k ≤ zs.length) (hl : zs[k - 1]?.getD 0 < 256) (hb : bs = []) (h : mval bs = val RB (zs.drop k)) :
    mval (bs ++ [UInt8.ofNat (zs[k - 1]?.getD 0 % 256)]) = val RB (zs.drop (k - 1)) := by
  rw [getD_get (show k - 1 < zs.length by omega)] at hl ⊢
  rw [val_drop RB zs (k - 1) (by omega), show k - 1 + 1 = k from by omega, mval_snoc, ← h, hb]
  simp [mval, val]
  omega

theorem ofNat_ne {d : Nat} (h : 0 < d) (h2 : d < 256) : UInt8.ofNat d ≠ 0 := fun e => by
  have := congrArg UInt8.toNat e
  rw [UInt8.toNat_ofNat'] at this
  simp at this
  omega
theorem head_two {zs : List Nat} {bs : List UInt8} {k nz : Nat} (h0 : 0 < k) (_hh : (k < nz → bs ≠ [] ∧ bs.head? ≠ some 0) ∧ (k = nz → bs = [])) (hz : k ≤ nz ∧ zs[k - 1]?.getD 0 < 65536) (hb : bs = [] → 256 ≤ zs[k - 1]?.getD 0) :
    (k - 1 < nz → bs ++ [UInt8.ofNat (zs[k - 1]?.getD 0 / 256)] ++ [UInt8.ofNat (zs[k - 1]?.getD 0 % 256)] ≠ [] ∧ (bs ++ [UInt8.ofNat (zs[k - 1]?.getD 0 / 256)] ++ [UInt8.ofNat (zs[k - 1]?.getD 0 % 256)]).head? ≠ some 0) ∧
    (k - 1 = nz → bs ++ [UInt8.ofNat (zs[k - 1]?.getD 0 / 256)] ++ [UInt8.ofNat (zs[k - 1]?.getD 0 % 256)] = []) := by
  refine ⟨fun _ => ⟨by simp, ?_⟩, fun h => by omega⟩
  cases bs with
  | nil =>
    have := hb rfl
    simpa using ofNat_ne (d := zs[k - 1]?.getD 0 / 256) (by omega) (by omega)
  | cons b bs =>
    have hlt : k < nz := by
      rcases Nat.lt_or_ge k nz with h | h
      · exact h
      · have := _hh.2 (by omega); cases this
    have := (_hh.1 hlt).2
    simpa using this
theorem head_one {zs : List Nat} {bs : List UInt8} {k nz : Nat} (h0 : 0 < k) (_hh : (k < nz → bs ≠ [] ∧ bs.head? ≠ some 0) ∧ (k = nz → bs = [])) (hk : k = nz) (ht : 0 < nz → zs[nz - 1]?.getD 0 ≠ 0) (hl : zs[k - 1]?.getD 0 < 256) :
    (k - 1 < nz → bs ++ [UInt8.ofNat (zs[k - 1]?.getD 0 % 256)] ≠ [] ∧ (bs ++ [UInt8.ofNat (zs[k - 1]?.getD 0 % 256)]).head? ≠ some 0) ∧ (k - 1 = nz → bs ++ [UInt8.ofNat (zs[k - 1]?.getD 0 % 256)] = []) := by
  refine ⟨fun _ => ⟨by simp, ?_⟩, fun h => by omega⟩
  rw [_hh.2 hk]
  have := ht (by omega)
  rw [← hk] at this
  simpa using ofNat_ne (d := zs[k - 1]?.getD 0 % 256) (by omega) (by omega)

set_option maxRecDepth 100000 in
set_option maxHeartbeats 4000000 in
theorem rwide_any (la : List Nat) (A : Option Addr) (na ca : Nat) (neg : Bool) (w : World) (da : Dl RB la) (ha : Wd .i64 w w.heap.size A la) (hna : la.length = na) (hsa : na ≤ 1000000000) (hca : na ≤ ca) (hca2 : ca ≤ 9223372036854775807) :
    Calls Tryd.prog 39 #[.bool neg, .slice A na ca] w fun e w' => e = .returned (wv (neg && decide (val RB la ≠ 0)) (val RB la)) ∧ Below w.heap.size w w' := by
  obtain ⟨i0, hi, hz0, hz1, hz2⟩ := info_parts info_u8
  have HX := Lib.hid ha
  have Hnx := Lib.hid hna
  have htl := tlen_le la
  have hlk : tlen la ≤ na := by omega
  obtain ⟨zs, hzs⟩ : ∃ zs, zs = la.take (tlen la) := ⟨_, rfl⟩
  have HZL : Hid (zs.length = tlen la) := by rw [Hid, hzs, List.length_take]; omega
  have HZD : Hid (zs = dig RB (val RB la)) := by rw [Hid, hzs]; exact take_tlen RB_two da
  have HZB : Hid (Dl RB zs) := by rw [Hid, hzs]; exact da.take _
  have HZV : Hid (val RB zs = val RB la) := by rw [Hid, HZD.out, val_dig RB_two]
  have hzl0 : Hid (tlen la = 0 ↔ val RB la = 0) := by rw [Hid, ← HZL.out, HZD.out, dig_len_zero RB_two]
  have HZW0 : Hid (Wd .i64 w w.heap.size A zs) := by rw [Hid, hzs]; exact ha.take _
  clear ha hna hzs htl
  have HTRIM : Hid (∀ W : World, Below w.heap.size w W → Calls Tryd.prog 59 #[.slice A na ca] W fun e w' => e = .returned (.slice A (tlen la) ca) ∧ W = w') := fun W hb =>
    trim_any la A na ca w.heap.size W Hnx.out hca hca2 (HX.out.below hb)
  obtain ⟨nz, hnz⟩ : ∃ nz, tlen la = nz := ⟨_, rfl⟩
  rw [hnz] at HZL hlk hzl0 HTRIM
  obtain ⟨V, hV⟩ : ∃ V, val RB la = V := ⟨_, rfl⟩
  rw [hV] at HZV HZD hzl0 ⊢
  have HTOP : Hid (0 < nz → zs[nz - 1]?.getD 0 ≠ 0) := fun h => by
    have h1 := HZD.out
    have h2 := dig_last RB_two V (by rcases Nat.eq_zero_or_pos V with h3 | h3; have := hzl0.out.2 h3; omega; exact h3)
    rw [← h1, HZL.out, List.getD_eq_getElem?_getD] at h2
    exact h2
  clear hnz hV
  by_cases h0 : nz = 0
  · have HV0 := Lib.hid (hzl0.out.1 h0)
    have hnb : ((nz : Int) == 0) = true := by simpa using h0
    clear h0
    go_enter Tryd.func39, Tryd.ntmps39
    go_wp2_with (go_at_call 59; refine (HTRIM.out _ ((Below.refl _ w).alloc (Nat.le_refl _) _)).mono ?_; rintro e w' ⟨rfl, rfl⟩)
    refine bodyPost_ret (results_cell_row rfl _ _ w.heap.size 26 _ (0, 0) _ rfl (heap_alloc_new w _) Tryd.underlying26 rfl (by kernel_rfl)) rfl ?_
    refine ⟨?_, (Below.refl _ w).alloc (Nat.le_refl _) _⟩
    rw [HV0.out]
    simp [wv, mag_zero]
  · have hnb : ((nz : Int) == 0) = false := by simpa using h0
    have HVN : Hid (V ≠ 0) := fun h => h0 (hzl0.out.2 h)
    have hnz0 : 0 < nz := by omega
    clear h0 hzl0
    go_enter Tryd.func39, Tryd.ntmps39
    go_wp2_with (go_at_call 59; refine (HTRIM.out _ ((Below.refl _ w).alloc (Nat.le_refl _) _)).mono ?_; rintro e w' ⟨rfl, rfl⟩)
    go_loopw [5, 6] (fun v i wr => ∃ (k cap m : Nat) (B : Option Addr) (bs : List UInt8), k ≤ nz ∧ i = .int .i64 ((k : Int) - 1) ∧ v = .slice B m cap ∧
      wr.ownsRow (w.heap.size + 1) 5 1 (.slice B m cap) m (bs.map fun b : UInt8 => Value.int .u8 (b.toNat : Int)) ∧ Hid (bs.length = m) ∧ m ≤ 2 * (nz - k) ∧
      Hid (mval bs = val RB (zs.drop k)) ∧ Hid ((k < nz → bs ≠ [] ∧ bs.head? ≠ some 0) ∧ (k = nz → bs = [])) ∧ Below (w.heap.size + 1) (w.alloc (.cells #[.bool false, .string ⟨#[]⟩] 26)) wr) (fun _ i _ => (intOf i + 1).toNat)
    case atStart => exact ⟨nz, 0, 0, none, [], Nat.le_refl _, rfl, rfl, ⟨rfl, .inl ⟨rfl, rfl⟩⟩, rfl, by omega, by rw [Hid, List.drop_of_length_le (by have := HZL.out; omega)]; rfl, ⟨fun h => absurd h (Nat.lt_irrefl _), fun _ => rfl⟩, Below.refl _ _⟩
    case round =>
      obtain ⟨k, cap, m, B, bs, hk, rfl, rfl, hown, Hbl, hm, Hv, HH, hbel⟩ := hrel
      have HBEL := Lib.hid hbel
      have hsz := hbel.size
      rw [World.size_alloc] at hsz
      clear hbel
      rcases Nat.eq_zero_or_pos k with h0 | h0
      · subst h0
        have HB2 : Hid (Below w.heap.size w wr) := ((Below.refl _ w).alloc (Nat.le_refl _) _).trans (HBEL.out.mono (by omega))
        have hconv := run_string_own (P := Tryd.prog) wr 81 9 5 (w.heap.size + 1) _ _ bs Tryd.underlying81 Tryd.underlying5 Tryd.underlying9 hown
        have hblk : wr.heap[w.heap.size]? = some (.cells #[.bool false, .string ⟨#[]⟩] 26 (0, 0)) := (HBEL.out.block _ (by omega)).trans (heap_alloc_new w _)
        have g5 := cell_of_row _ _ 0 _ _ _ hblk
        have g6 := cell_of_row _ _ 1 _ _ _ hblk
        have g7 := frozen_of_row _ _ 0 _ _ hblk
        have g8 := frozen_of_row _ _ 1 _ _ hblk
        have HBLK := Lib.hid hblk
        clear hown hblk
        go_wp2
        refine bodyPost_ret (results_cell_row rfl _ _ w.heap.size 26 _ (0, 0) _ rfl (res_box2 HBLK.out) Tryd.underlying26 rfl (by kernel_rfl)) rfl ?_
        refine ⟨?_, (HB2.out.setCell (p := ⟨w.heap.size, 0, none⟩) (Nat.le_refl _) _).setCell (p := ⟨w.heap.size, 1, none⟩) (Nat.le_refl _) _⟩
        have hv := Hv.out
        rw [List.drop_zero, HZV.out] at hv
        have hb := mag_unique (HH.out.1 hnz0).2
        rw [hv] at hb
        rw [← hb]
        have hvn := HVN.out
        simp [wv, hvn, hb]
      · obtain ⟨ad, rfl, hcx0⟩ := (HZW0.out).get (k := k - 1) (by have := HZL.out; omega)
        have HC0 : Hid (∀ W, Below (w.heap.size + 1) (w.alloc (.cells #[.bool false, .string ⟨#[]⟩] 26)) W → W.cell? (ad.add (k - 1)) = some (.int .i64 ((zs[k - 1]?.getD 0 : Nat) : Int))) := fun W hb => by
          rw [(((Below.refl w.heap.size w).alloc (Nat.le_refl _) _).trans (hb.mono (by omega))).cell (World.block_lt_of_cell? _ _ hcx0)]; exact hcx0
        have hcx := HC0.out _ HBEL.out
        clear hcx0
        have hbx := HZB.out.getD RB_pos (k - 1)
        rw [List.getD_eq_getElem?_getD, RB_eq] at hbx
        by_cases h1 : k < nz
        · have HBIG : Hid (bs = [] → 256 ≤ zs[k - 1]?.getD 0) := fun h => absurd h (HH.out.1 h1).1
          go_wp2_with (first | (at_builtin; refine wpList_append_own _ rfl (.tmp 32) (.tmp 39) 81 rfl (w.heap.size + 1) 5 i0 (.int .u8 0) 1 1 Tryd.underlying81 hi hz0 hz1 hz2 rfl (by decide) _ _ _ rfl (hown.alloc _) ⟨wr.heap.size, 0, none⟩ 1 1 [_] rfl rfl (cell_one_new _ _ _) (by simp [Value.oneCell']) (by unfold maxLen; omega) (by omega) (by simp; omega) ?_; intro v1 w1 hown1 hgrow _; obtain ⟨g1, cap1, rfl⟩ := ownsRow_succ hown1; have hb1 := HBEL.out.trans (((Below.refl _ wr).alloc hsz _).grown hgrow (by simp; omega) (by intro k hk; exact own_block_ge hown hk)); have hszw1 : w.heap.size + 1 ≤ w1.heap.size := (by have h := hb1.size; rw [World.size_alloc] at h; exact h); clear hgrow; have hcx1 := HC0.out _ hb1) | (at_builtin; refine wpList_append_own _ rfl (.tmp 41) (.tmp 48) 81 rfl (w.heap.size + 1) 5 i0 (.int .u8 0) 1 1 Tryd.underlying81 hi hz0 hz1 hz2 rfl (by decide) _ _ _ rfl (hown1.alloc _) ⟨w1.heap.size, 0, none⟩ 1 1 [_] rfl rfl (cell_one_new _ _ _) (by simp [Value.oneCell']) (by unfold maxLen; omega) (by omega) (by simp; omega) ?_; intro v2 w2 hown2 hgrow _; obtain ⟨g2, cap2, rfl⟩ := ownsRow_succ hown2; have hb2 := hb1.trans (((Below.refl _ w1).alloc hszw1 _).grown hgrow (by simp; omega) (by intro k hk; exact own_block_ge hown1 hk)); have hszw2 : w.heap.size + 1 ≤ w2.heap.size := (by have h := hb2.size; rw [World.size_alloc] at h; exact h); clear hgrow))
          go_roundw
          case rel =>
            refine ⟨k - 1, cap2, m + 1 + 1, _, bs ++ [UInt8.ofNat (zs[k - 1]?.getD 0 / 256)] ++ [UInt8.ofNat (zs[k - 1]?.getD 0 % 256)], by omega, by go_num, rfl, own_bsnoc (own_bsnoc_l hown2 (u8_div hbx)) (u8_mod _), by rw [Hid, List.length_append, List.length_append, Hbl.out]; rfl, by omega, ?_, ?_, hb2⟩
            · exact two_bytes h0 (by have := HZL.out; omega) HZB.out Hv.out
            · exact head_two h0 HH.out ⟨hk, hbx⟩ HBIG.out
          case measure => simp [intOf]; omega
        · by_cases h2 : 256 ≤ zs[k - 1]?.getD 0
          · have HBIG : Hid (bs = [] → 256 ≤ zs[k - 1]?.getD 0) := fun _ => h2
            go_wp2_with (first | (at_builtin; refine wpList_append_own _ rfl (.tmp 32) (.tmp 39) 81 rfl (w.heap.size + 1) 5 i0 (.int .u8 0) 1 1 Tryd.underlying81 hi hz0 hz1 hz2 rfl (by decide) _ _ _ rfl (hown.alloc _) ⟨wr.heap.size, 0, none⟩ 1 1 [_] rfl rfl (cell_one_new _ _ _) (by simp [Value.oneCell']) (by unfold maxLen; omega) (by omega) (by simp; omega) ?_; intro v1 w1 hown1 hgrow _; obtain ⟨g1, cap1, rfl⟩ := ownsRow_succ hown1; have hb1 := HBEL.out.trans (((Below.refl _ wr).alloc hsz _).grown hgrow (by simp; omega) (by intro k hk; exact own_block_ge hown hk)); have hszw1 : w.heap.size + 1 ≤ w1.heap.size := (by have h := hb1.size; rw [World.size_alloc] at h; exact h); clear hgrow; have hcx1 := HC0.out _ hb1) | (at_builtin; refine wpList_append_own _ rfl (.tmp 41) (.tmp 48) 81 rfl (w.heap.size + 1) 5 i0 (.int .u8 0) 1 1 Tryd.underlying81 hi hz0 hz1 hz2 rfl (by decide) _ _ _ rfl (hown1.alloc _) ⟨w1.heap.size, 0, none⟩ 1 1 [_] rfl rfl (cell_one_new _ _ _) (by simp [Value.oneCell']) (by unfold maxLen; omega) (by omega) (by simp; omega) ?_; intro v2 w2 hown2 hgrow _; obtain ⟨g2, cap2, rfl⟩ := ownsRow_succ hown2; have hb2 := hb1.trans (((Below.refl _ w1).alloc hszw1 _).grown hgrow (by simp; omega) (by intro k hk; exact own_block_ge hown1 hk)); have hszw2 : w.heap.size + 1 ≤ w2.heap.size := (by have h := hb2.size; rw [World.size_alloc] at h; exact h); clear hgrow))
            go_roundw
            case rel =>
              refine ⟨k - 1, cap2, m + 1 + 1, _, bs ++ [UInt8.ofNat (zs[k - 1]?.getD 0 / 256)] ++ [UInt8.ofNat (zs[k - 1]?.getD 0 % 256)], by omega, by go_num, rfl, own_bsnoc (own_bsnoc_l hown2 (u8_div hbx)) (u8_mod _), by rw [Hid, List.length_append, List.length_append, Hbl.out]; rfl, by omega, ?_, ?_, hb2⟩
              · exact two_bytes h0 (by have := HZL.out; omega) HZB.out Hv.out
              · exact head_two h0 HH.out ⟨hk, hbx⟩ HBIG.out
            case measure => simp [intOf]; omega
          · go_wp2_with (at_builtin; refine wpList_append_own _ rfl (.tmp 41) (.tmp 48) 81 rfl (w.heap.size + 1) 5 i0 (.int .u8 0) 1 1 Tryd.underlying81 hi hz0 hz1 hz2 rfl (by decide) _ _ _ rfl (hown.alloc _) ⟨wr.heap.size, 0, none⟩ 1 1 [_] rfl rfl (cell_one_new _ _ _) (by simp [Value.oneCell']) (by unfold maxLen; omega) (by omega) (by simp; omega) ?_; intro v2 w2 hown2 hgrow _; obtain ⟨g2, cap2, rfl⟩ := ownsRow_succ hown2; have hb2 := HBEL.out.trans (((Below.refl _ wr).alloc hsz _).grown hgrow (by simp; omega) (by intro k hk; exact own_block_ge hown hk)); have hszw2 : w.heap.size + 1 ≤ w2.heap.size := (by have h := hb2.size; rw [World.size_alloc] at h; exact h); clear hgrow)
            go_roundw
            case rel =>
              refine ⟨k - 1, cap2, m + 1, _, bs ++ [UInt8.ofNat (zs[k - 1]?.getD 0 % 256)], by omega, by go_num, rfl, own_bsnoc hown2 (u8_mod _), by rw [Hid, List.length_append, Hbl.out]; rfl, by omega, ?_, ?_, hb2⟩
              · exact one_byte h0 (by have := HZL.out; omega) (by omega) (HH.out.2 (by omega)) Hv.out
              · exact head_one h0 HH.out (by omega) HTOP.out (by omega)
            case measure => simp [intOf]; omega
end Go.Proofs.YtapppahniablmaaDoor
