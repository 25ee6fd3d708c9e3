/- ref trim: the zeros at the end are left out. ref digits: the digits to the base 65536. ref wide: the canonical number with some digits. ref times. ref plus and minus. ref minus. ref compare. ref Mul, Neg, Add, Sub. ref From. ref Sign, Cmp. -/
import Derived.Test.YtocbklodkcdhkaaGreatDoorWka
import Derived.Maps.AppendAt
import Derived.RangeFuncBox
namespace Go.Proofs.YtocbklodkcdhkaaGreatDoor
open Go.RowKit
set_option maxHeartbeats 400000 in
theorem trim_any (l : List Nat) (A : Option Addr) (n c B : Nat) (w : World) (hn : l.length = n) (hnc : n ≤ c) (hc : c ≤ 9223372036854775807) (h : Wd .i64 w B A l) :
    Calls Tryz.prog 76 #[.slice A n c] w fun e w' => e = .returned (.slice A (tlen l) c) ∧ w = w' := by
  have H := Lib.hid h
  clear h
  go_enter Tryz.func76, Tryz.ntmps76
  go_wp2
  go_loop [0] (fun a => ∃ k : Nat, k ≤ n ∧ a = .slice A k c ∧ ∀ j, k ≤ j → l[j]?.getD 0 = 0) (fun a => match a with | .slice _ k _ => k | _ => 0)
  case atStart => exact ⟨n, Nat.le_refl _, rfl, fun j hj => by rw [List.getElem?_eq_none (by omega)]; rfl⟩
  case round =>
    obtain ⟨k, hk, rfl, hz⟩ := hrel
    have HZ := Lib.hid hz
    clear hz
    by_cases hk0 : k = 0
    · subst hk0
      go_wp2
      go_ret
      exact ⟨by rw [tlen_eq (k := 0) (by omega) (fun j hj => by rw [List.getD_eq_getElem?_getD]; exact HZ.out j hj) (Or.inl rfl)]; rfl, rfl⟩
    · obtain ⟨ad, rfl, hcell⟩ := H.out.get (k := k - 1) (by omega)
      by_cases hx : l[k - 1]?.getD 0 = 0
      · go_wp2
        go_round
        case rel => exact ⟨k - 1, by omega, rfl, fun j hj => by
          by_cases e : j = k - 1
          · rw [e]; exact hx
          · exact HZ.out j (by omega)⟩
        case measure => show k - 1 < k; omega
      · go_wp2
        go_ret
        exact ⟨by rw [tlen_eq (k := k) (by omega) (fun j hj => by rw [List.getD_eq_getElem?_getD]; exact HZ.out j hj) (Or.inr (by rw [List.getD_eq_getElem?_getD]; exact hx))]; rfl, rfl⟩
end Go.Proofs.YtocbklodkcdhkaaGreatDoor

namespace Go.Proofs.YtocbklodkcdhkaaGreatDoor
open Go.RowKit

/-- the base of the reference's digits -/
def RB : Nat := 65536
theorem RB_eq : RB = 65536 := rfl
theorem RB_two : 2 ≤ RB := by rw [RB_eq]; omega
theorem RB_pos : 0 < RB := by rw [RB_eq]; omega
theorem info_int : (Tryz.prog.info? 3).map (fun i => (i.zero, i.size, i.bytes)) = some (some (.int .i64 0), 1, 8) := by kernel_rfl

/-- digits of the reference, handed back in new memory -/
def GivesDig (n : Nat) (w : World) (e : Ending) (w' : World) : Prop :=
  ∃ A k c, e = .returned (.slice A k c) ∧ (dig RB n).length = k ∧ k ≤ c ∧ c ≤ 9223372036854775807 ∧ Wd .i64 w' w'.heap.size A (dig RB n) ∧ Below w.heap.size w w'

theorem gives_trim {w w' : World} {l : List Nat} {A : Option Addr} {c : Nat} (hb : Below w.heap.size w w') (hwd : Wd .i64 w' w'.heap.size A l) (hd : Dl RB l) (hn : l.length ≤ c) (hc : c ≤ 9223372036854775807) :
    GivesDig (val RB l) w (.returned (.slice A (tlen l) c)) w' := by
  have ht := take_tlen RB_two hd
  have hl := tlen_le l
  refine ⟨A, tlen l, c, rfl, ?_, by omega, hc, ?_, hb⟩
  · rw [← ht, List.length_take]; omega
  · rw [← ht]; exact hwd.take _

/-- a row of the call's own reads as digits -/
theorem own_wd {q : IntKind} {w : World} {base : Nat} {e : TypeId} {A : Option Addr} {c : Nat} {l : List Nat} (h : w.ownsRow base e 1 (.slice A l.length c) l.length (l.map fun d : Nat => Value.int q (d : Int))) : Wd q w w.heap.size A l := fun hn => by
  rcases h.2 with ⟨h', _⟩ | ⟨g, cap, cur, h', hb, hg, _⟩
  · simp at h'; omega
  · have hA : A = some ⟨g, 0, none⟩ := by injection h'
    subst hA
    refine ⟨_, rfl, (Array.getElem?_eq_some_iff.1 hg).1, fun i hi => ?_⟩
    have e1 : (Addr.add ⟨g, 0, none⟩ i) = ⟨g, i, none⟩ := by unfold Addr.add; split <;> simp_all
    rw [e1, h.cellAt i (by omega)]
    simp [List.getElem?_eq_getElem hi]
theorem own_cap {w : World} {base : Nat} {e : TypeId} {A : Option Addr} {n c : Nat} {xs : List Value} {size : Nat} (h : w.ownsRow base e size (.slice A n c) n xs) : n ≤ c ∧ c ≤ 9223372036854775807 := by
  rcases h.2 with ⟨h', h0⟩ | ⟨g, cap, cur, h', hb, hg, hn, hm, _⟩
  · simp at h'; omega
  · simp at h'
    unfold maxLen at hm
    omega

theorem own_block_ge {w : World} {base : Nat} {e : TypeId} {size n k : Nat} {v : Value} {xs : List Value} (h : w.ownsRow base e size v n xs) (hk : v.ownBlock = some k) : base ≤ k := by
  rcases h.2 with ⟨rfl, _⟩ | ⟨g, cap, cur, rfl, hb, _⟩
  · simp [Value.ownBlock] at hk
  · simp [Value.ownBlock] at hk; omega

theorem own_snoc {q : IntKind} {w : World} {base n d : Nat} {e : TypeId} {v : Value} {l : List Nat} {z : Int} (h : w.ownsRow base e 1 v n (l.map (fun d : Nat => Value.int q (d : Int)) ++ [.int q z])) (hz : z = d) :
    w.ownsRow base e 1 v n ((l ++ [d]).map fun d : Nat => Value.int q (d : Int)) := by
  subst hz; rw [List.map_append]; exact h
theorem byte_get (s : ByteArray) (i : Nat) (h : i < s.size) : s.data.toList[i]? = some s[i] := by
  rw [Array.getElem?_toList, Array.getElem?_eq_getElem (by exact h)]; rfl

theorem wrap_two (x y : UInt8) : wrap64 (wrap64 (x.toNat : Int) + wrap64 (256 * wrap64 (y.toNat : Int))) = ((x.toNat + 256 * y.toNat : Nat) : Int) := by
  have h1 := UInt8.toNat_lt x
  have h2 := UInt8.toNat_lt y
  simp only [wrap64]; omega
theorem wrap_one (x : UInt8) : wrap64 (x.toNat : Int) = ((x.toNat : Nat) : Int) := by
  have h1 := UInt8.toNat_lt x
  simp only [wrap64]; omega
theorem two_lt (x y : UInt8) : x.toNat + 256 * y.toNat < RB := by
  have h1 := UInt8.toNat_lt x
  have h2 := UInt8.toNat_lt y
  rw [RB_eq]; omega
theorem one_lt (x : UInt8) : x.toNat < RB := by
  have h1 := UInt8.toNat_lt x
  rw [RB_eq]; omega

set_option maxRecDepth 100000 in
set_option maxHeartbeats 1000000 in
theorem digits_any (neg : Bool) (s : ByteArray) (w : World) (hs : s.size ≤ 1000000000) :
    Calls Tryz.prog 74 #[.agg #[.bool neg, .string s]] w (GivesDig (mval s.data.toList) w) := by
  obtain ⟨i0, hi, hz0, hz1, hz2⟩ := info_parts info_int
  go_enter Tryz.func74, Tryz.ntmps74
  go_wp2
  go_loopw [3, 5] (fun v i wr => ∃ (j c : Nat) (A : Option Addr) (l : List Nat), 2 * j ≤ s.size + 1 ∧ i = .int .i64 ((s.size : Int) - 2 * (j : Int)) ∧ v = .slice A j c ∧ wr.cell? ⟨w.heap.size, 1, none⟩ = some (.string s) ∧
      wr.ownsRow (w.heap.size + 1) 3 1 (.slice A j c) j (l.map fun d : Nat => Value.int .i64 (d : Int)) ∧ Hid (l.length = j) ∧ Dl RB l ∧
      Hid (val RB l = mval (s.data.toList.drop (s.size - 2 * j))) ∧ Below (w.heap.size + 1) (w.alloc (.cells #[.bool neg, .string s] 43)) wr) (fun _ i _ => (intOf i + 1).toNat)
  case atStart => exact ⟨0, 0, none, [], by omega, by go_num, rfl, by simp [go_sem], ⟨rfl, .inl ⟨rfl, rfl⟩⟩, rfl, Dl.nil _, by rw [Hid, List.drop_of_length_le (by simp)]; rfl, Below.refl _ _⟩
  case round =>
    obtain ⟨j, c, A, l, hj, rfl, rfl, hstr, hown, Hlen, dl, Hv, hbel⟩ := hrel
    have hsz := hbel.size
    rw [World.size_alloc] at hsz
    by_cases h0 : s.size ≤ 2 * j
    · have HV : Hid (val RB l = mval s.data.toList) := by have h := Hv.out; rw [show s.size - 2 * j = 0 from by omega, List.drop_zero] at h; exact h
      have HCAP := Lib.hid (own_cap hown)
      have HWD : Hid (Wd .i64 wr wr.heap.size A l) := by have h := hown; rw [← Hlen.out] at h; exact own_wd h
      have HB : Hid (Below w.heap.size w wr) := ((Below.refl _ w).alloc (Nat.le_refl _) _).trans (hbel.mono (by omega))
      clear hown hbel hstr
      go_wp2_with (go_at_call 76; refine (trim_any l A j c _ _ Hlen.out HCAP.out.1 HCAP.out.2 HWD.out).mono ?_; rintro e w' ⟨rfl, rfl⟩)
      go_ret
      rw [← HV.out]
      exact gives_trim HB.out HWD.out dl (by rw [Hlen.out]; exact HCAP.out.1) HCAP.out.2
    · by_cases h1 : s.size ≤ 2 * j + 1
      · go_wp2_with (at_builtin; refine wpList_append_own _ rfl _ _ 50 rfl (w.heap.size + 1) 3 i0 (.int .i64 0) 1 8 Tryz.underlying50 hi hz0 hz1 hz2 rfl (by decide) _ _ _ rfl (hown.alloc _) ⟨wr.heap.size, 0, none⟩ 1 1 [_] rfl rfl (cell_one_new _ _ _) (by simp [Value.oneCell']) (by unfold maxLen; omega) (by omega) (by simp; omega) ?_; intro v' w1 hown' hgrow _; obtain ⟨g', cap', rfl⟩ := ownsRow_succ hown'; have hb1 := hbel.trans (((Below.refl _ wr).alloc hsz _).grown hgrow (by simp; omega) (by intro k hk; exact own_block_ge hown hk)))
        go_roundw
        case rel =>
          have hs2 : s.data.toList.length = s.size := by simp
          have hx := byte_get s (s.size - 2 * j - 1) (by omega)
          refine ⟨j + 1, cap', _, l ++ [(s[s.size - 2 * j - 1]'(by omega)).toNat], by omega, by go_num, rfl, (hb1.cell (p := ⟨w.heap.size, 1, none⟩) (by simp)).trans (by simp [go_sem]), own_snoc hown' (wrap_one _), ?_, dl.append (Dl.one (one_lt _)), ?_, hb1⟩
          · rw [Hid, List.length_append, Hlen.out]; rfl
          · have h := Hv.out
            rw [RB_eq] at h
            rw [Hid, RB_eq]
            exact digits_one hs2 Hlen.out (by omega) (by rw [← hx]; congr 1; omega) h
        case measure => simp [intOf]; omega
      · go_wp2_with (at_builtin; refine wpList_append_own _ rfl _ _ 50 rfl (w.heap.size + 1) 3 i0 (.int .i64 0) 1 8 Tryz.underlying50 hi hz0 hz1 hz2 rfl (by decide) _ _ _ rfl (hown.alloc _) ⟨wr.heap.size, 0, none⟩ 1 1 [_] rfl rfl (cell_one_new _ _ _) (by simp [Value.oneCell']) (by unfold maxLen; omega) (by omega) (by simp; omega) ?_; intro v' w1 hown' hgrow _; obtain ⟨g', cap', rfl⟩ := ownsRow_succ hown'; have hb1 := hbel.trans (((Below.refl _ wr).alloc hsz _).grown hgrow (by simp; omega) (by intro k hk; exact own_block_ge hown hk)))
        go_roundw
        case rel =>
          have hs2 : s.data.toList.length = s.size := by simp
          have hx := byte_get s (s.size - 2 * j - 1) (by omega)
          have hy := byte_get s (s.size - 2 * j - 2) (by omega)
          refine ⟨j + 1, cap', _, l ++ [(s[s.size - 2 * j - 1]'(by omega)).toNat + 256 * (s[s.size - 2 * j - 2]'(by omega)).toNat], by omega, by go_num, rfl, (hb1.cell (p := ⟨w.heap.size, 1, none⟩) (by simp)).trans (by simp [go_sem]), own_snoc hown' (wrap_two _ _), ?_, dl.append (Dl.one (two_lt _ _)), ?_, hb1⟩
          · rw [Hid, List.length_append, Hlen.out]; rfl
          · have h := Hv.out
            rw [RB_eq] at h
            rw [Hid, RB_eq]
            exact digits_two hs2 Hlen.out (by omega) hx hy h
        case measure => simp [intOf]; omega
end Go.Proofs.YtocbklodkcdhkaaGreatDoor

namespace Go.Proofs.YtocbklodkcdhkaaGreatDoor
open Go.RowKit

theorem u8_div {d : Nat} (h : d < 65536) : (d : Int) / 256 = ((UInt8.ofNat (d / 256)).toNat : Int) := by rw [UInt8.toNat_ofNat']; omega
theorem u8_mod (d : Nat) : (d : Int) % 256 = ((UInt8.ofNat (d % 256)).toNat : Int) := by rw [UInt8.toNat_ofNat']; omega
theorem own_bsnoc {w : World} {base n : Nat} {b : UInt8} {e : TypeId} {v : Value} {l : List UInt8} {z : Int} (h : w.ownsRow base e 1 v n (l.map (fun b : UInt8 => Value.int .u8 (b.toNat : Int)) ++ [.int .u8 z])) (hz : z = b.toNat) :
    w.ownsRow base e 1 v n ((l ++ [b]).map fun b : UInt8 => Value.int .u8 (b.toNat : Int)) := by
  subst hz; rw [List.map_append]; exact h
theorem own_bsnoc_l {w : World} {base n : Nat} {b : UInt8} {e : TypeId} {v x : Value} {l : List UInt8} {z : Int} (h : w.ownsRow base e 1 v n (l.map (fun b : UInt8 => Value.int .u8 (b.toNat : Int)) ++ [.int .u8 z] ++ [x])) (hz : z = b.toNat) :
    w.ownsRow base e 1 v n ((l ++ [b]).map (fun b : UInt8 => Value.int .u8 (b.toNat : Int)) ++ [x]) := by
  subst hz; rw [List.map_append]; exact h
theorem two_bytes {zs : List Nat} {bs : List UInt8} {k : Nat} (h0 : 0 < k) (hk : k ≤ zs.length) (hd : Dl RB zs) (h : mval bs = val RB (zs.drop k)) :
    mval (bs ++ [UInt8.ofNat (zs[k - 1]?.getD 0 / 256)] ++ [UInt8.ofNat (zs[k - 1]?.getD 0 % 256)]) = val RB (zs.drop (k - 1)) := by
  have h1 := hd.get (k - 1) (by omega)
  rw [val_drop RB zs (k - 1) (by omega), show k - 1 + 1 = k from by omega, mval_snoc, mval_snoc, h, getD_get (show k - 1 < zs.length by omega)]
  rw [RB_eq] at h1 ⊢
  rw [UInt8.toNat_ofNat', UInt8.toNat_ofNat']
  omega
theorem one_byte {zs : List Nat} {bs : List UInt8} {k : Nat} (h0 : 0 < k) (hk : k ≤ zs.length) (hl : zs[k - 1]?.getD 0 < 256) (hb : bs = []) (h : mval bs = val RB (zs.drop k)) :
    mval (bs ++ [UInt8.ofNat (zs[k - 1]?.getD 0 % 256)]) = val RB (zs.drop (k - 1)) := by
  rw [getD_get (show k - 1 < zs.length by omega)] at hl ⊢
  rw [val_drop RB zs (k - 1) (by omega), show k - 1 + 1 = k from by omega, mval_snoc, ← h, hb]
  simp [mval, val]
  omega

theorem ofNat_ne {d : Nat} (h : 0 < d) (h2 : d < 256) : UInt8.ofNat d ≠ 0 := fun e => by
  have := congrArg UInt8.toNat e
  rw [UInt8.toNat_ofNat'] at this
  simp at this
  omega
theorem head_two {zs : List Nat} {bs : List UInt8} {k nz : Nat} (h0 : 0 < k) (_hh : (k < nz → bs ≠ [] ∧ bs.head? ≠ some 0) ∧ (k = nz → bs = [])) (hz : k ≤ nz ∧ zs[k - 1]?.getD 0 < 65536) (hb : bs = [] → 256 ≤ zs[k - 1]?.getD 0) :
    (k - 1 < nz → bs ++ [UInt8.ofNat (zs[k - 1]?.getD 0 / 256)] ++ [UInt8.ofNat (zs[k - 1]?.getD 0 % 256)] ≠ [] ∧ (bs ++ [UInt8.ofNat (zs[k - 1]?.getD 0 / 256)] ++ [UInt8.ofNat (zs[k - 1]?.getD 0 % 256)]).head? ≠ some 0) ∧
    (k - 1 = nz → bs ++ [UInt8.ofNat (zs[k - 1]?.getD 0 / 256)] ++ [UInt8.ofNat (zs[k - 1]?.getD 0 % 256)] = []) := by
  refine ⟨fun _ => ⟨by simp, ?_⟩, fun h => by omega⟩
  cases bs with
  | nil =>
    have := hb rfl
    simpa using ofNat_ne (d := zs[k - 1]?.getD 0 / 256) (by omega) (by omega)
  | cons b bs =>
    have hlt : k < nz := by
      rcases Nat.lt_or_ge k nz with h | h
      · exact h
      · have := _hh.2 (by omega); cases this
    have := (_hh.1 hlt).2
    simpa using this
theorem head_one {zs : List Nat} {bs : List UInt8} {k nz : Nat} (h0 : 0 < k) (_hh : (k < nz → bs ≠ [] ∧ bs.head? ≠ some 0) ∧ (k = nz → bs = [])) (hk : k = nz) (ht : 0 < nz → zs[nz - 1]?.getD 0 ≠ 0) (hl : zs[k - 1]?.getD 0 < 256) :
    (k - 1 < nz → bs ++ [UInt8.ofNat (zs[k - 1]?.getD 0 % 256)] ≠ [] ∧ (bs ++ [UInt8.ofNat (zs[k - 1]?.getD 0 % 256)]).head? ≠ some 0) ∧ (k - 1 = nz → bs ++ [UInt8.ofNat (zs[k - 1]?.getD 0 % 256)] = []) := by
  refine ⟨fun _ => ⟨by simp, ?_⟩, fun h => by omega⟩
  rw [_hh.2 hk]
  have := ht (by omega)
  rw [← hk] at this
  simpa using ofNat_ne (d := zs[k - 1]?.getD 0 % 256) (by omega) (by omega)

set_option maxRecDepth 100000 in
set_option maxHeartbeats 4000000 in
theorem rwide_any (la : List Nat) (A : Option Addr) (na ca : Nat) (neg : Bool) (w : World) (da : Dl RB la) (ha : Wd .i64 w w.heap.size A la) (hna : la.length = na) (hsa : na ≤ 1000000000) (hca : na ≤ ca) (hca2 : ca ≤ 9223372036854775807) :
    Calls Tryz.prog 59 #[.bool neg, .slice A na ca] w fun e w' => e = .returned (wv (neg && decide (val RB la ≠ 0)) (val RB la)) ∧ Below w.heap.size w w' := by
  obtain ⟨i0, hi, hz0, hz1, hz2⟩ := info_parts info_u8
  have HX := Lib.hid ha
  have Hnx := Lib.hid hna
  have htl := tlen_le la
  have hlk : tlen la ≤ na := by omega
  obtain ⟨zs, hzs⟩ : ∃ zs, zs = la.take (tlen la) := ⟨_, rfl⟩
  have HZL : Hid (zs.length = tlen la) := by rw [Hid, hzs, List.length_take]; omega
  have HZD : Hid (zs = dig RB (val RB la)) := by rw [Hid, hzs]; exact take_tlen RB_two da
  have HZB : Hid (Dl RB zs) := by rw [Hid, hzs]; exact da.take _
  have HZV : Hid (val RB zs = val RB la) := by rw [Hid, HZD.out, val_dig RB_two]
  have hzl0 : Hid (tlen la = 0 ↔ val RB la = 0) := by rw [Hid, ← HZL.out, HZD.out, dig_len_zero RB_two]
  have HZW0 : Hid (Wd .i64 w w.heap.size A zs) := by rw [Hid, hzs]; exact ha.take _
  clear ha hna hzs htl
  have HTRIM : Hid (∀ W : World, Below w.heap.size w W → Calls Tryz.prog 76 #[.slice A na ca] W fun e w' => e = .returned (.slice A (tlen la) ca) ∧ W = w') := fun W hb =>
    trim_any la A na ca w.heap.size W Hnx.out hca hca2 (HX.out.below hb)
  obtain ⟨nz, hnz⟩ : ∃ nz, tlen la = nz := ⟨_, rfl⟩
  rw [hnz] at HZL hlk hzl0 HTRIM
  obtain ⟨V, hV⟩ : ∃ V, val RB la = V := ⟨_, rfl⟩
  rw [hV] at HZV HZD hzl0 ⊢
  have HTOP : Hid (0 < nz → zs[nz - 1]?.getD 0 ≠ 0) := fun h => by
    have h1 := HZD.out
    have h2 := dig_last RB_two V (by rcases Nat.eq_zero_or_pos V with h3 | h3; have := hzl0.out.2 h3; omega; exact h3)
    rw [← h1, HZL.out, List.getD_eq_getElem?_getD] at h2
    exact h2
  clear hnz hV
  by_cases h0 : nz = 0
  · have HV0 := Lib.hid (hzl0.out.1 h0)
    have hnb : ((nz : Int) == 0) = true := by simpa using h0
    clear h0
    go_enter Tryz.func59, Tryz.ntmps59
    go_wp2_with (go_at_call 76; refine (HTRIM.out _ ((Below.refl _ w).alloc (Nat.le_refl _) _)).mono ?_; rintro e w' ⟨rfl, rfl⟩)
    refine bodyPost_ret (results_cell_row rfl _ _ w.heap.size 43 _ (0, 0) _ rfl (heap_alloc_new w _) Tryz.underlying43 rfl (by kernel_rfl)) rfl ?_
    refine ⟨?_, (Below.refl _ w).alloc (Nat.le_refl _) _⟩
    rw [HV0.out]
    simp [wv, mag_zero]
  · have hnb : ((nz : Int) == 0) = false := by simpa using h0
    have HVN : Hid (V ≠ 0) := fun h => h0 (hzl0.out.2 h)
    have hnz0 : 0 < nz := by omega
    clear h0 hzl0
    go_enter Tryz.func59, Tryz.ntmps59
    go_wp2_with (go_at_call 76; refine (HTRIM.out _ ((Below.refl _ w).alloc (Nat.le_refl _) _)).mono ?_; rintro e w' ⟨rfl, rfl⟩)
    go_loopw [5, 6] (fun v i wr => ∃ (k cap m : Nat) (B : Option Addr) (bs : List UInt8), k ≤ nz ∧ i = .int .i64 ((k : Int) - 1) ∧ v = .slice B m cap ∧
      wr.ownsRow (w.heap.size + 1) 5 1 (.slice B m cap) m (bs.map fun b : UInt8 => Value.int .u8 (b.toNat : Int)) ∧ Hid (bs.length = m) ∧ m ≤ 2 * (nz - k) ∧
      Hid (mval bs = val RB (zs.drop k)) ∧ Hid ((k < nz → bs ≠ [] ∧ bs.head? ≠ some 0) ∧ (k = nz → bs = [])) ∧ Below (w.heap.size + 1) (w.alloc (.cells #[.bool false, .string ⟨#[]⟩] 43)) wr) (fun _ i _ => (intOf i + 1).toNat)
    case atStart => exact ⟨nz, 0, 0, none, [], Nat.le_refl _, rfl, rfl, ⟨rfl, .inl ⟨rfl, rfl⟩⟩, rfl, by omega, by rw [Hid, List.drop_of_length_le (by have := HZL.out; omega)]; rfl, ⟨fun h => absurd h (Nat.lt_irrefl _), fun _ => rfl⟩, Below.refl _ _⟩
    case round =>
      obtain ⟨k, cap, m, B, bs, hk, rfl, rfl, hown, Hbl, hm, Hv, HH, hbel⟩ := hrel
      have HBEL := Lib.hid hbel
      have hsz := hbel.size
      rw [World.size_alloc] at hsz
      clear hbel
      rcases Nat.eq_zero_or_pos k with h0 | h0
      · subst h0
        have HB2 : Hid (Below w.heap.size w wr) := ((Below.refl _ w).alloc (Nat.le_refl _) _).trans (HBEL.out.mono (by omega))
        have hconv := run_string_own (P := Tryz.prog) wr 114 9 5 (w.heap.size + 1) _ _ bs Tryz.underlying114 Tryz.underlying5 Tryz.underlying9 hown
        have hblk : wr.heap[w.heap.size]? = some (.cells #[.bool false, .string ⟨#[]⟩] 43 (0, 0)) := (HBEL.out.block _ (by omega)).trans (heap_alloc_new w _)
        have g5 := cell_of_row _ _ 0 _ _ _ hblk
        have g6 := cell_of_row _ _ 1 _ _ _ hblk
        have g7 := frozen_of_row _ _ 0 _ _ hblk
        have g8 := frozen_of_row _ _ 1 _ _ hblk
        have HBLK := Lib.hid hblk
        clear hown hblk
        go_wp2
        refine bodyPost_ret (results_cell_row rfl _ _ w.heap.size 43 _ (0, 0) _ rfl (res_box2 HBLK.out) Tryz.underlying43 rfl (by kernel_rfl)) rfl ?_
        refine ⟨?_, (HB2.out.setCell (p := ⟨w.heap.size, 0, none⟩) (Nat.le_refl _) _).setCell (p := ⟨w.heap.size, 1, none⟩) (Nat.le_refl _) _⟩
        have hv := Hv.out
        rw [List.drop_zero, HZV.out] at hv
        have hb := mag_unique (HH.out.1 hnz0).2
        rw [hv] at hb
        rw [← hb]
        have hvn := HVN.out
        simp [wv, hvn, hb]
      · obtain ⟨ad, rfl, hcx0⟩ := (HZW0.out).get (k := k - 1) (by have := HZL.out; omega)
        have HC0 : Hid (∀ W, Below (w.heap.size + 1) (w.alloc (.cells #[.bool false, .string ⟨#[]⟩] 43)) W → W.cell? (ad.add (k - 1)) = some (.int .i64 ((zs[k - 1]?.getD 0 : Nat) : Int))) := fun W hb => by
          rw [(((Below.refl w.heap.size w).alloc (Nat.le_refl _) _).trans (hb.mono (by omega))).cell (World.block_lt_of_cell? _ _ hcx0)]; exact hcx0
        have hcx := HC0.out _ HBEL.out
        clear hcx0
        have hbx := HZB.out.getD RB_pos (k - 1)
        rw [List.getD_eq_getElem?_getD, RB_eq] at hbx
        by_cases h1 : k < nz
        · have HBIG : Hid (bs = [] → 256 ≤ zs[k - 1]?.getD 0) := fun h => absurd h (HH.out.1 h1).1
          go_wp2_with (first | (at_builtin; refine wpList_append_own _ rfl (.tmp 32) (.tmp 39) 114 rfl (w.heap.size + 1) 5 i0 (.int .u8 0) 1 1 Tryz.underlying114 hi hz0 hz1 hz2 rfl (by decide) _ _ _ rfl (hown.alloc _) ⟨wr.heap.size, 0, none⟩ 1 1 [_] rfl rfl (cell_one_new _ _ _) (by simp [Value.oneCell']) (by unfold maxLen; omega) (by omega) (by simp; omega) ?_; intro v1 w1 hown1 hgrow _; obtain ⟨g1, cap1, rfl⟩ := ownsRow_succ hown1; have hb1 := HBEL.out.trans (((Below.refl _ wr).alloc hsz _).grown hgrow (by simp; omega) (by intro k hk; exact own_block_ge hown hk)); have hszw1 : w.heap.size + 1 ≤ w1.heap.size := (by have h := hb1.size; rw [World.size_alloc] at h; exact h); clear hgrow; have hcx1 := HC0.out _ hb1) | (at_builtin; refine wpList_append_own _ rfl (.tmp 41) (.tmp 48) 114 rfl (w.heap.size + 1) 5 i0 (.int .u8 0) 1 1 Tryz.underlying114 hi hz0 hz1 hz2 rfl (by decide) _ _ _ rfl (hown1.alloc _) ⟨w1.heap.size, 0, none⟩ 1 1 [_] rfl rfl (cell_one_new _ _ _) (by simp [Value.oneCell']) (by unfold maxLen; omega) (by omega) (by simp; omega) ?_; intro v2 w2 hown2 hgrow _; obtain ⟨g2, cap2, rfl⟩ := ownsRow_succ hown2; have hb2 := hb1.trans (((Below.refl _ w1).alloc hszw1 _).grown hgrow (by simp; omega) (by intro k hk; exact own_block_ge hown1 hk)); have hszw2 : w.heap.size + 1 ≤ w2.heap.size := (by have h := hb2.size; rw [World.size_alloc] at h; exact h); clear hgrow))
          go_roundw
          case rel =>
            refine ⟨k - 1, cap2, m + 1 + 1, _, bs ++ [UInt8.ofNat (zs[k - 1]?.getD 0 / 256)] ++ [UInt8.ofNat (zs[k - 1]?.getD 0 % 256)], by omega, by go_num, rfl, own_bsnoc (own_bsnoc_l hown2 (u8_div hbx)) (u8_mod _), by rw [Hid, List.length_append, List.length_append, Hbl.out]; rfl, by omega, ?_, ?_, hb2⟩
            · exact two_bytes h0 (by have := HZL.out; omega) HZB.out Hv.out
            · exact head_two h0 HH.out ⟨hk, hbx⟩ HBIG.out
          case measure => simp [intOf]; omega
        · by_cases h2 : 256 ≤ zs[k - 1]?.getD 0
          · have HBIG : Hid (bs = [] → 256 ≤ zs[k - 1]?.getD 0) := fun _ => h2
            go_wp2_with (first | (at_builtin; refine wpList_append_own _ rfl (.tmp 32) (.tmp 39) 114 rfl (w.heap.size + 1) 5 i0 (.int .u8 0) 1 1 Tryz.underlying114 hi hz0 hz1 hz2 rfl (by decide) _ _ _ rfl (hown.alloc _) ⟨wr.heap.size, 0, none⟩ 1 1 [_] rfl rfl (cell_one_new _ _ _) (by simp [Value.oneCell']) (by unfold maxLen; omega) (by omega) (by simp; omega) ?_; intro v1 w1 hown1 hgrow _; obtain ⟨g1, cap1, rfl⟩ := ownsRow_succ hown1; have hb1 := HBEL.out.trans (((Below.refl _ wr).alloc hsz _).grown hgrow (by simp; omega) (by intro k hk; exact own_block_ge hown hk)); have hszw1 : w.heap.size + 1 ≤ w1.heap.size := (by have h := hb1.size; rw [World.size_alloc] at h; exact h); clear hgrow; have hcx1 := HC0.out _ hb1) | (at_builtin; refine wpList_append_own _ rfl (.tmp 41) (.tmp 48) 114 rfl (w.heap.size + 1) 5 i0 (.int .u8 0) 1 1 Tryz.underlying114 hi hz0 hz1 hz2 rfl (by decide) _ _ _ rfl (hown1.alloc _) ⟨w1.heap.size, 0, none⟩ 1 1 [_] rfl rfl (cell_one_new _ _ _) (by simp [Value.oneCell']) (by unfold maxLen; omega) (by omega) (by simp; omega) ?_; intro v2 w2 hown2 hgrow _; obtain ⟨g2, cap2, rfl⟩ := ownsRow_succ hown2; have hb2 := hb1.trans (((Below.refl _ w1).alloc hszw1 _).grown hgrow (by simp; omega) (by intro k hk; exact own_block_ge hown1 hk)); have hszw2 : w.heap.size + 1 ≤ w2.heap.size := (by have h := hb2.size; rw [World.size_alloc] at h; exact h); clear hgrow))
            go_roundw
            case rel =>
              refine ⟨k - 1, cap2, m + 1 + 1, _, bs ++ [UInt8.ofNat (zs[k - 1]?.getD 0 / 256)] ++ [UInt8.ofNat (zs[k - 1]?.getD 0 % 256)], by omega, by go_num, rfl, own_bsnoc (own_bsnoc_l hown2 (u8_div hbx)) (u8_mod _), by rw [Hid, List.length_append, List.length_append, Hbl.out]; rfl, by omega, ?_, ?_, hb2⟩
              · exact two_bytes h0 (by have := HZL.out; omega) HZB.out Hv.out
              · exact head_two h0 HH.out ⟨hk, hbx⟩ HBIG.out
            case measure => simp [intOf]; omega
          · go_wp2_with (at_builtin; refine wpList_append_own _ rfl (.tmp 41) (.tmp 48) 114 rfl (w.heap.size + 1) 5 i0 (.int .u8 0) 1 1 Tryz.underlying114 hi hz0 hz1 hz2 rfl (by decide) _ _ _ rfl (hown.alloc _) ⟨wr.heap.size, 0, none⟩ 1 1 [_] rfl rfl (cell_one_new _ _ _) (by simp [Value.oneCell']) (by unfold maxLen; omega) (by omega) (by simp; omega) ?_; intro v2 w2 hown2 hgrow _; obtain ⟨g2, cap2, rfl⟩ := ownsRow_succ hown2; have hb2 := HBEL.out.trans (((Below.refl _ wr).alloc hsz _).grown hgrow (by simp; omega) (by intro k hk; exact own_block_ge hown hk)); have hszw2 : w.heap.size + 1 ≤ w2.heap.size := (by have h := hb2.size; rw [World.size_alloc] at h; exact h); clear hgrow)
            go_roundw
            case rel =>
              refine ⟨k - 1, cap2, m + 1, _, bs ++ [UInt8.ofNat (zs[k - 1]?.getD 0 % 256)], by omega, by go_num, rfl, own_bsnoc hown2 (u8_mod _), by rw [Hid, List.length_append, Hbl.out]; rfl, by omega, ?_, ?_, hb2⟩
              · exact one_byte h0 (by have := HZL.out; omega) (by omega) (HH.out.2 (by omega)) Hv.out
              · exact head_one h0 HH.out (by omega) HTOP.out (by omega)
            case measure => simp [intOf]; omega
end Go.Proofs.YtocbklodkcdhkaaGreatDoor

namespace Go.Proofs.YtocbklodkcdhkaaGreatDoor
open Go.RowKit

end Go.Proofs.YtocbklodkcdhkaaGreatDoor

namespace Go.Proofs.YtocbklodkcdhkaaGreatDoor
open Go.RowKit

theorem plus_step {B : Nat} {a b l : List Nat} {k c x y : Nat} (hk : l.length = k) (hx : a[k]?.getD 0 = x) (hy : b[k]?.getD 0 = y) (h : val B l + B ^ k * c = val B (a.take k) + val B (b.take k)) :
    val B (l ++ [(x + c + y) % B]) + B ^ (k + 1) * ((x + c + y) / B) = val B (a.take (k + 1)) + val B (b.take (k + 1)) := by
  rw [val_snoc, hk, val_take_succ', val_take_succ', hx, hy, Nat.pow_succ, Nat.mul_assoc]
  have : B ^ k * ((x + c + y) % B) + B ^ k * (B * ((x + c + y) / B)) = B ^ k * x + B ^ k * c + B ^ k * y := by
    rw [← Nat.mul_add, Nat.mod_add_div, Nat.mul_add, Nat.mul_add]
  omega
theorem minus_step {B : Nat} {a b l : List Nat} {k c x y d c' : Nat} (hk : l.length = k) (hx : a[k]?.getD 0 = x) (hy : b[k]?.getD 0 = y) (hd : d + c + y = x + B * c')
    (h : val B l + val B (b.take k) = val B (a.take k) + B ^ k * c) :
    val B (l ++ [d]) + val B (b.take (k + 1)) = val B (a.take (k + 1)) + B ^ (k + 1) * c' := by
  rw [val_snoc, hk, val_take_succ', val_take_succ', hx, hy, Nat.pow_succ, Nat.mul_assoc]
  have := congrArg (B ^ k * ·) hd
  simp only [Nat.mul_add] at this
  omega

end Go.Proofs.YtocbklodkcdhkaaGreatDoor

namespace Go.Proofs.YtocbklodkcdhkaaGreatDoor
open Go.RowKit

end Go.Proofs.YtocbklodkcdhkaaGreatDoor

namespace Go.Proofs.YtocbklodkcdhkaaGreatDoor
open Go.RowKit

set_option maxRecDepth 100000 in
set_option maxHeartbeats 1000000 in
theorem compare_any (m n : Nat) (Aa Ab : Option Addr) (na nb ca cb : Nat) (w : World)
    (ha : Wd .i64 w w.heap.size Aa (dig RB m)) (hb : Wd .i64 w w.heap.size Ab (dig RB n)) (hna : (dig RB m).length = na) (hnb : (dig RB n).length = nb) (hsa : na ≤ 1000000000) (hsb : nb ≤ 1000000000) :
    Calls Tryz.prog 92 #[.slice Aa na ca, .slice Ab nb cb] w fun e w' => e = .returned (.int .i64 (cmpN m n)) ∧ Below w.heap.size w w' := by
  by_cases h1 : na < nb
  · have hlt : m < n := lt_of_len_lt RB_two (by omega)
    clear ha hb hna hnb
    go_enter Tryz.func92, Tryz.ntmps92
    go_wp2
    go_ret
    exact ⟨ret_eq (by rw [cmpN_lt hlt]; rfl), Below.refl _ _⟩
  · by_cases h2 : nb < na
    · have hlt : n < m := lt_of_len_lt RB_two (by omega)
      clear ha hb hna hnb
      go_enter Tryz.func92, Tryz.ntmps92
      go_wp2
      go_ret
      exact ⟨ret_eq (by rw [cmpN_gt hlt]; rfl), Below.refl _ _⟩
    · obtain rfl : na = nb := by omega
      have HX := Lib.hid ha
      have HY := Lib.hid hb
      have Hnx := Lib.hid hna
      have Hny := Lib.hid hnb
      have dx := dig_Dl RB_two m
      have dy := dig_Dl RB_two n
      have HM := Lib.hid (val_dig RB_two m)
      have HN := Lib.hid (val_dig RB_two n)
      clear ha hb hna hnb
      generalize dig RB m = la at *
      generalize dig RB n = lb at *
      go_enter Tryz.func92, Tryz.ntmps92
      go_wp2
      go_loopw [5] (fun i wr => ∃ (k : Nat), k ≤ na ∧ i = .int .i64 ((k : Int) - 1) ∧ Hid (la.drop k = lb.drop k) ∧ Below w.heap.size w wr) (fun i _ => (intOf i + 1).toNat)
      case atStart => exact ⟨na, Nat.le_refl _, rfl, by rw [Hid, List.drop_of_length_le (by have := Hnx.out; omega), List.drop_of_length_le (by have := Hny.out; omega)], Below.refl _ _⟩
      case round =>
        obtain ⟨k, hk, rfl, Hd, hbel⟩ := hrel
        have HBEL := Lib.hid hbel
        clear hbel
        rcases Nat.eq_zero_or_pos k with h0 | h0
        · subst h0
          go_wp2
          go_ret
          have e := Hd.out
          rw [List.drop_zero, List.drop_zero] at e
          have hmn : m = n := by rw [← HM.out, ← HN.out, e]
          exact ⟨ret_eq (by rw [hmn, cmpN_self]; rfl), HBEL.out⟩
        · obtain ⟨ax, rfl, hcx⟩ := (HX.out.below HBEL.out).get (k := k - 1) (by have := Hnx.out; omega)
          obtain ⟨ay, rfl, hcy⟩ := (HY.out.below HBEL.out).get (k := k - 1) (by have := Hny.out; omega)
          have HLEN := Lib.hid (Hnx.out.trans Hny.out.symm)
          have HKL : Hid (k ≤ la.length) := by have := Hnx.out; show k ≤ la.length; omega
          have HKM : Hid (k ≤ lb.length) := by have := Hny.out; show k ≤ lb.length; omega
          by_cases hxy : la[k - 1]?.getD 0 < lb[k - 1]?.getD 0
          · have hlt : m < n := by
              rw [← HM.out, ← HN.out]
              exact val_lt_of_getD dx HLEN.out h0 HKL.out Hd.out hxy
            have hne : (((la[k - 1]?.getD 0 : Nat) : Int) != ((lb[k - 1]?.getD 0 : Nat) : Int)) = true := by rw [bne_iff_ne]; omega
            go_wp2
            go_region
            go_wp2
            go_region
            go_wp2
            go_ret
            exact ⟨ret_eq (by rw [cmpN_lt hlt]; rfl), HBEL.out.drew.drew⟩
          · by_cases hyx : lb[k - 1]?.getD 0 < la[k - 1]?.getD 0
            · have hlt : n < m := by
                rw [← HM.out, ← HN.out]
                exact val_lt_of_getD dy HLEN.out.symm h0 HKM.out Hd.out.symm hyx
              have hne : (((la[k - 1]?.getD 0 : Nat) : Int) != ((lb[k - 1]?.getD 0 : Nat) : Int)) = true := by rw [bne_iff_ne]; omega
              go_wp2
              go_region
              go_wp2
              go_region
              go_wp2
              go_ret
              exact ⟨ret_eq (by rw [cmpN_gt hlt]; rfl), HBEL.out.drew.drew⟩
            · have hd := drop_pred HLEN.out h0 HKL.out Hd.out (by omega)
              have HD := Lib.hid hd
              clear hd
              have hne : (((la[k - 1]?.getD 0 : Nat) : Int) != ((lb[k - 1]?.getD 0 : Nat) : Int)) = false := by rw [bne_eq_false_iff_eq]; omega
              go_wp2
              go_region
              go_wp2
              go_roundw
              case rel => exact ⟨k - 1, by omega, by go_num, HD.out, HBEL.out.drew⟩
              case measure => simp [intOf]; omega
end Go.Proofs.YtocbklodkcdhkaaGreatDoor

namespace Go.Proofs.YtocbklodkcdhkaaGreatDoor
open Go.RowKit

theorem rdig_len_of {n k K : Nat} (h : n < 2 ^ k) (hk : k ≤ 16 * K) : (dig RB n).length ≤ K := by
  apply dig_length_le RB_two
  have e : RB = 2 ^ 16 := by rw [RB_eq]
  rw [e, ← Nat.pow_mul]
  exact Nat.lt_of_lt_of_le h (Nat.pow_le_pow_right (by omega) hk)
theorem Num.rdig_len {k : Nat} {b : Bool} {s : ByteArray} {z : Int} (h : Num k b s z) (hk : k ≤ 1000000000) : (dig RB z.natAbs).length ≤ 1000000000 :=
  rdig_len_of h.sm (by omega)
theorem digits_num {k : Nat} {b : Bool} {s : ByteArray} {z : Int} (h : Num k b s z) (hk : k ≤ 1000000000) (w : World) :
    Calls Tryz.prog 74 #[.agg #[.bool b, .string s]] w (GivesDig z.natAbs w) := by
  have := digits_any b s w (h.size hk)
  rwa [h.natAbs] at this
theorem rwide_dig (m : Nat) (A : Option Addr) (na ca : Nat) (neg : Bool) (w : World) (ha : Wd .i64 w w.heap.size A (dig RB m)) (hna : (dig RB m).length = na) (hsa : na ≤ 1000000000) (hca : na ≤ ca) (hca2 : ca ≤ 9223372036854775807) :
    Calls Tryz.prog 59 #[.bool neg, .slice A na ca] w fun e w' => e = .returned (wv (neg && decide (m ≠ 0)) m) ∧ Below w.heap.size w w' := by
  have h := rwide_any (dig RB m) A na ca neg w (dig_Dl RB_two m) ha hna hsa hca hca2
  rwa [val_dig RB_two] at h

set_option maxRecDepth 100000 in
set_option maxHeartbeats 1000000 in
theorem RNeg_any {k1 : Nat} {b1 : Bool} {s1 : ByteArray} {z1 : Int} (h1 : Num k1 b1 s1 z1) (hk1 : k1 ≤ 1000000000) (w : World) :
    Calls Tryz.prog 57 #[.agg #[.bool b1, .string s1]] w (GivesW (k1 + 7) (-z1) w) := by
  have H1 := Lib.hid h1
  clear h1
  go_enter Tryz.func57, Tryz.ntmps57
  go_wp2_with fail
  have hm1 := H1.out.rdig_len (by omega)
  obtain ⟨W0, hW0⟩ : ∃ W0, W0 = (w.alloc (.cells #[.bool b1, .string s1] 43)).alloc (.cells #[.bool false, .string ⟨#[]⟩] 43) := ⟨_, rfl⟩
  rw [← hW0]
  obtain ⟨f1, f2, f5, f6, f7, f8, hblk, hbel, hsz⟩ := box1res _ _ _ _ _ _ _ _ hW0
  clear hW0
  have HBLK := Lib.hid hblk
  have HSZ := Lib.hid hsz
  have HBEL := Lib.hid hbel
  clear hblk hsz hbel
  go_region_held3 (fun w' => w'.cell? ⟨w.heap.size, 0, none⟩ = some (.bool b1) ∧ w'.cell? ⟨w.heap.size, 1, none⟩ = some (.string s1))
    (first
      | (go_keep; done)
      | ((try go_split_ands); (try dsimp only); (repeat' apply And.intro) <;> first | assumption | exact keepCell (by assumption) (by assumption) | exact keepSet (keepSet (by assumption) (by dsimp only; omega)) (by dsimp only; omega) | go_keep))
    (first
      | (go_at_call 74; refine (digits_num H1.out (by omega) _).mono ?_; rintro e wA ⟨A1, n1, c1, rfl, hl1, hn1, hc1, hw1, hb1⟩)
      | (go_at_call 59; refine (rwide_dig z1.natAbs A1 n1 c1 _ _ hw1 hl1 (by omega) hn1 hc1).mono ?_; rintro e wD ⟨rfl, hb4⟩; unfold wv; have hr1 := keepCell hb4 (keepCell hb1 f5); have hr2 := keepCell hb4 (keepCell hb1 f6); have hr3 := keepFree hb4 (keepCell hb1 f5) (keepFree hb1 f5 f7); have hr4 := keepFree hb4 (keepCell hb1 f6) (keepFree hb1 f6 f8)))
  go_wp2
  have hblk := res_box2 (x := Value.bool (!b1 && !decide (z1 = 0))) (y := .string ⟨(mag z1.natAbs).toArray⟩) (keepBlk hb4 (keepBlk hb1 HBLK.out))
  refine bodyPost_ret (results_cell_row rfl _ _ (w.heap.size + 1) 43 _ (0, 0) _ rfl hblk Tryz.underlying43 rfl (by kernel_rfl)) rfl ?_
  have e : (!b1 && !decide (z1 = 0)) = ((!b1) && decide (z1.natAbs ≠ 0)) := by cases b1 <;> simp
  rw [e]
  refine gives_wv (by rw [Int.natAbs_neg]) (neg_sign H1.out) H1.out.sm.neg ?_
  have hsz := HSZ.out
  have h1 : w.heap.size + 2 ≤ wA.heap.size := by have := hb1.size; rw [← hsz]; exact this
  exact ((keepBel hb4 (keepBel hb1 HBEL.out.drew (by show _ ≤ W0.heap.size; omega)) (by omega)).setCell (p := ⟨w.heap.size + 1, 0, none⟩) (by simp) _).setCell (p := ⟨w.heap.size + 1, 1, none⟩) (by simp) _

end Go.Proofs.YtocbklodkcdhkaaGreatDoor

namespace Go.Proofs.YtocbklodkcdhkaaGreatDoor
open Go.RowKit

theorem from_len {V j m n : Nat} (h : V + RB ^ j * m = n) (hn : n < 18446744073709551616) (hm : 0 < m) : j ≤ 4 := by
  rcases Nat.lt_or_ge 4 j with h4 | h4
  · have h1 : RB ^ 4 ≤ RB ^ j := Nat.pow_le_pow_right RB_pos (by omega)
    have h2 : RB ^ j * 1 ≤ RB ^ j * m := Nat.mul_le_mul_left _ hm
    have h3 : RB ^ 4 = 18446744073709551616 := by rw [RB_eq]
    omega
  · exact h4
theorem from_div (m : Nat) : Value.int .u64 ((m : Int) / 65536) = .int .u64 ((m / RB : Nat) : Int) := by rw [RB_eq, Int.natCast_ediv]; rfl
theorem from_mod (m : Nat) : (m : Int) % 65536 = ((m % RB : Nat) : Int) := by rw [RB_eq, Int.natCast_emod]; rfl
theorem from_lt {m : Nat} (h : m < 18446744073709551616) : m / RB < 18446744073709551616 := Nat.lt_of_le_of_lt (Nat.div_le_self _ _) h
theorem from_step {l : List Nat} {j m n : Nat} (hl : l.length = j) (h : val RB l + RB ^ j * m = n) : val RB (l ++ [m % RB]) + RB ^ (j + 1) * (m / RB) = n := by
  rw [val_snoc, hl, Nat.pow_succ, Nat.mul_assoc, Nat.add_assoc, ← Nat.mul_add, Nat.mod_add_div, h]

set_option maxRecDepth 100000 in
set_option maxHeartbeats 2000000 in
theorem RFrom_any (n : Int) (hn1 : -9223372036854775808 ≤ n) (hn2 : n ≤ 9223372036854775807) (w : World) :
    Calls Tryz.prog 34 #[.int .i64 n] w (GivesW 71 n w) := by
  obtain ⟨i0, hi, hz0, hz1, hz2⟩ := info_parts info_int
  by_cases h0 : n < 0
  · have hm : (IntKind.u64.wrap (-IntKind.u64.wrap n)) = ((n.natAbs : Nat) : Int) := by simp only [IntKind.wrap_u64]; omega
    have HM := Lib.hid hm
    clear hm
    have hlt : n.natAbs < 18446744073709551616 := by omega
    have HLT := Lib.hid hlt
    clear hlt
    go_enter Tryz.func34, Tryz.ntmps34
    go_wp2
    go_loopw [3, 4] (fun v mv wr => ∃ (j m cap : Nat) (A : Option Addr) (l : List Nat), mv = .int .u64 (m : Int) ∧ v = .slice A j cap ∧ m < 18446744073709551616 ∧
        wr.ownsRow (w.heap.size + 1) 3 1 (.slice A j cap) j (l.map fun d : Nat => Value.int .i64 (d : Int)) ∧ Hid (l.length = j) ∧ Dl RB l ∧ Hid (val RB l + RB ^ j * m = n.natAbs) ∧ (0 < m ∨ j ≤ 5) ∧
        Below (w.heap.size + 1) (w.alloc (.cells #[.bool false, .string ⟨#[]⟩] 43)) wr) (fun _ mv _ => (intOf mv).toNat)
    case atStart => exact ⟨0, n.natAbs, 0, none, [], by rw [← HM.out], rfl, HLT.out, ⟨rfl, .inl ⟨rfl, rfl⟩⟩, rfl, Dl.nil _, by simp [Hid, val], by omega, Below.refl _ _⟩
    case round =>
      obtain ⟨j, m, cap, A, l, rfl, rfl, hm64, hown, Hlen, dl, Hv, hj, hbel⟩ := hrel
      have HBEL := Lib.hid hbel
      have hsz := hbel.size
      rw [World.size_alloc] at hsz
      clear hbel
      by_cases h0 : 0 < m
      · have hj4 : j ≤ 4 := from_len Hv.out HLT.out h0
        go_wp2_with (at_builtin; refine wpList_append_own _ rfl _ _ 50 rfl (w.heap.size + 1) 3 i0 (.int .i64 0) 1 8 Tryz.underlying50 hi hz0 hz1 hz2 rfl (by decide) _ _ _ rfl (hown.alloc _) ⟨wr.heap.size, 0, none⟩ 1 1 [_] rfl rfl (cell_one_new _ _ _) (by simp [Value.oneCell']) (by unfold maxLen; omega) (by omega) (by simp; omega) ?_; intro v' w1 hown' hgrow _; obtain ⟨g', cap', rfl⟩ := ownsRow_succ hown'; have hb1 := HBEL.out.trans (((Below.refl _ wr).alloc hsz _).grown hgrow (by simp; omega) (by intro k hk; exact own_block_ge hown hk)))
        go_roundw
        case rel =>
          refine ⟨j + 1, m / RB, cap', _, l ++ [m % RB], from_div m, rfl, from_lt hm64, own_snoc hown' (from_mod m), by rw [Hid, List.length_append, Hlen.out]; rfl, dl.append (Dl.one (Nat.mod_lt _ RB_pos)), from_step Hlen.out Hv.out, by omega, hb1⟩
        case measure => simp [intOf]; omega
      · obtain rfl : m = 0 := by omega
        have HCAP := Lib.hid (own_cap hown)
        have HWD : Hid (Wd .i64 wr wr.heap.size A l) := by have h := hown; rw [← Hlen.out] at h; exact own_wd h
        have hblk : wr.heap[w.heap.size]? = some (.cells #[.bool false, .string ⟨#[]⟩] 43 (0, 0)) := (HBEL.out.block _ (by omega)).trans (heap_alloc_new w _)
        have HB2 : Hid (Below w.heap.size w wr) := ((Below.refl _ w).alloc (Nat.le_refl _) _).trans (HBEL.out.mono (by omega))
        have HVV : Hid (val RB l = n.natAbs) := by have h := Hv.out; rw [Nat.mul_zero, Nat.add_zero] at h; exact h
        clear hown
        go_wp2_with fail
        refine (rwide_any l A j cap _ _ dl HWD.out Hlen.out (by omega) HCAP.out.1 HCAP.out.2).mono ?_
        rintro e wD ⟨rfl, hb4⟩
        rw [HVV.out]
        unfold wv
        have hblk2 := keepBlk hb4 hblk
        have g5 := cell_of_row _ _ 0 _ _ _ hblk2
        have g6 := cell_of_row _ _ 1 _ _ _ hblk2
        have g7 := frozen_of_row _ _ 0 _ _ hblk2
        have g8 := frozen_of_row _ _ 1 _ _ hblk2
        have HB4 := Lib.hid (keepBel hb4 HB2.out (by omega))
        have HBLK := Lib.hid hblk2
        clear hblk hblk2 hb4
        go_wp2
        refine bodyPost_ret (results_cell_row rfl _ _ w.heap.size 43 _ (0, 0) _ rfl (res_box2 HBLK.out) Tryz.underlying43 rfl (by kernel_rfl)) rfl ?_
        have hz : Sm 64 n := Sm.int hn1 hn2
        exact gives_close (k := 64) true (n := n.natAbs) (by simp) rfl (fun h => by simp; omega) hz ((HB4.out.setCell (p := ⟨w.heap.size, 0, none⟩) (Nat.le_refl _) _).setCell (p := ⟨w.heap.size, 1, none⟩) (Nat.le_refl _) _)
  · have hm : n = ((n.natAbs : Nat) : Int) := by omega
    have HM := Lib.hid hm
    clear hm
    have hlt : n.natAbs < 18446744073709551616 := by omega
    have HLT := Lib.hid hlt
    clear hlt
    go_enter Tryz.func34, Tryz.ntmps34
    go_wp2
    go_loopw [3, 4] (fun v mv wr => ∃ (j m cap : Nat) (A : Option Addr) (l : List Nat), mv = .int .u64 (m : Int) ∧ v = .slice A j cap ∧ m < 18446744073709551616 ∧
        wr.ownsRow (w.heap.size + 1) 3 1 (.slice A j cap) j (l.map fun d : Nat => Value.int .i64 (d : Int)) ∧ Hid (l.length = j) ∧ Dl RB l ∧ Hid (val RB l + RB ^ j * m = n.natAbs) ∧ (0 < m ∨ j ≤ 5) ∧
        Below (w.heap.size + 1) (w.alloc (.cells #[.bool false, .string ⟨#[]⟩] 43)) wr) (fun _ mv _ => (intOf mv).toNat)
    case atStart => exact ⟨0, n.natAbs, 0, none, [], by rw [← HM.out], rfl, HLT.out, ⟨rfl, .inl ⟨rfl, rfl⟩⟩, rfl, Dl.nil _, by simp [Hid, val], by omega, Below.refl _ _⟩
    case round =>
      obtain ⟨j, m, cap, A, l, rfl, rfl, hm64, hown, Hlen, dl, Hv, hj, hbel⟩ := hrel
      have HBEL := Lib.hid hbel
      have hsz := hbel.size
      rw [World.size_alloc] at hsz
      clear hbel
      by_cases h0 : 0 < m
      · have hj4 : j ≤ 4 := from_len Hv.out HLT.out h0
        go_wp2_with (at_builtin; refine wpList_append_own _ rfl _ _ 50 rfl (w.heap.size + 1) 3 i0 (.int .i64 0) 1 8 Tryz.underlying50 hi hz0 hz1 hz2 rfl (by decide) _ _ _ rfl (hown.alloc _) ⟨wr.heap.size, 0, none⟩ 1 1 [_] rfl rfl (cell_one_new _ _ _) (by simp [Value.oneCell']) (by unfold maxLen; omega) (by omega) (by simp; omega) ?_; intro v' w1 hown' hgrow _; obtain ⟨g', cap', rfl⟩ := ownsRow_succ hown'; have hb1 := HBEL.out.trans (((Below.refl _ wr).alloc hsz _).grown hgrow (by simp; omega) (by intro k hk; exact own_block_ge hown hk)))
        go_roundw
        case rel =>
          refine ⟨j + 1, m / RB, cap', _, l ++ [m % RB], from_div m, rfl, from_lt hm64, own_snoc hown' (from_mod m), by rw [Hid, List.length_append, Hlen.out]; rfl, dl.append (Dl.one (Nat.mod_lt _ RB_pos)), from_step Hlen.out Hv.out, by omega, hb1⟩
        case measure => simp [intOf]; omega
      · obtain rfl : m = 0 := by omega
        have HCAP := Lib.hid (own_cap hown)
        have HWD : Hid (Wd .i64 wr wr.heap.size A l) := by have h := hown; rw [← Hlen.out] at h; exact own_wd h
        have hblk : wr.heap[w.heap.size]? = some (.cells #[.bool false, .string ⟨#[]⟩] 43 (0, 0)) := (HBEL.out.block _ (by omega)).trans (heap_alloc_new w _)
        have HB2 : Hid (Below w.heap.size w wr) := ((Below.refl _ w).alloc (Nat.le_refl _) _).trans (HBEL.out.mono (by omega))
        have HVV : Hid (val RB l = n.natAbs) := by have h := Hv.out; rw [Nat.mul_zero, Nat.add_zero] at h; exact h
        clear hown
        go_wp2_with fail
        refine (rwide_any l A j cap _ _ dl HWD.out Hlen.out (by omega) HCAP.out.1 HCAP.out.2).mono ?_
        rintro e wD ⟨rfl, hb4⟩
        rw [HVV.out]
        unfold wv
        have hblk2 := keepBlk hb4 hblk
        have g5 := cell_of_row _ _ 0 _ _ _ hblk2
        have g6 := cell_of_row _ _ 1 _ _ _ hblk2
        have g7 := frozen_of_row _ _ 0 _ _ hblk2
        have g8 := frozen_of_row _ _ 1 _ _ hblk2
        have HB4 := Lib.hid (keepBel hb4 HB2.out (by omega))
        have HBLK := Lib.hid hblk2
        clear hblk hblk2 hb4
        go_wp2
        refine bodyPost_ret (results_cell_row rfl _ _ w.heap.size 43 _ (0, 0) _ rfl (res_box2 HBLK.out) Tryz.underlying43 rfl (by kernel_rfl)) rfl ?_
        have hz : Sm 64 n := Sm.int hn1 hn2
        exact gives_close (k := 64) false (n := n.natAbs) (by simp; omega) rfl (fun h => by simp; omega) hz ((HB4.out.setCell (p := ⟨w.heap.size, 0, none⟩) (Nat.le_refl _) _).setCell (p := ⟨w.heap.size, 1, none⟩) (Nat.le_refl _) _)
end Go.Proofs.YtocbklodkcdhkaaGreatDoor

namespace Go.Proofs.YtocbklodkcdhkaaGreatDoor
open Go.RowKit

set_option maxRecDepth 100000 in
set_option maxHeartbeats 1000000 in
theorem RSign_any {k1 : Nat} {b1 : Bool} {s1 : ByteArray} {z1 : Int} (h1 : Num k1 b1 s1 z1) (hk1 : k1 ≤ 1000000000) (w : World) :
    Calls Tryz.prog 55 #[.agg #[.bool b1, .string s1]] w fun e w' => e = .returned (.int .i64 z1.sign) ∧ Below w.heap.size w w' := by
  have H1 := Lib.hid h1
  clear h1
  go_enter Tryz.func55, Tryz.ntmps55
  go_wp2_with fail
  refine (digits_num H1.out (by omega) _).mono ?_
  rintro e wA ⟨A1, n1, c1, rfl, hl1, hn1, hc1, hw1, hb1⟩
  have hz : (n1 = 0 ↔ z1 = 0) := by rw [← hl1, dig_len_zero RB_two]; omega
  have HZ := Lib.hid hz
  have g1 : wA.cell? ⟨w.heap.size, 0, none⟩ = some (.bool b1) := keepCell hb1 (by simp [go_sem])
  have HB : Hid (Below w.heap.size w wA) := keepBel hb1 ((Below.refl _ w).alloc (Nat.le_refl _) _) (by simp)
  clear hz hl1 hn1 hc1 hw1 hb1
  by_cases hn : n1 = 0
  · have HZ0 := Lib.hid (HZ.out.1 hn)
    have hnb : ((n1 : Int) == 0) = true := by simpa using hn
    clear hn
    go_wp2_with fail
    go_ret
    exact ⟨ret_eq (by rw [HZ0.out]; rfl), HB.out⟩
  · have hnb : ((n1 : Int) == 0) = false := by simpa using hn
    have hz1 : z1 ≠ 0 := fun e => hn (HZ.out.2 e)
    have HI := Lib.hid (ival_neg_iff H1.out hz1)
    clear hn hz1
    cases b1
    · go_wp2_with fail
      go_ret
      have hi := HI.out
      refine ⟨ret_eq ?_, HB.out⟩
      have : 0 < z1 := by simp at hi; have := mt HZ.out.2 (by intro h; rw [h] at hnb; simp at hnb); omega
      rw [Int.sign_eq_one_of_pos this]; rfl
    · go_wp2_with fail
      go_ret
      have hi := HI.out
      refine ⟨ret_eq ?_, HB.out⟩
      have : z1 < 0 := by simpa using hi
      rw [Int.sign_eq_neg_one_of_neg this]; rfl

end Go.Proofs.YtocbklodkcdhkaaGreatDoor
