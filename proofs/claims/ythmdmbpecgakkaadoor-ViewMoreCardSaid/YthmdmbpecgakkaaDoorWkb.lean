/- ref trim: the zeros at the end are left out. ref digits: the digits to the base 65536. ref wide: the canonical number with some digits. ref times. ref plus and minus. ref minus. ref compare. ref Mul, Neg, Add, Sub. ref From. ref Sign, Cmp. -/
import Derived.Test.YthmdmbpecgakkaaDoorWka
import Derived.Maps.AppendAt
import Derived.RangeFuncBox
namespace Go.Proofs.YthmdmbpecgakkaaDoor
open Go.RowKit
set_option maxHeartbeats 400000 in
theorem trim_any (l : List Nat) (A : Option Addr) (n c B : Nat) (w : World) (hn : l.length = n) (hnc : n ≤ c) (hc : c ≤ 9223372036854775807) (h : Wd .i64 w B A l) :
  Calls Tryd.prog 68 #[.slice A n c] w fun e w' => e = .returned (.slice A (tlen l) c) ∧ w = w' := by
 have H := Lib.hid h
 clear h
 go_enter Tryd.func68, Tryd.ntmps68
 go_wp2
 go_loop [0] (fun a => ∃ k : Nat, k ≤ n ∧ a = .slice A k c ∧ ∀ j, k ≤ j → l[j]?.getD 0 = 0) (fun a => match a with | .slice _ k _ => k | _ => 0)
 case atStart => exact ⟨n, Nat.le_refl _, rfl, fun j hj => by rw [List.getElem?_eq_none (by omega)]; rfl⟩
 case round =>
  obtain ⟨k, hk, rfl, hz⟩ := hrel
  have HZ := Lib.hid hz
  clear hz
  by_cases hk0 : k = 0
  ·subst hk0
   go_wp2
   go_ret
   exact ⟨by rw [tlen_eq (k := 0) (by omega) (fun j hj => by rw [List.getD_eq_getElem?_getD]; exact HZ.out j hj) (Or.inl rfl)]; rfl, rfl⟩
  ·obtain ⟨ad, rfl, hcell⟩ := H.out.get (k := k - 1) (by omega)
   by_cases hx : l[k - 1]?.getD 0 = 0
   ·go_wp2
    go_round
    case rel => exact ⟨k - 1, by omega, rfl, fun j hj => by
     by_cases e : j = k - 1
     ·rw [e]; exact hx
     ·exact HZ.out j (by omega)⟩
    case measure => show k - 1 < k; omega
   ·go_wp2
    go_ret
    exact ⟨by rw [tlen_eq (k := k) (by omega) (fun j hj => by rw [List.getD_eq_getElem?_getD]; exact HZ.out j hj) (Or.inr (by rw [List.getD_eq_getElem?_getD]; exact hx))]; rfl, rfl⟩
end Go.Proofs.YthmdmbpecgakkaaDoor

namespace Go.Proofs.YthmdmbpecgakkaaDoor
open Go.RowKit

def RB : Nat := 65536
theorem RB_eq : RB = 65536 := rfl
theorem RB_two : 2 ≤ RB := by rw [RB_eq]; omega
theorem RB_pos : 0 < RB := by rw [RB_eq]; omega
theorem info_int : (Tryd.prog.info? 3).map (fun i => (i.zero, i.size, i.bytes)) = some (some (.int .i64 0), 1, 8) := by kernel_rfl

def GivesDig (n : Nat) (w : World) (e : Ending) (w' : World) : Prop :=
 ∃ A k c, e = .returned (.slice A k c) ∧ (dig RB n).length = k ∧ k ≤ c ∧ c ≤ 9223372036854775807 ∧ Wd .i64 w' w'.heap.size A (dig RB n) ∧ Below w.heap.size w w'

theorem gives_trim {w w' : World} {l : List Nat} {A : Option Addr} {c : Nat} (hb : Below w.heap.size w w') (hwd : Wd .i64 w' w'.heap.size A l) (hd : Dl RB l) (hn : l.length ≤ c) (hc : c ≤ 9223372036854775807) :
  GivesDig (val RB l) w (.returned (.slice A (tlen l) c)) w' := by
 have ht := take_tlen RB_two hd
 have hl := tlen_le l
 refine ⟨A, tlen l, c, rfl, ?_, by omega, hc, ?_, hb⟩
 ·rw [← ht, List.length_take]; omega
 ·rw [← ht]; exact hwd.take _

theorem own_wd {q : IntKind} {w : World} {base : Nat} {e : TypeId} {A : Option Addr} {c : Nat} {l : List Nat} (h : w.ownsRow base e 1 (.slice A l.length c) l.length (l.map fun d : Nat => Value.int q (d : Int))) : Wd q w w.heap.size A l := fun hn => by
 rcases h.2 with ⟨h', _⟩ | ⟨g, cap, cur, h', hb, hg, _⟩
 ·simp at h'; omega
 ·have hA : A = some ⟨g, 0, none⟩ := by injection h'
  subst hA
  refine ⟨_, rfl, (Array.getElem?_eq_some_iff.1 hg).1, fun i hi => ?_⟩
  have e1 : (Addr.add ⟨g, 0, none⟩ i) = ⟨g, i, none⟩ := by unfold Addr.add; split <;> simp_all
  rw [e1, h.cellAt i (by omega)]
  simp [List.getElem?_eq_getElem hi]
theorem own_cap {w : World} {base : Nat} {e : TypeId} {A : Option Addr} {n c : Nat} {xs : List Value} {size : Nat} (h : w.ownsRow base e size (.slice A n c) n xs) : n ≤ c ∧ c ≤ 9223372036854775807 := by
 rcases h.2 with ⟨h', h0⟩ | ⟨g, cap, cur, h', hb, hg, hn, hm, _⟩
 ·simp at h'; omega
 ·simp at h'
  unfold maxLen at hm
  omega

theorem own_block_ge {w : World} {base : Nat} {e : TypeId} {size n k : Nat} {v : Value} {xs : List Value} (h : w.ownsRow base e size v n xs) (hk : v.ownBlock = some k) : base ≤ k := by
 rcases h.2 with ⟨rfl, _⟩ | ⟨g, cap, cur, rfl, hb, _⟩
 ·simp [Value.ownBlock] at hk
 ·simp [Value.ownBlock] at hk; omega

theorem own_snoc {q : IntKind} {w : World} {base n d : Nat} {e : TypeId} {v : Value} {l : List Nat} {z : Int} (h : w.ownsRow base e 1 v n (l.map (fun d : Nat => Value.int q (d : Int)) ++ [.int q z])) (hz : z = d) :
  w.ownsRow base e 1 v n ((l ++ [d]).map fun d : Nat => Value.int q (d : Int)) := by
 subst hz; rw [List.map_append]; exact h
theorem byte_get (s : ByteArray) (i : Nat) (h : i < s.size) : s.data.toList[i]? = some s[i] := by
 rw [Array.getElem?_toList, Array.getElem?_eq_getElem (by exact h)]; rfl

theorem wrap_two (x y : UInt8) : wrap64 (wrap64 (x.toNat : Int) + wrap64 (256 * wrap64 (y.toNat : Int))) = ((x.toNat + 256 * y.toNat : Nat) : Int) := by
 have h1 := UInt8.toNat_lt x
 have h2 := UInt8.toNat_lt y
 simp only [wrap64]; omega
theorem wrap_one (x : UInt8) : wrap64 (x.toNat : Int) = ((x.toNat : Nat) : Int) := by
 have h1 := UInt8.toNat_lt x
 simp only [wrap64]; omega
theorem two_lt (x y : UInt8) : x.toNat + 256 * y.toNat < RB := by
 have h1 := UInt8.toNat_lt x
 have h2 := UInt8.toNat_lt y
 rw [RB_eq]; omega
theorem one_lt (x : UInt8) : x.toNat < RB := by
 have h1 := UInt8.toNat_lt x
 rw [RB_eq]; omega

set_option maxRecDepth 100000 in
set_option maxHeartbeats 1000000 in
theorem digits_any (neg : Bool) (s : ByteArray) (w : World) (hs : s.size ≤ 1000000000) :
  Calls Tryd.prog 54 #[.agg #[.bool neg, .string s]] w (GivesDig (mval s.data.toList) w) := by
 obtain ⟨i0, hi, hz0, hz1, hz2⟩ := info_parts info_int
 go_enter Tryd.func54, Tryd.ntmps54
 go_wp2
 go_loopw [3,5] (fun v i wr => ∃ (j c : Nat) (A : Option Addr) (l : List Nat), 2 * j ≤ s.size + 1 ∧ i = .int .i64 ((s.size : Int) - 2 * (j : Int)) ∧ v = .slice A j c ∧ wr.cell? ⟨w.heap.size, 1, none⟩ = some (.string s) ∧
   wr.ownsRow (w.heap.size + 1) 3 1 (.slice A j c) j (l.map fun d : Nat => Value.int .i64 (d : Int)) ∧ Hid (l.length = j) ∧ Dl RB l ∧
   Hid (val RB l = mval (s.data.toList.drop (s.size - 2 * j))) ∧ Below (w.heap.size + 1) (w.alloc (.cells #[.bool neg, .string s] 48)) wr) (fun _ i _ => (intOf i + 1).toNat)
 case atStart => exact ⟨0, 0, none, [], by omega, by go_num, rfl, by simp [go_sem], ⟨rfl, .inl ⟨rfl, rfl⟩⟩, rfl, Dl.nil _, by rw [Hid, List.drop_of_length_le (by simp)]; rfl, Below.refl _ _⟩
 case round =>
  obtain ⟨j, c, A, l, hj, rfl,rfl,hstr, hown, Hlen, dl, Hv, hbel⟩ := hrel
  have hsz := hbel.size
  rw [World.size_alloc] at hsz
  by_cases h0 : s.size ≤ 2 * j
  ·have HV : Hid (val RB l = mval s.data.toList) := by have h := Hv.out; rw [show s.size - 2 * j = 0 from by omega, List.drop_zero] at h; exact h
   have HCAP := Lib.hid (own_cap hown)
   have HWD : Hid (Wd .i64 wr wr.heap.size A l) := by have h := hown; rw [← Hlen.out] at h; exact own_wd h
   have HB : Hid (Below w.heap.size w wr) := ((Below.refl _ w).alloc (Nat.le_refl _) _).trans (hbel.mono (by omega))
   clear hown hbel hstr
   go_wp2_with (go_at_call 68; refine (trim_any l A j c _ _ Hlen.out HCAP.out.1 HCAP.out.2 HWD.out).mono ?_; rintro e w' ⟨rfl, rfl⟩)
   go_ret
   rw [← HV.out]
   exact gives_trim HB.out HWD.out dl (by rw [Hlen.out]; exact HCAP.out.1) HCAP.out.2
  ·by_cases h1 : s.size ≤ 2 * j + 1
   ·go_wp2_with (at_builtin; refine wpList_append_own _ rfl _ _ 45 rfl (w.heap.size + 1) 3 i0 (.int .i64 0) 1 8 Tryd.underlying45 hi hz0 hz1 hz2 rfl (by decide) _ _ _ rfl (hown.alloc _) ⟨wr.heap.size, 0, none⟩ 1 1 [_] rfl rfl (cell_one_new _ _ _) (by simp [Value.oneCell']) (by unfold maxLen; omega) (by omega) (by simp; omega) ?_; intro v' w1 hown' hgrow _; obtain ⟨g', cap', rfl⟩ := ownsRow_succ hown'; have hb1 := hbel.trans (((Below.refl _ wr).alloc hsz _).grown hgrow (by simp; omega) (by intro k hk; exact own_block_ge hown hk)))
    go_roundw
    case rel =>
     have hs2 : s.data.toList.length = s.size := by simp
     have hx := byte_get s (s.size - 2 * j - 1) (by omega)
     refine ⟨j + 1, cap', _, l ++ [(s[s.size - 2 * j - 1]'(by omega)).toNat], by omega, by go_num, rfl, (hb1.cell (p := ⟨w.heap.size, 1, none⟩) (by simp)).trans (by simp [go_sem]), own_snoc hown' (wrap_one _), ?_, dl.append (Dl.one (one_lt _)), ?_, hb1⟩
     ·rw [Hid, List.length_append, Hlen.out]; rfl
     ·have h := Hv.out
      rw [RB_eq] at h
      rw [Hid, RB_eq]
      exact digits_one hs2 Hlen.out (by omega) (by rw [← hx]; congr 1; omega) h
    case measure => simp [intOf]; omega
   ·go_wp2_with (at_builtin; refine wpList_append_own _ rfl _ _ 45 rfl (w.heap.size + 1) 3 i0 (.int .i64 0) 1 8 Tryd.underlying45 hi hz0 hz1 hz2 rfl (by decide) _ _ _ rfl (hown.alloc _) ⟨wr.heap.size, 0, none⟩ 1 1 [_] rfl rfl (cell_one_new _ _ _) (by simp [Value.oneCell']) (by unfold maxLen; omega) (by omega) (by simp; omega) ?_; intro v' w1 hown' hgrow _; obtain ⟨g', cap', rfl⟩ := ownsRow_succ hown'; have hb1 := hbel.trans (((Below.refl _ wr).alloc hsz _).grown hgrow (by simp; omega) (by intro k hk; exact own_block_ge hown hk)))
    go_roundw
    case rel =>
     have hs2 : s.data.toList.length = s.size := by simp
     have hx := byte_get s (s.size - 2 * j - 1) (by omega)
     have hy := byte_get s (s.size - 2 * j - 2) (by omega)
     refine ⟨j + 1, cap', _, l ++ [(s[s.size - 2 * j - 1]'(by omega)).toNat + 256 * (s[s.size - 2 * j - 2]'(by omega)).toNat], by omega, by go_num, rfl, (hb1.cell (p := ⟨w.heap.size, 1, none⟩) (by simp)).trans (by simp [go_sem]), own_snoc hown' (wrap_two _ _), ?_, dl.append (Dl.one (two_lt _ _)), ?_, hb1⟩
     ·rw [Hid, List.length_append, Hlen.out]; rfl
     ·have h := Hv.out
      rw [RB_eq] at h
      rw [Hid, RB_eq]
      exact digits_two hs2 Hlen.out (by omega) hx hy h
    case measure => simp [intOf]; omega
end Go.Proofs.YthmdmbpecgakkaaDoor

namespace Go.Proofs.YthmdmbpecgakkaaDoor
open Go.RowKit

theorem u8_div {d : Nat} (h : d < 65536) : (d : Int) / 256 = ((UInt8.ofNat (d / 256)).toNat : Int) := by rw [UInt8.toNat_ofNat']; omega
theorem u8_mod (d : Nat) : (d : Int) % 256 = ((UInt8.ofNat (d % 256)).toNat : Int) := by rw [UInt8.toNat_ofNat']; omega
theorem own_bsnoc {w : World} {base n : Nat} {b : UInt8} {e : TypeId} {v : Value} {l : List UInt8} {z : Int} (h : w.ownsRow base e 1 v n (l.map (fun b : UInt8 => Value.int .u8 (b.toNat : Int)) ++ [.int .u8 z])) (hz : z = b.toNat) :
  w.ownsRow base e 1 v n ((l ++ [b]).map fun b : UInt8 => Value.int .u8 (b.toNat : Int)) := by
 subst hz; rw [List.map_append]; exact h
theorem own_bsnoc_l {w : World} {base n : Nat} {b : UInt8} {e : TypeId} {v x : Value} {l : List UInt8} {z : Int} (h : w.ownsRow base e 1 v n (l.map (fun b : UInt8 => Value.int .u8 (b.toNat : Int)) ++ [.int .u8 z] ++ [x])) (hz : z = b.toNat) :
  w.ownsRow base e 1 v n ((l ++ [b]).map (fun b : UInt8 => Value.int .u8 (b.toNat : Int)) ++ [x]) := by
 subst hz; rw [List.map_append]; exact h
theorem two_bytes {zs : List Nat} {bs : List UInt8} {k : Nat} (h0 : 0 < k) (hk : k ≤ zs.length) (hd : Dl RB zs) (h : mval bs = val RB (zs.drop k)) :
  mval (bs ++ [UInt8.ofNat (zs[k - 1]?.getD 0 / 256)] ++ [UInt8.ofNat (zs[k - 1]?.getD 0 % 256)]) = val RB (zs.drop (k - 1)) := by
 have h1 := hd.get (k - 1) (by omega)
 rw [val_drop RB zs (k - 1) (by omega), show k - 1 + 1 = k from by omega, mval_snoc, mval_snoc, h, getD_get (show k - 1 < zs.length by omega)]
 rw [RB_eq] at h1 ⊢
 rw [UInt8.toNat_ofNat', UInt8.toNat_ofNat']
 omega
theorem one_byte {zs : List Nat} {bs : List UInt8} {k : Nat} (h0 : 0 < k) (hk : k ≤ zs.length) (hl : zs[k - 1]?.getD 0 < 256) (hb : bs = []) (h : mval bs = val RB (zs.drop k)) :
  mval (bs ++ [UInt8.ofNat (zs[k - 1]?.getD 0 % 256)]) = val RB (zs.drop (k - 1)) := by
 rw [getD_get (show k - 1 < zs.length by omega)] at hl ⊢
 rw [val_drop RB zs (k - 1) (by omega), show k - 1 + 1 = k from by omega, mval_snoc, ← h, hb]
 simp [mval, val]
 omega

theorem ofNat_ne {d : Nat} (h : 0 < d) (h2 : d < 256) : UInt8.ofNat d ≠ 0 := fun e => by
 have := congrArg UInt8.toNat e
 rw [UInt8.toNat_ofNat'] at this
 simp at this
 omega
theorem head_two {zs : List Nat} {bs : List UInt8} {k nz : Nat} (h0 : 0 < k) (_hh : (k < nz → bs ≠ [] ∧ bs.head? ≠ some 0) ∧ (k = nz → bs = [])) (hz : k ≤ nz ∧ zs[k - 1]?.getD 0 < 65536) (hb : bs = [] → 256 ≤ zs[k - 1]?.getD 0) :
  (k - 1 < nz → bs ++ [UInt8.ofNat (zs[k - 1]?.getD 0 / 256)] ++ [UInt8.ofNat (zs[k - 1]?.getD 0 % 256)] ≠ [] ∧ (bs ++ [UInt8.ofNat (zs[k - 1]?.getD 0 / 256)] ++ [UInt8.ofNat (zs[k - 1]?.getD 0 % 256)]).head? ≠ some 0) ∧
  (k - 1 = nz → bs ++ [UInt8.ofNat (zs[k - 1]?.getD 0 / 256)] ++ [UInt8.ofNat (zs[k - 1]?.getD 0 % 256)] = []) := by
 refine ⟨fun _ => ⟨by simp, ?_⟩, fun h => by omega⟩
 cases bs with
 | nil =>
  have := hb rfl
  simpa using ofNat_ne (d := zs[k - 1]?.getD 0 / 256) (by omega) (by omega)
 | cons b bs =>
  have hlt : k < nz := by
   rcases Nat.lt_or_ge k nz with h | h
   ·exact h
   ·have := _hh.2 (by omega); cases this
  have := (_hh.1 hlt).2
  simpa using this
theorem head_one {zs : List Nat} {bs : List UInt8} {k nz : Nat} (h0 : 0 < k) (_hh : (k < nz → bs ≠ [] ∧ bs.head? ≠ some 0) ∧ (k = nz → bs = [])) (hk : k = nz) (ht : 0 < nz → zs[nz - 1]?.getD 0 ≠ 0) (hl : zs[k - 1]?.getD 0 < 256) :
  (k - 1 < nz → bs ++ [UInt8.ofNat (zs[k - 1]?.getD 0 % 256)] ≠ [] ∧ (bs ++ [UInt8.ofNat (zs[k - 1]?.getD 0 % 256)]).head? ≠ some 0) ∧ (k - 1 = nz → bs ++ [UInt8.ofNat (zs[k - 1]?.getD 0 % 256)] = []) := by
 refine ⟨fun _ => ⟨by simp, ?_⟩, fun h => by omega⟩
 rw [_hh.2 hk]
 have := ht (by omega)
 rw [← hk] at this
 simpa using ofNat_ne (d := zs[k - 1]?.getD 0 % 256) (by omega) (by omega)

set_option maxRecDepth 100000 in
set_option maxHeartbeats 4000000 in
theorem rwide_any (la : List Nat) (A : Option Addr) (na ca : Nat) (neg : Bool) (w : World) (da : Dl RB la) (ha : Wd .i64 w w.heap.size A la) (hna : la.length = na) (hsa : na ≤ 1000000000) (hca : na ≤ ca) (hca2 : ca ≤ 9223372036854775807) :
  Calls Tryd.prog 52 #[.bool neg, .slice A na ca] w fun e w' => e = .returned (wv (neg && decide (val RB la ≠ 0)) (val RB la)) ∧ Below w.heap.size w w' := by
 obtain ⟨i0, hi, hz0, hz1, hz2⟩ := info_parts info_u8
 have HX := Lib.hid ha
 have Hnx := Lib.hid hna
 have htl := tlen_le la
 have hlk : tlen la ≤ na := by omega
 obtain ⟨zs, hzs⟩ : ∃ zs, zs = la.take (tlen la) := ⟨_, rfl⟩
 have HZL : Hid (zs.length = tlen la) := by rw [Hid, hzs, List.length_take]; omega
 have HZD : Hid (zs = dig RB (val RB la)) := by rw [Hid, hzs]; exact take_tlen RB_two da
 have HZB : Hid (Dl RB zs) := by rw [Hid, hzs]; exact da.take _
 have HZV : Hid (val RB zs = val RB la) := by rw [Hid, HZD.out, val_dig RB_two]
 have hzl0 : Hid (tlen la = 0 ↔ val RB la = 0) := by rw [Hid, ← HZL.out, HZD.out, dig_len_zero RB_two]
 have HZW0 : Hid (Wd .i64 w w.heap.size A zs) := by rw [Hid, hzs]; exact ha.take _
 clear ha hna hzs htl
 have HTRIM : Hid (∀ W : World, Below w.heap.size w W → Calls Tryd.prog 68 #[.slice A na ca] W fun e w' => e = .returned (.slice A (tlen la) ca) ∧ W = w') := fun W hb =>
  trim_any la A na ca w.heap.size W Hnx.out hca hca2 (HX.out.below hb)
 obtain ⟨nz, hnz⟩ : ∃ nz, tlen la = nz := ⟨_, rfl⟩
 rw [hnz] at HZL hlk hzl0 HTRIM
 obtain ⟨V, hV⟩ : ∃ V, val RB la = V := ⟨_, rfl⟩
 rw [hV] at HZV HZD hzl0 ⊢
 have HTOP : Hid (0 < nz → zs[nz - 1]?.getD 0 ≠ 0) := fun h => by
  have h1 := HZD.out
  have h2 := dig_last RB_two V (by rcases Nat.eq_zero_or_pos V with h3 | h3; have := hzl0.out.2 h3; omega; exact h3)
  rw [← h1, HZL.out, List.getD_eq_getElem?_getD] at h2
  exact h2
 clear hnz hV
 by_cases h0 : nz = 0
 ·have HV0 := Lib.hid (hzl0.out.1 h0)
  have hnb : ((nz : Int) == 0) = true := by simpa using h0
  clear h0
  go_enter Tryd.func52, Tryd.ntmps52
  go_wp2_with (go_at_call 68; refine (HTRIM.out _ ((Below.refl _ w).alloc (Nat.le_refl _) _)).mono ?_; rintro e w' ⟨rfl, rfl⟩)
  refine bodyPost_ret (results_cell_row rfl _ _ w.heap.size 48 _ (0, 0) _ rfl (heap_alloc_new w _) Tryd.underlying48 rfl (by kernel_rfl)) rfl ?_
  refine ⟨?_, (Below.refl _ w).alloc (Nat.le_refl _) _⟩
  rw [HV0.out]
  simp [wv, mag_zero]
 ·have hnb : ((nz : Int) == 0) = false := by simpa using h0
  have HVN : Hid (V ≠ 0) := fun h => h0 (hzl0.out.2 h)
  have hnz0 : 0 < nz := by omega
  clear h0 hzl0
  go_enter Tryd.func52, Tryd.ntmps52
  go_wp2_with (go_at_call 68; refine (HTRIM.out _ ((Below.refl _ w).alloc (Nat.le_refl _) _)).mono ?_; rintro e w' ⟨rfl, rfl⟩)
  go_loopw [5,6] (fun v i wr => ∃ (k cap m : Nat) (B : Option Addr) (bs : List UInt8), k ≤ nz ∧ i = .int .i64 ((k : Int) - 1) ∧ v = .slice B m cap ∧
   wr.ownsRow (w.heap.size + 1) 5 1 (.slice B m cap) m (bs.map fun b : UInt8 => Value.int .u8 (b.toNat : Int)) ∧ Hid (bs.length = m) ∧ m ≤ 2 * (nz - k) ∧
   Hid (mval bs = val RB (zs.drop k)) ∧ Hid ((k < nz → bs ≠ [] ∧ bs.head? ≠ some 0) ∧ (k = nz → bs = [])) ∧ Below (w.heap.size + 1) (w.alloc (.cells #[.bool false, .string ⟨#[]⟩] 48)) wr) (fun _ i _ => (intOf i + 1).toNat)
  case atStart => exact ⟨nz, 0, 0, none, [], Nat.le_refl _, rfl,rfl,⟨rfl, .inl ⟨rfl, rfl⟩⟩, rfl, by omega, by rw [Hid, List.drop_of_length_le (by have := HZL.out; omega)]; rfl, ⟨fun h => absurd h (Nat.lt_irrefl _), fun _=>rfl⟩, Below.refl _ _⟩
  case round =>
   obtain ⟨k, cap, m, B, bs, hk, rfl,rfl,hown, Hbl, hm, Hv, HH, hbel⟩ := hrel
   have HBEL := Lib.hid hbel
   have hsz := hbel.size
   rw [World.size_alloc] at hsz
   clear hbel
   rcases Nat.eq_zero_or_pos k with h0 | h0
   ·subst h0
    have HB2 : Hid (Below w.heap.size w wr) := ((Below.refl _ w).alloc (Nat.le_refl _) _).trans (HBEL.out.mono (by omega))
    have hconv := run_string_own (P := Tryd.prog) wr 115 9 5 (w.heap.size + 1) _ _ bs Tryd.underlying115 Tryd.underlying5 Tryd.underlying9 hown
    have hblk : wr.heap[w.heap.size]? = some (.cells #[.bool false, .string ⟨#[]⟩] 48 (0, 0)) := (HBEL.out.block _ (by omega)).trans (heap_alloc_new w _)
    have g5 := cell_of_row _ _ 0 _ _ _ hblk
    have g6 := cell_of_row _ _ 1 _ _ _ hblk
    have g7 := frozen_of_row _ _ 0 _ _ hblk
    have g8 := frozen_of_row _ _ 1 _ _ hblk
    have HBLK := Lib.hid hblk
    clear hown hblk
    go_wp2
    refine bodyPost_ret (results_cell_row rfl _ _ w.heap.size 48 _ (0, 0) _ rfl (res_box2 HBLK.out) Tryd.underlying48 rfl (by kernel_rfl)) rfl ?_
    refine ⟨?_, (HB2.out.setCell (p := ⟨w.heap.size, 0, none⟩) (Nat.le_refl _) _).setCell (p := ⟨w.heap.size, 1, none⟩) (Nat.le_refl _) _⟩
    have hv := Hv.out
    rw [List.drop_zero, HZV.out] at hv
    have hb := mag_unique (HH.out.1 hnz0).2
    rw [hv] at hb
    rw [← hb]
    have hvn := HVN.out
    simp [wv, hvn, hb]
   ·obtain ⟨ad, rfl, hcx0⟩ := (HZW0.out).get (k := k - 1) (by have := HZL.out; omega)
    have HC0 : Hid (∀ W, Below (w.heap.size + 1) (w.alloc (.cells #[.bool false, .string ⟨#[]⟩] 48)) W → W.cell? (ad.add (k - 1)) = some (.int .i64 ((zs[k - 1]?.getD 0 : Nat) : Int))) := fun W hb => by
     rw [(((Below.refl w.heap.size w).alloc (Nat.le_refl _) _).trans (hb.mono (by omega))).cell (World.block_lt_of_cell? _ _ hcx0)]; exact hcx0
    have hcx := HC0.out _ HBEL.out
    clear hcx0
    have hbx := HZB.out.getD RB_pos (k - 1)
    rw [List.getD_eq_getElem?_getD, RB_eq] at hbx
    by_cases h1 : k < nz
    ·have HBIG : Hid (bs = [] → 256 ≤ zs[k - 1]?.getD 0) := fun h => absurd h (HH.out.1 h1).1
     go_wp2_with (first | (at_builtin; refine wpList_append_own _ rfl (.tmp 32) (.tmp 39) 115 rfl (w.heap.size + 1) 5 i0 (.int .u8 0) 1 1 Tryd.underlying115 hi hz0 hz1 hz2 rfl (by decide) _ _ _ rfl (hown.alloc _) ⟨wr.heap.size, 0, none⟩ 1 1 [_] rfl rfl (cell_one_new _ _ _) (by simp [Value.oneCell']) (by unfold maxLen; omega) (by omega) (by simp; omega) ?_; intro v1 w1 hown1 hgrow _; obtain ⟨g1, cap1, rfl⟩ := ownsRow_succ hown1; have hb1 := HBEL.out.trans (((Below.refl _ wr).alloc hsz _).grown hgrow (by simp; omega) (by intro k hk; exact own_block_ge hown hk)); have hszw1 : w.heap.size + 1 ≤ w1.heap.size := (by have h := hb1.size; rw [World.size_alloc] at h; exact h); clear hgrow; have hcx1 := HC0.out _ hb1) | (at_builtin; refine wpList_append_own _ rfl (.tmp 41) (.tmp 48) 115 rfl (w.heap.size + 1) 5 i0 (.int .u8 0) 1 1 Tryd.underlying115 hi hz0 hz1 hz2 rfl (by decide) _ _ _ rfl (hown1.alloc _) ⟨w1.heap.size, 0, none⟩ 1 1 [_] rfl rfl (cell_one_new _ _ _) (by simp [Value.oneCell']) (by unfold maxLen; omega) (by omega) (by simp; omega) ?_; intro v2 w2 hown2 hgrow _; obtain ⟨g2, cap2, rfl⟩ := ownsRow_succ hown2; have hb2 := hb1.trans (((Below.refl _ w1).alloc hszw1 _).grown hgrow (by simp; omega) (by intro k hk; exact own_block_ge hown1 hk)); have hszw2 : w.heap.size + 1 ≤ w2.heap.size := (by have h := hb2.size; rw [World.size_alloc] at h; exact h); clear hgrow))
     go_roundw
     case rel =>
      refine ⟨k - 1, cap2, m + 1 + 1, _, bs ++ [UInt8.ofNat (zs[k - 1]?.getD 0 / 256)] ++ [UInt8.ofNat (zs[k - 1]?.getD 0 % 256)], by omega, by go_num, rfl, own_bsnoc (own_bsnoc_l hown2 (u8_div hbx)) (u8_mod _), by rw [Hid, List.length_append, List.length_append, Hbl.out]; rfl, by omega, ?_, ?_, hb2⟩
      ·exact two_bytes h0 (by have := HZL.out; omega) HZB.out Hv.out
      ·exact head_two h0 HH.out ⟨hk, hbx⟩ HBIG.out
     case measure => simp [intOf]; omega
    ·by_cases h2 : 256 ≤ zs[k - 1]?.getD 0
     ·have HBIG : Hid (bs = [] → 256 ≤ zs[k - 1]?.getD 0) := fun _ => h2
      go_wp2_with (first | (at_builtin; refine wpList_append_own _ rfl (.tmp 32) (.tmp 39) 115 rfl (w.heap.size + 1) 5 i0 (.int .u8 0) 1 1 Tryd.underlying115 hi hz0 hz1 hz2 rfl (by decide) _ _ _ rfl (hown.alloc _) ⟨wr.heap.size, 0, none⟩ 1 1 [_] rfl rfl (cell_one_new _ _ _) (by simp [Value.oneCell']) (by unfold maxLen; omega) (by omega) (by simp; omega) ?_; intro v1 w1 hown1 hgrow _; obtain ⟨g1, cap1, rfl⟩ := ownsRow_succ hown1; have hb1 := HBEL.out.trans (((Below.refl _ wr).alloc hsz _).grown hgrow (by simp; omega) (by intro k hk; exact own_block_ge hown hk)); have hszw1 : w.heap.size + 1 ≤ w1.heap.size := (by have h := hb1.size; rw [World.size_alloc] at h; exact h); clear hgrow; have hcx1 := HC0.out _ hb1) | (at_builtin; refine wpList_append_own _ rfl (.tmp 41) (.tmp 48) 115 rfl (w.heap.size + 1) 5 i0 (.int .u8 0) 1 1 Tryd.underlying115 hi hz0 hz1 hz2 rfl (by decide) _ _ _ rfl (hown1.alloc _) ⟨w1.heap.size, 0, none⟩ 1 1 [_] rfl rfl (cell_one_new _ _ _) (by simp [Value.oneCell']) (by unfold maxLen; omega) (by omega) (by simp; omega) ?_; intro v2 w2 hown2 hgrow _; obtain ⟨g2, cap2, rfl⟩ := ownsRow_succ hown2; have hb2 := hb1.trans (((Below.refl _ w1).alloc hszw1 _).grown hgrow (by simp; omega) (by intro k hk; exact own_block_ge hown1 hk)); have hszw2 : w.heap.size + 1 ≤ w2.heap.size := (by have h := hb2.size; rw [World.size_alloc] at h; exact h); clear hgrow))
      go_roundw
      case rel =>
       refine ⟨k - 1, cap2, m + 1 + 1, _, bs ++ [UInt8.ofNat (zs[k - 1]?.getD 0 / 256)] ++ [UInt8.ofNat (zs[k - 1]?.getD 0 % 256)], by omega, by go_num, rfl, own_bsnoc (own_bsnoc_l hown2 (u8_div hbx)) (u8_mod _), by rw [Hid, List.length_append, List.length_append, Hbl.out]; rfl, by omega, ?_, ?_, hb2⟩
       ·exact two_bytes h0 (by have := HZL.out; omega) HZB.out Hv.out
       ·exact head_two h0 HH.out ⟨hk, hbx⟩ HBIG.out
      case measure => simp [intOf]; omega
     ·go_wp2_with (at_builtin; refine wpList_append_own _ rfl (.tmp 41) (.tmp 48) 115 rfl (w.heap.size + 1) 5 i0 (.int .u8 0) 1 1 Tryd.underlying115 hi hz0 hz1 hz2 rfl (by decide) _ _ _ rfl (hown.alloc _) ⟨wr.heap.size, 0, none⟩ 1 1 [_] rfl rfl (cell_one_new _ _ _) (by simp [Value.oneCell']) (by unfold maxLen; omega) (by omega) (by simp; omega) ?_; intro v2 w2 hown2 hgrow _; obtain ⟨g2, cap2, rfl⟩ := ownsRow_succ hown2; have hb2 := HBEL.out.trans (((Below.refl _ wr).alloc hsz _).grown hgrow (by simp; omega) (by intro k hk; exact own_block_ge hown hk)); have hszw2 : w.heap.size + 1 ≤ w2.heap.size := (by have h := hb2.size; rw [World.size_alloc] at h; exact h); clear hgrow)
      go_roundw
      case rel =>
       refine ⟨k - 1, cap2, m + 1, _, bs ++ [UInt8.ofNat (zs[k - 1]?.getD 0 % 256)], by omega, by go_num, rfl, own_bsnoc hown2 (u8_mod _), by rw [Hid, List.length_append, Hbl.out]; rfl, by omega, ?_, ?_, hb2⟩
       ·exact one_byte h0 (by have := HZL.out; omega) (by omega) (HH.out.2 (by omega)) Hv.out
       ·exact head_one h0 HH.out (by omega) HTOP.out (by omega)
      case measure => simp [intOf]; omega
end Go.Proofs.YthmdmbpecgakkaaDoor

namespace Go.Proofs.YthmdmbpecgakkaaDoor
open Go.RowKit

theorem rmul_word {x y u c : Nat} (hx : x < 65536) (hy : y < 65536) (hu : u < 65536) (hc : c < 65536) : (x : Int) * y ≤ 4294836225 ∧ u + x * y + c < 4294967296 ∧ 0 ≤ (x : Int) * y := by
 have h : x * y ≤ 65535 * 65535 := Nat.mul_le_mul (by omega) (by omega)
 have e : (x : Int) * y = ((x * y : Nat) : Int) := by rw [Int.natCast_mul]
 rw [e]
 omega

set_option maxRecDepth 100000 in
set_option maxHeartbeats 1000000 in
theorem times_any (la lb : List Nat) (Aa Ab : Option Addr) (na nb ca cb : Nat) (w : World) (da : Dl RB la) (db : Dl RB lb)
  (ha : Wd .i64 w w.heap.size Aa la) (hb : Wd .i64 w w.heap.size Ab lb) (hna : la.length = na) (hnb : lb.length = nb) (hsa : na ≤ 1000000000) (hsb : nb ≤ 1000000000) :
  Calls Tryd.prog 53 #[.slice Aa na ca, .slice Ab nb cb] w (GivesDig (val RB la * val RB lb) w) := by
 have HX := Lib.hid ha
 have HY := Lib.hid hb
 have Hnx := Lib.hid hna
 have Hny := Lib.hid hnb
 clear ha hb hna hnb
 have hmk := run_make_dig (P := Tryd.prog) 45 3 Tryd.underlying45 info_int ((na : Int) + nb) (na + nb) (by omega) (by omega)
 go_enter Tryd.func53, Tryd.ntmps53
 go_wp2
 clear hmk
 go_loopw [6] (fun i wr => ∃ (k : Nat) (lo : List Nat), k ≤ na ∧ i = .int .i64 k ∧ Ow .i64 wr w.heap.size 3 lo ∧ Hid (lo.length = na + nb) ∧ Dl RB lo ∧
   Hid (val RB lo = val RB (la.take k) * val RB lb) ∧ Hid (∀ j, k + nb ≤ j → lo[j]?.getD 0 = 0) ∧ Below w.heap.size w wr) (fun i _ => na - (intOf i).toNat)
 case atStart => exact ⟨0, List.replicate (na + nb) 0, Nat.zero_le _, rfl, Ow.new _ _ _ _, List.length_replicate, Dl.replicate RB_pos _, by simp [Hid, val, val_replicate], fun j _ => by rw [List.getElem?_replicate]; split <;> rfl, (Below.refl _ _).alloc (Nat.le_refl _) _⟩
 case round =>
  obtain ⟨i, lo, hi, rfl, how, Hlen, dlo, Hv, Hz, hbel⟩ := hrel
  by_cases hlt : i < na
  ·obtain ⟨ax, rfl, hcx⟩ := (HX.out.below hbel).get (k := i) (by have := Hnx.out; omega)
   have hbx := da.getD RB_pos i
   rw [List.getD_eq_getElem?_getD, RB_eq] at hbx
   have HOW := Lib.hid how
   have HBEL := Lib.hid hbel
   have HDL := Lib.hid dlo
   clear how hbel dlo
   obtain ⟨wo, rfl⟩ : ∃ wo : World, wo = wr := ⟨_, rfl⟩
   go_wp2
   go_loopw [7,8] (fun cr i2 wr => ∃ (k c : Nat) (lo : List Nat), k ≤ nb ∧ c < 65536 ∧ i2 = .int .i64 k ∧ cr = .int .i64 c ∧ Ow .i64 wr w.heap.size 3 lo ∧ Hid (lo.length = na + nb) ∧ Dl RB lo ∧
    Hid (val RB lo + RB ^ (i + k) * c = val RB (la.take i) * val RB lb + (la[i]?.getD 0) * val RB (lb.take k) * RB ^ i) ∧ Hid (∀ j, i + nb ≤ j → lo[j]?.getD 0 = 0) ∧ Below w.heap.size w wr) (fun _ i2 _ => nb - (intOf i2).toNat)
   case atStart => exact ⟨0, 0, lo, Nat.zero_le _, by omega, rfl,rfl,HOW.out, Hlen, HDL.out, by have := Hv.out; simp [Hid, val, this], Hz, HBEL.out⟩
   case round =>
    clear HOW HBEL HDL Hv Hz hcx Hlen
    obtain ⟨k, c, l2, hk, hc, rfl,rfl,how, Hlen, dl2, Hv, Hz, hbel⟩ := hrel
    have HOW := Lib.hid how
    have HBEL := Lib.hid hbel
    clear how hbel
    by_cases hlk : k < nb
    ·obtain ⟨ax', eax, hcx⟩ := (HX.out.below HBEL.out).get (k := i) (by have := Hnx.out; omega)
     obtain rfl : ax = ax' := by injection eax
     clear eax
     obtain ⟨ay, rfl, hcy⟩ := (HY.out.below HBEL.out).get (k := k) (by have := Hny.out; omega)
     have hby := db.getD RB_pos k
     rw [List.getD_eq_getElem?_getD, RB_eq] at hby
     have hbu := dl2.getD RB_pos (i + k)
     rw [List.getD_eq_getElem?_getD, RB_eq] at hbu
     obtain ⟨hm1, hm2, hm3⟩ := rmul_word hbx hby hbu hc
     have hfo := HOW.out.free (i + k)
     have hco := HOW.out.cell (i + k) (by have := Hlen.out; omega)
     go_wp2
     go_region
     go_wp2
     go_roundw
     case rel =>
      have e1 : (((l2[i + k]?.getD 0 : Nat) : Int) + (la[i]?.getD 0 : Nat) * (lb[k]?.getD 0 : Nat) + (c : Nat)) % 65536 = (((l2[i + k]?.getD 0 + la[i]?.getD 0 * lb[k]?.getD 0 + c) % RB : Nat) : Int) := by rw [RB_eq, Int.natCast_emod, Int.natCast_add, Int.natCast_add, Int.natCast_mul]; rfl
      have e2 : (((l2[i + k]?.getD 0 : Nat) : Int) + (la[i]?.getD 0 : Nat) * (lb[k]?.getD 0 : Nat) + (c : Nat)) / 65536 = (((l2[i + k]?.getD 0 + la[i]?.getD 0 * lb[k]?.getD 0 + c) / RB : Nat) : Int) := by rw [RB_eq, Int.natCast_ediv, Int.natCast_add, Int.natCast_add, Int.natCast_mul]; rfl
      have hl := Hlen.out
      refine ⟨k + 1, _, l2.set (i + k) ((l2[i + k]?.getD 0 + la[i]?.getD 0 * lb[k]?.getD 0 + c) % RB), by omega, ?_, by go_num, by rw [e2], by rw [e1]; exact HOW.out.set _ _, by rw [List.length_set]; exact hl, dl2.set _ (Nat.mod_lt _ RB_pos), mul_step (by omega) Hv.out, fun j hj => by rw [List.getElem?_set_ne (by omega)]; exact Hz.out j hj, HBEL.out.drew.setCell (Nat.le_refl _) _⟩
      rw [RB_eq]; omega
     case measure => simp [intOf]; omega
    ·obtain rfl : k = nb := by omega
     have hfo := HOW.out.free (i + k)
     have hco := HOW.out.cell (i + k) (by have := Hlen.out; omega)
     go_wp2
     go_roundw
     case rel =>
      have hl := Hlen.out
      have hnb := Hny.out
      refine ⟨i + 1, l2.set (i + k) c, by omega, by go_num, HOW.out.set _ _, by rw [List.length_set]; exact hl, dl2.set _ (by rw [RB_eq]; exact hc), ?_, fun j hj => by rw [List.getElem?_set_ne (by omega)]; exact Hz.out j (by omega), HBEL.out.setCell (Nat.le_refl _) _⟩
      have hv := Hv.out
      have hz := Hz.out (i + k) (Nat.le_refl _)
      subst hnb
      exact mul_row (by omega) hz hv
     case measure => simp [intOf]; omega
  ·obtain rfl : i = na := by omega
   have HOW := Lib.hid how
   have HBEL := Lib.hid hbel
   clear how hbel
   have hval : val RB lo = val RB la * val RB lb := by
    have h2 := Hv.out
    rwa [List.take_of_length_le (l := la) (by have := Hnx.out; omega)] at h2
   have HVAL := Lib.hid hval
   clear hval
   go_wp2_with (go_at_call 68; refine (trim_any lo _ _ _ wr.heap.size _ Hlen.out (by omega) (by omega) (HOW.out.wd HOW.out.lt)).mono ?_; rintro e w' ⟨rfl, rfl⟩)
   go_ret
   rw [← HVAL.out]
   exact gives_trim HBEL.out (HOW.out.wd HOW.out.lt) dlo (by have := Hlen.out; omega) (by omega)

end Go.Proofs.YthmdmbpecgakkaaDoor

namespace Go.Proofs.YthmdmbpecgakkaaDoor
open Go.RowKit

def GivesList (n K : Nat) (w : World) (e : Ending) (w' : World) : Prop :=
 ∃ A c l, e = .returned (.slice A l.length c) ∧ val RB l = n ∧ Dl RB l ∧ l.length ≤ K ∧ l.length ≤ c ∧ c ≤ 9223372036854775807 ∧ Wd .i64 w' w'.heap.size A l ∧ Below w.heap.size w w'

theorem plus_step {B : Nat} {a b l : List Nat} {k c x y : Nat} (hk : l.length = k) (hx : a[k]?.getD 0 = x) (hy : b[k]?.getD 0 = y) (h : val B l + B ^ k * c = val B (a.take k) + val B (b.take k)) :
  val B (l ++ [(x + c + y) % B]) + B ^ (k + 1) * ((x + c + y) / B) = val B (a.take (k + 1)) + val B (b.take (k + 1)) := by
 rw [val_snoc, hk, val_take_succ', val_take_succ', hx, hy, Nat.pow_succ, Nat.mul_assoc]
 have : B ^ k * ((x + c + y) % B) + B ^ k * (B * ((x + c + y) / B)) = B ^ k * x + B ^ k * c + B ^ k * y := by
  rw [← Nat.mul_add, Nat.mod_add_div, Nat.mul_add, Nat.mul_add]
 omega
theorem minus_step {B : Nat} {a b l : List Nat} {k c x y d c' : Nat} (hk : l.length = k) (hx : a[k]?.getD 0 = x) (hy : b[k]?.getD 0 = y) (hd : d + c + y = x + B * c')
  (h : val B l + val B (b.take k) = val B (a.take k) + B ^ k * c) :
  val B (l ++ [d]) + val B (b.take (k + 1)) = val B (a.take (k + 1)) + B ^ (k + 1) * c' := by
 rw [val_snoc, hk, val_take_succ', val_take_succ', hx, hy, Nat.pow_succ, Nat.mul_assoc]
 have := congrArg (B ^ k * ·) hd
 simp only [Nat.mul_add] at this
 omega

theorem carry_room {la lb lo : List Nat} {k c na nb : Nat} (hv : val RB lo + RB ^ k * c = val RB (la.take k) + val RB (lb.take k)) (_dlo : Dl RB lo) (da : Dl RB la) (db : Dl RB lb) (hl : lo.length = k) (hna : la.length = na) (hnb : lb.length = nb)
  (ha : na ≤ k) (hb : nb ≤ k) (hc : 0 < c) : k < na + nb + 1 := by
 rcases Nat.lt_or_ge k (na + nb + 1) with h | h
 ·exact h
 ·rw [List.take_of_length_le (by omega), List.take_of_length_le (by omega)] at hv
  have h1 := val_lt da
  have h2 := val_lt db
  rw [hna] at h1
  rw [hnb] at h2
  have h3 : RB ^ na ≤ RB ^ (k - 1) := Nat.pow_le_pow_right RB_pos (by omega)
  have h4 : RB ^ nb ≤ RB ^ (k - 1) := Nat.pow_le_pow_right RB_pos (by omega)
  have h5 : RB ^ k = RB ^ (k - 1) * RB := by rw [← Nat.pow_succ, show (k - 1).succ = k from by omega]
  have h6 : RB ^ k * 1 ≤ RB ^ k * c := Nat.mul_le_mul_left _ hc
  have h7 : RB ^ (k - 1) * 2 ≤ RB ^ (k - 1) * RB := Nat.mul_le_mul_left _ RB_two
  omega

set_option maxRecDepth 100000 in
set_option maxHeartbeats 2000000 in
theorem plus_any (la lb : List Nat) (Aa Ab : Option Addr) (na nb ca cb : Nat) (w : World) (da : Dl RB la) (db : Dl RB lb)
  (ha : Wd .i64 w w.heap.size Aa la) (hb : Wd .i64 w w.heap.size Ab lb) (hna : la.length = na) (hnb : lb.length = nb) (hsa : na ≤ 1000000000) (hsb : nb ≤ 1000000000) :
  Calls Tryd.prog 57 #[.slice Aa na ca, .slice Ab nb cb] w (GivesList (val RB la + val RB lb) (na + nb + 1) w) := by
 obtain ⟨i0, hi, hz0, hz1, hz2⟩ := info_parts info_int
 have HX := Lib.hid ha
 have HY := Lib.hid hb
 have Hnx := Lib.hid hna
 have Hny := Lib.hid hnb
 clear ha hb hna hnb
 go_enter Tryd.func57, Tryd.ntmps57
 go_wp2
 go_loopw [5,6,7] (fun v cr i wr => ∃ (k c cap : Nat) (A : Option Addr) (lo : List Nat), k ≤ na + nb + 1 ∧ c ≤ 1 ∧ i = .int .i64 k ∧ cr = .int .i64 c ∧ v = .slice A k cap ∧
   wr.ownsRow w.heap.size 3 1 (.slice A k cap) k (lo.map fun d : Nat => Value.int .i64 (d : Int)) ∧ Hid (lo.length = k) ∧ Dl RB lo ∧
   Hid (val RB lo + RB ^ k * c = val RB (la.take k) + val RB (lb.take k)) ∧ Below w.heap.size w wr) (fun _ _ i _ => na + nb + 1 - (intOf i).toNat)
 case atStart => exact ⟨0, 0, 0, none, [], by omega, by omega, rfl,rfl,rfl, ⟨rfl, .inl ⟨rfl, rfl⟩⟩, rfl, Dl.nil _, by simp [Hid, val], Below.refl _ _⟩
 case round =>
  obtain ⟨k, c, cap, A, lo, hk, hc, rfl,rfl,rfl, hown, Hlen, dlo, Hv, hbel⟩ := hrel
  have HBEL := Lib.hid hbel
  have hsz := hbel.size
  clear hbel
  by_cases h1 : k < na ∧ k < nb
  ·obtain ⟨h1, h2⟩ := h1
   obtain ⟨ax, rfl, hcx⟩ := (HX.out.below HBEL.out).get (k := k) (by have := Hnx.out; omega)
   have hbx := da.getD RB_pos k
   rw [List.getD_eq_getElem?_getD, RB_eq] at hbx
   obtain ⟨ay, rfl, hcy⟩ := (HY.out.below HBEL.out).get (k := k) (by have := Hny.out; omega)
   have hby := db.getD RB_pos k
   rw [List.getD_eq_getElem?_getD, RB_eq] at hby
   go_wp2_with (at_builtin; refine wpList_append_own _ rfl _ _ 45 rfl w.heap.size 3 i0 (.int .i64 0) 1 8 Tryd.underlying45 hi hz0 hz1 hz2 rfl (by decide) _ _ _ rfl (hown.alloc _) ⟨wr.heap.size, 0, none⟩ 1 1 [_] rfl rfl (cell_one_new _ _ _) (by simp [Value.oneCell']) (by unfold maxLen; omega) (by omega) (by simp; omega) ?_; intro v' w1 hown' hgrow _; obtain ⟨g', cap', rfl⟩ := ownsRow_succ hown'; have hb1 := HBEL.out.trans (((Below.refl _ wr).alloc hsz _).grown hgrow (by simp; omega) (by intro k hk; exact own_block_ge hown hk)))
   go_roundw
   case rel =>
    have e1 : (((c : Nat) : Int) + ((la[k]?.getD 0 : Nat) : Int) + ((lb[k]?.getD 0 : Nat) : Int)) % 65536 = (((la[k]?.getD 0 + c + lb[k]?.getD 0) % RB : Nat) : Int) := by rw [RB_eq]; omega
    have e2 : (((c : Nat) : Int) + ((la[k]?.getD 0 : Nat) : Int) + ((lb[k]?.getD 0 : Nat) : Int)) / 65536 = (((la[k]?.getD 0 + c + lb[k]?.getD 0) / RB : Nat) : Int) := by rw [RB_eq]; omega
    refine ⟨k + 1, (la[k]?.getD 0 + c + lb[k]?.getD 0) / RB, cap', _, lo ++ [(la[k]?.getD 0 + c + lb[k]?.getD 0) % RB], by omega, ?_, by go_num, by rw [e2], rfl, own_snoc hown' e1, ?_, dlo.append (Dl.one (Nat.mod_lt _ RB_pos)), plus_step Hlen.out rfl rfl Hv.out, hb1⟩
    ·rw [RB_eq]; omega
    ·rw [Hid, List.length_append, Hlen.out]; rfl
   case measure => simp [intOf]; omega
  by_cases h2 : k < na
  ·have h3 : ¬ k < nb := fun h => h1 ⟨h2, h⟩
   clear h1
   obtain ⟨ax, rfl, hcx⟩ := (HX.out.below HBEL.out).get (k := k) (by have := Hnx.out; omega)
   have hbx := da.getD RB_pos k
   rw [List.getD_eq_getElem?_getD, RB_eq] at hbx
   have HY0 : Hid (lb[k]?.getD 0 = 0) := by rw [Hid, List.getElem?_eq_none (by have := Hny.out; omega)]; rfl
   go_wp2_with (at_builtin; refine wpList_append_own _ rfl _ _ 45 rfl w.heap.size 3 i0 (.int .i64 0) 1 8 Tryd.underlying45 hi hz0 hz1 hz2 rfl (by decide) _ _ _ rfl (hown.alloc _) ⟨wr.heap.size, 0, none⟩ 1 1 [_] rfl rfl (cell_one_new _ _ _) (by simp [Value.oneCell']) (by unfold maxLen; omega) (by omega) (by simp; omega) ?_; intro v' w1 hown' hgrow _; obtain ⟨g', cap', rfl⟩ := ownsRow_succ hown'; have hb1 := HBEL.out.trans (((Below.refl _ wr).alloc hsz _).grown hgrow (by simp; omega) (by intro k hk; exact own_block_ge hown hk)))
   go_roundw
   case rel =>
    have e1 : (((c : Nat) : Int) + ((la[k]?.getD 0 : Nat) : Int)) % 65536 = (((la[k]?.getD 0 + c + 0) % RB : Nat) : Int) := by rw [RB_eq]; omega
    have e2 : (((c : Nat) : Int) + ((la[k]?.getD 0 : Nat) : Int)) / 65536 = (((la[k]?.getD 0 + c + 0) / RB : Nat) : Int) := by rw [RB_eq]; omega
    refine ⟨k + 1, (la[k]?.getD 0 + c + 0) / RB, cap', _, lo ++ [(la[k]?.getD 0 + c + 0) % RB], by omega, ?_, by go_num, by rw [e2], rfl, own_snoc hown' e1, ?_, dlo.append (Dl.one (Nat.mod_lt _ RB_pos)), plus_step Hlen.out rfl HY0.out Hv.out, hb1⟩
    ·rw [RB_eq]; omega
    ·rw [Hid, List.length_append, Hlen.out]; rfl
   case measure => simp [intOf]; omega
  by_cases h3 : k < nb
  ·clear h1
   have HX0 : Hid (la[k]?.getD 0 = 0) := by rw [Hid, List.getElem?_eq_none (by have := Hnx.out; omega)]; rfl
   obtain ⟨ay, rfl, hcy⟩ := (HY.out.below HBEL.out).get (k := k) (by have := Hny.out; omega)
   have hby := db.getD RB_pos k
   rw [List.getD_eq_getElem?_getD, RB_eq] at hby
   go_wp2_with (at_builtin; refine wpList_append_own _ rfl _ _ 45 rfl w.heap.size 3 i0 (.int .i64 0) 1 8 Tryd.underlying45 hi hz0 hz1 hz2 rfl (by decide) _ _ _ rfl (hown.alloc _) ⟨wr.heap.size, 0, none⟩ 1 1 [_] rfl rfl (cell_one_new _ _ _) (by simp [Value.oneCell']) (by unfold maxLen; omega) (by omega) (by simp; omega) ?_; intro v' w1 hown' hgrow _; obtain ⟨g', cap', rfl⟩ := ownsRow_succ hown'; have hb1 := HBEL.out.trans (((Below.refl _ wr).alloc hsz _).grown hgrow (by simp; omega) (by intro k hk; exact own_block_ge hown hk)))
   go_roundw
   case rel =>
    have e1 : (((c : Nat) : Int) + ((lb[k]?.getD 0 : Nat) : Int)) % 65536 = (((0 + c + lb[k]?.getD 0) % RB : Nat) : Int) := by rw [RB_eq]; omega
    have e2 : (((c : Nat) : Int) + ((lb[k]?.getD 0 : Nat) : Int)) / 65536 = (((0 + c + lb[k]?.getD 0) / RB : Nat) : Int) := by rw [RB_eq]; omega
    refine ⟨k + 1, (0 + c + lb[k]?.getD 0) / RB, cap', _, lo ++ [(0 + c + lb[k]?.getD 0) % RB], by omega, ?_, by go_num, by rw [e2], rfl, own_snoc hown' e1, ?_, dlo.append (Dl.one (Nat.mod_lt _ RB_pos)), plus_step Hlen.out HX0.out rfl Hv.out, hb1⟩
    ·rw [RB_eq]; omega
    ·rw [Hid, List.length_append, Hlen.out]; rfl
   case measure => simp [intOf]; omega
  clear h1
  by_cases h4 : 0 < c
  ·have hkk : k < na + nb + 1 := carry_room Hv.out dlo da db Hlen.out Hnx.out Hny.out (by omega) (by omega) h4
   have HX0 : Hid (la[k]?.getD 0 = 0) := by rw [Hid, List.getElem?_eq_none (by have := Hnx.out; omega)]; rfl
   have HY0 : Hid (lb[k]?.getD 0 = 0) := by rw [Hid, List.getElem?_eq_none (by have := Hny.out; omega)]; rfl
   go_wp2_with (at_builtin; refine wpList_append_own _ rfl _ _ 45 rfl w.heap.size 3 i0 (.int .i64 0) 1 8 Tryd.underlying45 hi hz0 hz1 hz2 rfl (by decide) _ _ _ rfl (hown.alloc _) ⟨wr.heap.size, 0, none⟩ 1 1 [_] rfl rfl (cell_one_new _ _ _) (by simp [Value.oneCell']) (by unfold maxLen; omega) (by omega) (by simp; omega) ?_; intro v' w1 hown' hgrow _; obtain ⟨g', cap', rfl⟩ := ownsRow_succ hown'; have hb1 := HBEL.out.trans (((Below.refl _ wr).alloc hsz _).grown hgrow (by simp; omega) (by intro k hk; exact own_block_ge hown hk)))
   go_roundw
   case rel =>
    have e1 : (((c : Nat) : Int)) % 65536 = (((0 + c + 0) % RB : Nat) : Int) := by rw [RB_eq]; omega
    have e2 : (((c : Nat) : Int)) / 65536 = (((0 + c + 0) / RB : Nat) : Int) := by rw [RB_eq]; omega
    refine ⟨k + 1, (0 + c + 0) / RB, cap', _, lo ++ [(0 + c + 0) % RB], by omega, ?_, by go_num, by rw [e2], rfl, own_snoc hown' e1, ?_, dlo.append (Dl.one (Nat.mod_lt _ RB_pos)), plus_step Hlen.out HX0.out HY0.out Hv.out, hb1⟩
    ·rw [RB_eq]; omega
    ·rw [Hid, List.length_append, Hlen.out]; rfl
   case measure => simp [intOf]; omega
  ·obtain rfl : c = 0 := by omega
   have HCAP := Lib.hid (own_cap hown)
   have HWD : Hid (Wd .i64 wr wr.heap.size A lo) := by have h := hown; rw [← Hlen.out] at h; exact own_wd h
   clear hown
   go_wp2
   go_ret
   have hv := Hv.out
   rw [List.take_of_length_le (l := la) (by have := Hnx.out; omega), List.take_of_length_le (l := lb) (by have := Hny.out; omega), Nat.mul_zero, Nat.add_zero] at hv
   have hl := Hlen.out
   exact ⟨A, cap, lo, by rw [hl]; rfl, hv, dlo, by omega, by rw [hl]; exact HCAP.out.1, HCAP.out.2, HWD.out, HBEL.out⟩
end Go.Proofs.YthmdmbpecgakkaaDoor

namespace Go.Proofs.YthmdmbpecgakkaaDoor
open Go.RowKit

set_option maxRecDepth 100000 in
set_option maxHeartbeats 2000000 in
theorem minus_any (la lb : List Nat) (Aa Ab : Option Addr) (na nb ca cb : Nat) (w : World) (da : Dl RB la) (db : Dl RB lb)
  (ha : Wd .i64 w w.heap.size Aa la) (hb : Wd .i64 w w.heap.size Ab lb) (hna : la.length = na) (hnb : lb.length = nb) (hsa : na ≤ 1000000000) (hsb : nb ≤ na) (hle : val RB lb ≤ val RB la) :
  Calls Tryd.prog 59 #[.slice Aa na ca, .slice Ab nb cb] w (GivesDig (val RB la - val RB lb) w) := by
 obtain ⟨i0, hi, hz0, hz1, hz2⟩ := info_parts info_int
 have HX := Lib.hid ha
 have HY := Lib.hid hb
 have Hnx := Lib.hid hna
 have Hny := Lib.hid hnb
 have Hle := Lib.hid hle
 clear ha hb hna hnb hle
 go_enter Tryd.func59, Tryd.ntmps59
 go_wp2
 go_loopw [5,6,7] (fun v cr i wr => ∃ (k c cap : Nat) (A : Option Addr) (lo : List Nat), k ≤ na ∧ c ≤ 1 ∧ i = .int .i64 k ∧ cr = .int .i64 c ∧ v = .slice A k cap ∧
   wr.ownsRow w.heap.size 3 1 (.slice A k cap) k (lo.map fun d : Nat => Value.int .i64 (d : Int)) ∧ Hid (lo.length = k) ∧ Dl RB lo ∧
   Hid (val RB lo + val RB (lb.take k) = val RB (la.take k) + RB ^ k * c) ∧ Below w.heap.size w wr) (fun _ _ i _ => na - (intOf i).toNat)
 case atStart => exact ⟨0, 0, 0, none, [], by omega, by omega, rfl,rfl,rfl, ⟨rfl, .inl ⟨rfl, rfl⟩⟩, rfl, Dl.nil _, by simp [Hid, val], Below.refl _ _⟩
 case round =>
  obtain ⟨k, c, cap, A, lo, hk, hc, rfl,rfl,rfl, hown, Hlen, dlo, Hv, hbel⟩ := hrel
  have HBEL := Lib.hid hbel
  have hsz := hbel.size
  clear hbel
  by_cases h1 : k < na
  ·obtain ⟨ax, rfl, hcx⟩ := (HX.out.below HBEL.out).get (k := k) (by have := Hnx.out; omega)
   have hbx := da.getD RB_pos k
   rw [List.getD_eq_getElem?_getD, RB_eq] at hbx
   by_cases h2 : k < nb
   ·obtain ⟨ay, rfl, hcy⟩ := (HY.out.below HBEL.out).get (k := k) (by have := Hny.out; omega)
    have hby := db.getD RB_pos k
    rw [List.getD_eq_getElem?_getD, RB_eq] at hby
    by_cases h3 : la[k]?.getD 0 < c + lb[k]?.getD 0
    ·go_wp2_with (at_builtin; refine wpList_append_own _ rfl _ _ 45 rfl w.heap.size 3 i0 (.int .i64 0) 1 8 Tryd.underlying45 hi hz0 hz1 hz2 rfl (by decide) _ _ _ rfl (hown.alloc _) ⟨wr.heap.size, 0, none⟩ 1 1 [_] rfl rfl (cell_one_new _ _ _) (by simp [Value.oneCell']) (by unfold maxLen; omega) (by omega) (by simp; omega) ?_; intro v' w1 hown' hgrow _; obtain ⟨g', cap', rfl⟩ := ownsRow_succ hown'; have hb1 := HBEL.out.trans (((Below.refl _ wr).alloc hsz _).grown hgrow (by simp; omega) (by intro k hk; exact own_block_ge hown hk)))
     go_roundw
     case rel =>
      refine ⟨k + 1, 1, cap', _, lo ++ [(la[k]?.getD 0 + 65536 - c - lb[k]?.getD 0)], by omega, by omega, by go_num, rfl,rfl,own_snoc hown' (by omega), ?_, dlo.append (Dl.one (by rw [RB_eq]; omega)), minus_step Hlen.out rfl rfl (by rw [RB_eq]; omega) Hv.out, hb1⟩
      rw [Hid, List.length_append, Hlen.out]; rfl
     case measure => simp [intOf]; omega
    ·go_wp2_with (at_builtin; refine wpList_append_own _ rfl _ _ 45 rfl w.heap.size 3 i0 (.int .i64 0) 1 8 Tryd.underlying45 hi hz0 hz1 hz2 rfl (by decide) _ _ _ rfl (hown.alloc _) ⟨wr.heap.size, 0, none⟩ 1 1 [_] rfl rfl (cell_one_new _ _ _) (by simp [Value.oneCell']) (by unfold maxLen; omega) (by omega) (by simp; omega) ?_; intro v' w1 hown' hgrow _; obtain ⟨g', cap', rfl⟩ := ownsRow_succ hown'; have hb1 := HBEL.out.trans (((Below.refl _ wr).alloc hsz _).grown hgrow (by simp; omega) (by intro k hk; exact own_block_ge hown hk)))
     go_roundw
     case rel =>
      refine ⟨k + 1, 0, cap', _, lo ++ [(la[k]?.getD 0 - c - lb[k]?.getD 0)], by omega, by omega, by go_num, rfl,rfl,own_snoc hown' (by omega), ?_, dlo.append (Dl.one (by rw [RB_eq]; omega)), minus_step Hlen.out rfl rfl (by rw [RB_eq]; omega) Hv.out, hb1⟩
      rw [Hid, List.length_append, Hlen.out]; rfl
     case measure => simp [intOf]; omega
   ·have HY0 : Hid (lb[k]?.getD 0 = 0) := by rw [Hid, List.getElem?_eq_none (by have := Hny.out; omega)]; rfl
    by_cases h3 : la[k]?.getD 0 < c
    ·go_wp2_with (at_builtin; refine wpList_append_own _ rfl _ _ 45 rfl w.heap.size 3 i0 (.int .i64 0) 1 8 Tryd.underlying45 hi hz0 hz1 hz2 rfl (by decide) _ _ _ rfl (hown.alloc _) ⟨wr.heap.size, 0, none⟩ 1 1 [_] rfl rfl (cell_one_new _ _ _) (by simp [Value.oneCell']) (by unfold maxLen; omega) (by omega) (by simp; omega) ?_; intro v' w1 hown' hgrow _; obtain ⟨g', cap', rfl⟩ := ownsRow_succ hown'; have hb1 := HBEL.out.trans (((Below.refl _ wr).alloc hsz _).grown hgrow (by simp; omega) (by intro k hk; exact own_block_ge hown hk)))
     go_roundw
     case rel =>
      refine ⟨k + 1, 1, cap', _, lo ++ [(la[k]?.getD 0 + 65536 - c - 0)], by omega, by omega, by go_num, rfl,rfl,own_snoc hown' (by omega), ?_, dlo.append (Dl.one (by rw [RB_eq]; omega)), minus_step Hlen.out rfl HY0.out (by rw [RB_eq]; omega) Hv.out, hb1⟩
      rw [Hid, List.length_append, Hlen.out]; rfl
     case measure => simp [intOf]; omega
    ·go_wp2_with (at_builtin; refine wpList_append_own _ rfl _ _ 45 rfl w.heap.size 3 i0 (.int .i64 0) 1 8 Tryd.underlying45 hi hz0 hz1 hz2 rfl (by decide) _ _ _ rfl (hown.alloc _) ⟨wr.heap.size, 0, none⟩ 1 1 [_] rfl rfl (cell_one_new _ _ _) (by simp [Value.oneCell']) (by unfold maxLen; omega) (by omega) (by simp; omega) ?_; intro v' w1 hown' hgrow _; obtain ⟨g', cap', rfl⟩ := ownsRow_succ hown'; have hb1 := HBEL.out.trans (((Below.refl _ wr).alloc hsz _).grown hgrow (by simp; omega) (by intro k hk; exact own_block_ge hown hk)))
     go_roundw
     case rel =>
      refine ⟨k + 1, 0, cap', _, lo ++ [(la[k]?.getD 0 - c - 0)], by omega, by omega, by go_num, rfl,rfl,own_snoc hown' (by omega), ?_, dlo.append (Dl.one (by rw [RB_eq]; omega)), minus_step Hlen.out rfl HY0.out (by rw [RB_eq]; omega) Hv.out, hb1⟩
      rw [Hid, List.length_append, Hlen.out]; rfl
     case measure => simp [intOf]; omega
  ·obtain rfl : k = na := by omega
   have HCAP := Lib.hid (own_cap hown)
   have HWD : Hid (Wd .i64 wr wr.heap.size A lo) := by have h := hown; rw [← Hlen.out] at h; exact own_wd h
   have HVAL : Hid (val RB lo = val RB la - val RB lb) := by
    have hv := Hv.out
    rw [List.take_of_length_le (l := la) (by have := Hnx.out; omega), List.take_of_length_le (l := lb) (by have := Hny.out; omega)] at hv
    have h3 := Hle.out
    have h4 := val_lt dlo
    rw [Hlen.out] at h4
    rcases Nat.eq_zero_or_pos c with h0 | h0
    ·subst h0; show _ = _; omega
    ·obtain rfl : c = 1 := by omega
     show _ = _; omega
   clear hown
   go_wp2_with (go_at_call 68; refine (trim_any lo A k cap _ _ Hlen.out HCAP.out.1 HCAP.out.2 HWD.out).mono ?_; rintro e w' ⟨rfl, rfl⟩)
   go_ret
   rw [← HVAL.out]
   exact gives_trim HBEL.out HWD.out dlo (by rw [Hlen.out]; exact HCAP.out.1) HCAP.out.2
end Go.Proofs.YthmdmbpecgakkaaDoor

namespace Go.Proofs.YthmdmbpecgakkaaDoor
open Go.RowKit

set_option maxRecDepth 100000 in
set_option maxHeartbeats 1000000 in
theorem compare_any (m n : Nat) (Aa Ab : Option Addr) (na nb ca cb : Nat) (w : World)
  (ha : Wd .i64 w w.heap.size Aa (dig RB m)) (hb : Wd .i64 w w.heap.size Ab (dig RB n)) (hna : (dig RB m).length = na) (hnb : (dig RB n).length = nb) (hsa : na ≤ 1000000000) (hsb : nb ≤ 1000000000) :
  Calls Tryd.prog 58 #[.slice Aa na ca, .slice Ab nb cb] w fun e w' => e = .returned (.int .i64 (cmpN m n)) ∧ Below w.heap.size w w' := by
 by_cases h1 : na < nb
 ·have hlt : m < n := lt_of_len_lt RB_two (by omega)
  clear ha hb hna hnb
  go_enter Tryd.func58, Tryd.ntmps58
  go_wp2
  go_ret
  exact ⟨ret_eq (by rw [cmpN_lt hlt]; rfl), Below.refl _ _⟩
 ·by_cases h2 : nb < na
  ·have hlt : n < m := lt_of_len_lt RB_two (by omega)
   clear ha hb hna hnb
   go_enter Tryd.func58, Tryd.ntmps58
   go_wp2
   go_ret
   exact ⟨ret_eq (by rw [cmpN_gt hlt]; rfl), Below.refl _ _⟩
  ·obtain rfl : na = nb := by omega
   have HX := Lib.hid ha
   have HY := Lib.hid hb
   have Hnx := Lib.hid hna
   have Hny := Lib.hid hnb
   have dx := dig_Dl RB_two m
   have dy := dig_Dl RB_two n
   have HM := Lib.hid (val_dig RB_two m)
   have HN := Lib.hid (val_dig RB_two n)
   clear ha hb hna hnb
   generalize dig RB m = la at *
   generalize dig RB n = lb at *
   go_enter Tryd.func58, Tryd.ntmps58
   go_wp2
   go_loopw [5] (fun i wr => ∃ (k : Nat), k ≤ na ∧ i = .int .i64 ((k : Int) - 1) ∧ Hid (la.drop k = lb.drop k) ∧ Below w.heap.size w wr) (fun i _ => (intOf i + 1).toNat)
   case atStart => exact ⟨na, Nat.le_refl _, rfl, by rw [Hid, List.drop_of_length_le (by have := Hnx.out; omega), List.drop_of_length_le (by have := Hny.out; omega)], Below.refl _ _⟩
   case round =>
    obtain ⟨k, hk, rfl, Hd, hbel⟩ := hrel
    have HBEL := Lib.hid hbel
    clear hbel
    rcases Nat.eq_zero_or_pos k with h0 | h0
    ·subst h0
     go_wp2
     go_ret
     have e := Hd.out
     rw [List.drop_zero, List.drop_zero] at e
     have hmn : m = n := by rw [← HM.out, ← HN.out, e]
     exact ⟨ret_eq (by rw [hmn, cmpN_self]; rfl), HBEL.out⟩
    ·obtain ⟨ax, rfl, hcx⟩ := (HX.out.below HBEL.out).get (k := k - 1) (by have := Hnx.out; omega)
     obtain ⟨ay, rfl, hcy⟩ := (HY.out.below HBEL.out).get (k := k - 1) (by have := Hny.out; omega)
     have HLEN := Lib.hid (Hnx.out.trans Hny.out.symm)
     have HKL : Hid (k ≤ la.length) := by have := Hnx.out; show k ≤ la.length; omega
     have HKM : Hid (k ≤ lb.length) := by have := Hny.out; show k ≤ lb.length; omega
     by_cases hxy : la[k - 1]?.getD 0 < lb[k - 1]?.getD 0
     ·have hlt : m < n := by
       rw [← HM.out, ← HN.out]
       exact val_lt_of_getD dx HLEN.out h0 HKL.out Hd.out hxy
      have hne : (((la[k - 1]?.getD 0 : Nat) : Int) != ((lb[k - 1]?.getD 0 : Nat) : Int)) = true := by rw [bne_iff_ne]; omega
      go_wp2
      go_region
      go_wp2
      go_region
      go_wp2
      go_ret
      exact ⟨ret_eq (by rw [cmpN_lt hlt]; rfl), HBEL.out.drew.drew⟩
     ·by_cases hyx : lb[k - 1]?.getD 0 < la[k - 1]?.getD 0
      ·have hlt : n < m := by
        rw [← HM.out, ← HN.out]
        exact val_lt_of_getD dy HLEN.out.symm h0 HKM.out Hd.out.symm hyx
       have hne : (((la[k - 1]?.getD 0 : Nat) : Int) != ((lb[k - 1]?.getD 0 : Nat) : Int)) = true := by rw [bne_iff_ne]; omega
       go_wp2
       go_region
       go_wp2
       go_region
       go_wp2
       go_ret
       exact ⟨ret_eq (by rw [cmpN_gt hlt]; rfl), HBEL.out.drew.drew⟩
      ·have hd := drop_pred HLEN.out h0 HKL.out Hd.out (by omega)
       have HD := Lib.hid hd
       clear hd
       have hne : (((la[k - 1]?.getD 0 : Nat) : Int) != ((lb[k - 1]?.getD 0 : Nat) : Int)) = false := by rw [bne_eq_false_iff_eq]; omega
       go_wp2
       go_region
       go_wp2
       go_roundw
       case rel => exact ⟨k - 1, by omega, by go_num, HD.out, HBEL.out.drew⟩
       case measure => simp [intOf]; omega
end Go.Proofs.YthmdmbpecgakkaaDoor

namespace Go.Proofs.YthmdmbpecgakkaaDoor
open Go.RowKit

theorem rdig_len_of {n k K : Nat} (h : n < 2 ^ k) (hk : k ≤ 16 * K) : (dig RB n).length ≤ K := by
 apply dig_length_le RB_two
 have e : RB = 2 ^ 16 := by rw [RB_eq]
 rw [e, ← Nat.pow_mul]
 exact Nat.lt_of_lt_of_le h (Nat.pow_le_pow_right (by omega) hk)
theorem Num.rdig_len {k : Nat} {b : Bool} {s : ByteArray} {z : Int} (h : Num k b s z) (hk : k ≤ 1000000000) : (dig RB z.natAbs).length ≤ 1000000000 :=
 rdig_len_of h.sm (by omega)
theorem rdig_len_z {k : Nat} {z : Int} (h : Sm k z) (hk : k ≤ 1000000000) : (dig RB z.natAbs).length ≤ 1000000000 := rdig_len_of h (by omega)
theorem digits_num {k : Nat} {b : Bool} {s : ByteArray} {z : Int} (h : Num k b s z) (hk : k ≤ 1000000000) (w : World) :
  Calls Tryd.prog 54 #[.agg #[.bool b, .string s]] w (GivesDig z.natAbs w) := by
 have := digits_any b s w (h.size hk)
 rwa [h.natAbs] at this
theorem rwide_dig (m : Nat) (A : Option Addr) (na ca : Nat) (neg : Bool) (w : World) (ha : Wd .i64 w w.heap.size A (dig RB m)) (hna : (dig RB m).length = na) (hsa : na ≤ 1000000000) (hca : na ≤ ca) (hca2 : ca ≤ 9223372036854775807) :
  Calls Tryd.prog 52 #[.bool neg, .slice A na ca] w fun e w' => e = .returned (wv (neg && decide (m ≠ 0)) m) ∧ Below w.heap.size w w' := by
 have h := rwide_any (dig RB m) A na ca neg w (dig_Dl RB_two m) ha hna hsa hca hca2
 rwa [val_dig RB_two] at h

set_option maxRecDepth 100000 in
set_option maxHeartbeats 1000000 in
theorem RMul_any {k1 k2 : Nat} {b1 b2 : Bool} {s1 s2 : ByteArray} {z1 z2 : Int} (h1 : Num k1 b1 s1 z1) (h2 : Num k2 b2 s2 z2) (hk1 : k1 ≤ 100000000) (hk2 : k2 ≤ 100000000) (w : World) :
  Calls Tryd.prog 31 #[.agg #[.bool b1, .string s1], .agg #[.bool b2, .string s2]] w (GivesW (k1 + k2 + 7) (z1 * z2) w) := by
 have H1 := Lib.hid h1
 have H2 := Lib.hid h2
 clear h1 h2
 go_enter Tryd.func31, Tryd.ntmps31
 go_wp2_with fail
 have hm1 := H1.out.rdig_len (by omega)
 have hm2 := H2.out.rdig_len (by omega)
 obtain ⟨W0, hW0⟩ : ∃ W0, W0 = ((w.alloc (.cells #[.bool b1, .string s1] 48)).alloc (.cells #[.bool b2, .string s2] 48)).alloc (.cells #[.bool false, .string ⟨#[]⟩] 48) := ⟨_, rfl⟩
 rw [← hW0]
 obtain ⟨f1, f2, f3, f4, f5, f6, f7, f8, hblk, hbel, hsz⟩ := box2res _ _ _ _ _ _ _ _ _ _ _ hW0
 clear hW0
 have HBLK := Lib.hid hblk
 have HSZ := Lib.hid hsz
 have HBEL := Lib.hid hbel
 clear hblk hsz hbel
 go_region_held3 (fun w' => w'.cell? ⟨w.heap.size, 0, none⟩ = some (.bool b1) ∧ w'.cell? ⟨w.heap.size, 1, none⟩ = some (.string s1) ∧ w'.cell? ⟨w.heap.size + 1, 0, none⟩ = some (.bool b2) ∧ w'.cell? ⟨w.heap.size + 1, 1, none⟩ = some (.string s2))
  (first
   | (go_keep; done)
   | ((try go_split_ands); (try dsimp only); (repeat' apply And.intro) <;> first | assumption | exact keepCell (by assumption) (by assumption) | exact keepSet (keepSet (by assumption) (by dsimp only; omega)) (by dsimp only; omega) | go_keep))
  (first
   | (go_at_call_of 54 (Value.agg #[.bool b1, .string s1]); refine (digits_num H1.out (by omega) _).mono ?_; rintro e wA ⟨A1, n1, c1, rfl, hl1, hn1, hc1, hw1, hb1⟩)
   | (go_at_call_of 54 (Value.agg #[.bool b2, .string s2]); refine (digits_num H2.out (by omega) _).mono ?_; rintro e wB ⟨A2, n2, c2, rfl, hl2, hn2, hc2, hw2, hb2⟩)
   | (go_at_call 53; refine (times_any (dig RB z1.natAbs) (dig RB z2.natAbs) A1 A2 n1 n2 c1 c2 _ (dig_Dl RB_two _) (dig_Dl RB_two _) (keepWd hb2 hw1) hw2 hl1 hl2 (by omega) (by omega)).mono ?_; rintro e wC ⟨A3, n3, c3, rfl, hl3, hn3, hc3, hw3, hb3⟩)
   | (go_at_call 52; rw [val_dig RB_two, val_dig RB_two] at hl3 hw3; refine (rwide_dig (z1.natAbs * z2.natAbs) A3 n3 c3 _ _ hw3 hl3 (by have := rdig_len_z (H1.out.sm.mul H2.out.sm) (by omega); rw [Int.natAbs_mul] at this; omega) hn3 hc3).mono ?_; rintro e wD ⟨rfl, hb4⟩; unfold wv; have hr1 := keepCell hb4 (keepCell hb3 (keepCell hb2 (keepCell hb1 f5))); have hr2 := keepCell hb4 (keepCell hb3 (keepCell hb2 (keepCell hb1 f6))); have hr3 := keepFree hb4 (keepCell hb3 (keepCell hb2 (keepCell hb1 f5))) (keepFree hb3 (keepCell hb2 (keepCell hb1 f5)) (keepFree hb2 (keepCell hb1 f5) (keepFree hb1 f5 f7))); have hr4 := keepFree hb4 (keepCell hb3 (keepCell hb2 (keepCell hb1 f6))) (keepFree hb3 (keepCell hb2 (keepCell hb1 f6)) (keepFree hb2 (keepCell hb1 f6) (keepFree hb1 f6 f8)))))
 go_wp2
 have hblk := res_box2 (x := Value.bool (!b1 == b2 && !decide (z1.natAbs * z2.natAbs = 0))) (y := .string ⟨(mag (z1.natAbs * z2.natAbs)).toArray⟩) (keepBlk hb4 (keepBlk hb3 (keepBlk hb2 (keepBlk hb1 HBLK.out))))
 refine bodyPost_ret (results_cell_row rfl _ _ (w.heap.size + 2) 48 _ (0, 0) _ rfl hblk Tryd.underlying48 rfl (by kernel_rfl)) rfl ?_
 have e : (!b1 == b2 && !decide (z1.natAbs * z2.natAbs = 0)) = ((b1 != b2) && decide (z1.natAbs * z2.natAbs ≠ 0)) := by cases b1 <;> cases b2 <;> simp
 rw [e]
 refine gives_wv (by rw [Int.natAbs_mul]) (mul_sign H1.out H2.out) (H1.out.sm.mul H2.out.sm) ?_
 have hsz := HSZ.out
 have h1 : w.heap.size + 3 ≤ wA.heap.size := by have := hb1.size; rw [← hsz]; exact this
 have h2 := hb2.size
 have h3 := hb3.size
 exact ((keepBel hb4 (keepBel hb3 (keepBel hb2 (keepBel hb1 HBEL.out.drew (by show _ ≤ W0.heap.size; omega)) (by omega)) (by omega)) (by omega)).setCell (p := ⟨w.heap.size + 2, 0, none⟩) (by simp) _).setCell (p := ⟨w.heap.size + 2, 1, none⟩) (by simp) _

set_option maxRecDepth 100000 in
set_option maxHeartbeats 1000000 in
theorem RNeg_any {k1 : Nat} {b1 : Bool} {s1 : ByteArray} {z1 : Int} (h1 : Num k1 b1 s1 z1) (hk1 : k1 ≤ 1000000000) (w : World) :
  Calls Tryd.prog 56 #[.agg #[.bool b1, .string s1]] w (GivesW (k1 + 7) (-z1) w) := by
 have H1 := Lib.hid h1
 clear h1
 go_enter Tryd.func56, Tryd.ntmps56
 go_wp2_with fail
 have hm1 := H1.out.rdig_len (by omega)
 obtain ⟨W0, hW0⟩ : ∃ W0, W0 = (w.alloc (.cells #[.bool b1, .string s1] 48)).alloc (.cells #[.bool false, .string ⟨#[]⟩] 48) := ⟨_, rfl⟩
 rw [← hW0]
 obtain ⟨f1, f2, f5, f6, f7, f8, hblk, hbel, hsz⟩ := box1res _ _ _ _ _ _ _ _ hW0
 clear hW0
 have HBLK := Lib.hid hblk
 have HSZ := Lib.hid hsz
 have HBEL := Lib.hid hbel
 clear hblk hsz hbel
 go_region_held3 (fun w' => w'.cell? ⟨w.heap.size, 0, none⟩ = some (.bool b1) ∧ w'.cell? ⟨w.heap.size, 1, none⟩ = some (.string s1))
  (first
   | (go_keep; done)
   | ((try go_split_ands); (try dsimp only); (repeat' apply And.intro) <;> first | assumption | exact keepCell (by assumption) (by assumption) | exact keepSet (keepSet (by assumption) (by dsimp only; omega)) (by dsimp only; omega) | go_keep))
  (first
   | (go_at_call 54; refine (digits_num H1.out (by omega) _).mono ?_; rintro e wA ⟨A1, n1, c1, rfl, hl1, hn1, hc1, hw1, hb1⟩)
   | (go_at_call 52; refine (rwide_dig z1.natAbs A1 n1 c1 _ _ hw1 hl1 (by omega) hn1 hc1).mono ?_; rintro e wD ⟨rfl, hb4⟩; unfold wv; have hr1 := keepCell hb4 (keepCell hb1 f5); have hr2 := keepCell hb4 (keepCell hb1 f6); have hr3 := keepFree hb4 (keepCell hb1 f5) (keepFree hb1 f5 f7); have hr4 := keepFree hb4 (keepCell hb1 f6) (keepFree hb1 f6 f8)))
 go_wp2
 have hblk := res_box2 (x := Value.bool (!b1 && !decide (z1 = 0))) (y := .string ⟨(mag z1.natAbs).toArray⟩) (keepBlk hb4 (keepBlk hb1 HBLK.out))
 refine bodyPost_ret (results_cell_row rfl _ _ (w.heap.size + 1) 48 _ (0, 0) _ rfl hblk Tryd.underlying48 rfl (by kernel_rfl)) rfl ?_
 have e : (!b1 && !decide (z1 = 0)) = ((!b1) && decide (z1.natAbs ≠ 0)) := by cases b1 <;> simp
 rw [e]
 refine gives_wv (by rw [Int.natAbs_neg]) (neg_sign H1.out) H1.out.sm.neg ?_
 have hsz := HSZ.out
 have h1 : w.heap.size + 2 ≤ wA.heap.size := by have := hb1.size; rw [← hsz]; exact this
 exact ((keepBel hb4 (keepBel hb1 HBEL.out.drew (by show _ ≤ W0.heap.size; omega)) (by omega)).setCell (p := ⟨w.heap.size + 1, 0, none⟩) (by simp) _).setCell (p := ⟨w.heap.size + 1, 1, none⟩) (by simp) _

set_option maxRecDepth 100000 in
set_option maxHeartbeats 2000000 in
theorem RAdd_any {k1 k2 : Nat} {b1 b2 : Bool} {s1 s2 : ByteArray} {z1 z2 : Int} (h1 : Num k1 b1 s1 z1) (h2 : Num k2 b2 s2 z2) (hk1 : k1 ≤ 100000000) (hk2 : k2 ≤ 100000000) (w : World) :
  Calls Tryd.prog 36 #[.agg #[.bool b1, .string s1], .agg #[.bool b2, .string s2]] w (GivesW (k1 + k2 + 8) (z1 + z2) w) := by
 have H1 := Lib.hid h1
 have H2 := Lib.hid h2
 clear h1 h2
 go_enter Tryd.func36, Tryd.ntmps36
 go_wp2_with fail
 have hm1 : (dig RB z1.natAbs).length ≤ 100000000 := rdig_len_of H1.out.sm (by omega)
 have hm2 : (dig RB z2.natAbs).length ≤ 100000000 := rdig_len_of H2.out.sm (by omega)
 have HLS := Lib.hid (rdig_len_z (sm_add_max H1.out.sm H2.out.sm) (by omega))
 have HSM := Lib.hid (sm_add_max H1.out.sm H2.out.sm)
 obtain ⟨W0, hW0⟩ : ∃ W0, W0 = ((w.alloc (.cells #[.bool b1, .string s1] 48)).alloc (.cells #[.bool b2, .string s2] 48)).alloc (.cells #[.bool false, .string ⟨#[]⟩] 48) := ⟨_, rfl⟩
 rw [← hW0]
 obtain ⟨f1, f2, f3, f4, f5, f6, f7, f8, hblk, hbel, hsz⟩ := box2res _ _ _ _ _ _ _ _ _ _ _ hW0
 clear hW0
 have HBLK := Lib.hid hblk
 have HSZ := Lib.hid hsz
 have HBEL := Lib.hid hbel
 clear hblk hsz hbel
 refine (digits_num H1.out (by omega) _).mono ?_
 rintro e wA ⟨A1, n1, c1, rfl, hl1, hn1, hc1, hw1, hb1⟩
 have q3 := keepCell hb1 f3
 have q4 := keepCell hb1 f4
 go_wp2_with fail
 refine (digits_num H2.out (by omega) _).mono ?_
 rintro e wB ⟨A2, n2, c2, rfl, hl2, hn2, hc2, hw2, hb2⟩
 clear q3 q4
 have g1 := keepCell hb2 (keepCell hb1 f1)
 have g2 := keepCell hb2 (keepCell hb1 f2)
 have g3 := keepCell hb2 (keepCell hb1 f3)
 have g4 := keepCell hb2 (keepCell hb1 f4)
 have g5 := keepCell hb2 (keepCell hb1 f5)
 have g6 := keepCell hb2 (keepCell hb1 f6)
 have g7 := keepFree hb2 (keepCell hb1 f5) (keepFree hb1 f5 f7)
 have g8 := keepFree hb2 (keepCell hb1 f6) (keepFree hb1 f6 f8)
 have HB2 := Lib.hid (keepBel hb2 (keepBel hb1 HBEL.out (by have := HSZ.out; show _ ≤ W0.heap.size; omega)) (by have := HSZ.out; have := hb1.size; have h3 : W0.heap.size ≤ wA.heap.size := this; omega))
 have HK2 := Lib.hid (keepBlk hb2 (keepBlk hb1 HBLK.out))
 have hsB : w.heap.size + 3 ≤ wB.heap.size := by have h1 := HSZ.out; have h2 : W0.heap.size ≤ wA.heap.size := hb1.size; have h3 := hb2.size; omega
 have HW1 := Lib.hid (keepWd hb2 hw1)
 have HW2 := Lib.hid hw2
 have HL1 := Lib.hid hl1
 have HL2 := Lib.hid hl2
 clear f1 f2 f3 f4 f5 f6 f7 f8 HBLK HBEL HSZ hw1 hw2 hb1 hb2
 have hn1' : n1 ≤ 1000000000 := by omega
 have hn1b : n1 ≤ 100000000 := by omega
 have hn2b : n2 ≤ 100000000 := by omega
 have hn2' : n2 ≤ 1000000000 := by omega
 clear hl1 hl2 hm1 hm2
 by_cases hbb : b1 = b2
 ·have hbt : (b1 == b2) = true := by simpa using hbb
  have HA := Lib.hid (add_same H1.out H2.out hbb)
  clear hbb
  go_wp2_with fail
  go_region_held3 (fun w' => w'.cell? ⟨w.heap.size, 0, none⟩ = some (.bool b1) ∧ w'.cell? ⟨w.heap.size, 1, none⟩ = some (.string s1) ∧ w'.cell? ⟨w.heap.size + 1, 0, none⟩ = some (.bool b2) ∧ w'.cell? ⟨w.heap.size + 1, 1, none⟩ = some (.string s2))
   (first
      | (go_keep; done)
      | ((try go_split_ands); (try dsimp only); (repeat' apply And.intro) <;> first | assumption | exact keepCell (by assumption) (by assumption) | exact keepSet (keepSet (by assumption) (by dsimp only; omega)) (by dsimp only; omega) | go_keep))
   (first
    | (go_at_call 57; refine (plus_any (dig RB z1.natAbs) (dig RB z2.natAbs) A1 A2 n1 n2 c1 c2 _ (dig_Dl RB_two _) (dig_Dl RB_two _) (wdDrew HW1.out) (wdDrew HW2.out) HL1.out HL2.out hn1' hn2').mono ?_; rintro e wC ⟨A3, c3, l3, rfl, hl3, dl3, hn3, hc3, hc3', hw3, hb3⟩; rw [val_dig RB_two, val_dig RB_two, HA.out.1] at hl3)
    | (go_at_call 52; refine (rwide_any l3 A3 _ c3 _ _ dl3 hw3 rfl (by omega) hc3 hc3').mono ?_; rintro e wD ⟨rfl, hb4⟩; rw [hl3]; unfold wv; have hr1 := keepCell hb4 (keepCell hb3 g5); have hr2 := keepCell hb4 (keepCell hb3 g6); have hr3 := keepFree hb4 (keepCell hb3 g5) (keepFree hb3 g5 g7); have hr4 := keepFree hb4 (keepCell hb3 g6) (keepFree hb3 g6 g8)))
  go_wp2
  refine bodyPost_ret (results_cell_row rfl _ _ (w.heap.size + 2) 48 _ (0, 0) _ rfl (res_box2 (keepBlk hb4 (keepBlk hb3 HK2.out))) Tryd.underlying48 rfl (by kernel_rfl)) rfl ?_
  have h3 := hb3.size
  have h3' : wB.heap.size ≤ wC.heap.size := h3
  exact gives_close b1 (by simp) rfl (fun h0 => HA.out.2 (by rw [HA.out.1]; exact h0)) HSM.out (((keepBel hb4 (keepBel hb3 HB2.out.drew (by show _ ≤ wB.heap.size; omega)) (by omega)).setCell (p := ⟨w.heap.size + 2, 0, none⟩) (by simp) _).setCell (p := ⟨w.heap.size + 2, 1, none⟩) (by simp) _)
 ·have hbt : (b1 == b2) = false := by simpa using hbb
  by_cases hlt : z1.natAbs < z2.natAbs
  ·have HA := Lib.hid (add_lt H1.out H2.out hbb hlt)
   have HCM := Lib.hid (show cmpN z1.natAbs z2.natAbs < 0 by rw [cmpN_lt hlt]; omega)
   have HLE := Lib.hid (Nat.le_of_lt hlt)
   have HLEN : Hid (n1 ≤ n2) := by show n1 ≤ n2; rw [← HL1.out, ← HL2.out]; exact dig_len_mono RB_two (Nat.le_of_lt hlt)
   clear hbb hlt
   go_wp2_with (go_at_call 58; refine (compare_any z1.natAbs z2.natAbs A1 A2 n1 n2 c1 c2 _ HW1.out HW2.out HL1.out HL2.out hn1' hn2').mono ?_; rintro e wE ⟨rfl, hbE⟩; have hcm := HCM.out)
   have g7 := keepFree hbE g5 g7
   have g8 := keepFree hbE g6 g8
   have g1 := keepCell hbE g1
   have g2 := keepCell hbE g2
   have g3 := keepCell hbE g3
   have g4 := keepCell hbE g4
   have g5 := keepCell hbE g5
   have g6 := keepCell hbE g6
   have HB2 := Lib.hid (keepBel hbE HB2.out (by omega))
   have HK2 := Lib.hid (keepBlk hbE HK2.out)
   have hsE : w.heap.size + 3 ≤ wE.heap.size := Nat.le_trans hsB hbE.size
   have HW1 := Lib.hid (keepWd hbE HW1.out)
   have HW2 := Lib.hid (keepWd hbE HW2.out)
   clear hbE
   go_region_held3 (fun w' => w'.cell? ⟨w.heap.size, 0, none⟩ = some (.bool b1) ∧ w'.cell? ⟨w.heap.size, 1, none⟩ = some (.string s1) ∧ w'.cell? ⟨w.heap.size + 1, 0, none⟩ = some (.bool b2) ∧ w'.cell? ⟨w.heap.size + 1, 1, none⟩ = some (.string s2))
    (first
       | (go_keep; done)
       | ((try go_split_ands); (try dsimp only); (repeat' apply And.intro) <;> first | assumption | exact keepCell (by assumption) (by assumption) | exact keepSet (keepSet (by assumption) (by dsimp only; omega)) (by dsimp only; omega) | go_keep))
    (first
     | (go_at_call 59; refine (minus_any (dig RB z2.natAbs) (dig RB z1.natAbs) A2 A1 n2 n1 c2 c1 _ (dig_Dl RB_two _) (dig_Dl RB_two _) (wdDrew HW2.out) (wdDrew HW1.out) HL2.out HL1.out hn2' HLEN.out (by rw [val_dig RB_two, val_dig RB_two]; exact HLE.out)).mono ?_; rintro e wC ⟨A3, n3, c3, rfl, hl3, hn3, hc3, hw3, hb3⟩)
     | (go_at_call 52; rw [val_dig RB_two, val_dig RB_two, HA.out.1] at hl3 hw3; refine (rwide_dig (z1 + z2).natAbs A3 n3 c3 _ _ hw3 hl3 (by have := HLS.out; omega) hn3 hc3).mono ?_; rintro e wD ⟨rfl, hb4⟩; unfold wv; have hr1 := keepCell hb4 (keepCell hb3 g5); have hr2 := keepCell hb4 (keepCell hb3 g6); have hr3 := keepFree hb4 (keepCell hb3 g5) (keepFree hb3 g5 g7); have hr4 := keepFree hb4 (keepCell hb3 g6) (keepFree hb3 g6 g8)))
   go_wp2
   refine bodyPost_ret (results_cell_row rfl _ _ (w.heap.size + 2) 48 _ (0, 0) _ rfl (res_box2 (keepBlk hb4 (keepBlk hb3 HK2.out))) Tryd.underlying48 rfl (by kernel_rfl)) rfl ?_
   have h3 := hb3.size
   have h3' : wE.heap.size ≤ wC.heap.size := h3
   exact gives_close b2 (by simp) rfl (fun h0 => HA.out.2 (by rw [HA.out.1]; exact h0)) HSM.out (((keepBel hb4 (keepBel hb3 HB2.out.drew (by show _ ≤ wE.heap.size; omega)) (by omega)).setCell (p := ⟨w.heap.size + 2, 0, none⟩) (by simp) _).setCell (p := ⟨w.heap.size + 2, 1, none⟩) (by simp) _)
  ·have HA := Lib.hid (add_ge H1.out H2.out hbb hlt)
   have HCM := Lib.hid (show ¬ cmpN z1.natAbs z2.natAbs < 0 by rcases Nat.lt_or_ge z2.natAbs z1.natAbs with h | h; rw [cmpN_gt h]; omega; rw [Nat.le_antisymm h (by omega), cmpN_self]; omega)
   have HLE := Lib.hid (show z2.natAbs ≤ z1.natAbs by omega)
   have HLEN : Hid (n2 ≤ n1) := by show n2 ≤ n1; rw [← HL1.out, ← HL2.out]; exact dig_len_mono RB_two (by omega)
   clear hbb hlt
   go_wp2_with (go_at_call 58; refine (compare_any z1.natAbs z2.natAbs A1 A2 n1 n2 c1 c2 _ HW1.out HW2.out HL1.out HL2.out hn1' hn2').mono ?_; rintro e wE ⟨rfl, hbE⟩; have hcm := HCM.out)
   have g7 := keepFree hbE g5 g7
   have g8 := keepFree hbE g6 g8
   have g1 := keepCell hbE g1
   have g2 := keepCell hbE g2
   have g3 := keepCell hbE g3
   have g4 := keepCell hbE g4
   have g5 := keepCell hbE g5
   have g6 := keepCell hbE g6
   have HB2 := Lib.hid (keepBel hbE HB2.out (by omega))
   have HK2 := Lib.hid (keepBlk hbE HK2.out)
   have hsE : w.heap.size + 3 ≤ wE.heap.size := Nat.le_trans hsB hbE.size
   have HW1 := Lib.hid (keepWd hbE HW1.out)
   have HW2 := Lib.hid (keepWd hbE HW2.out)
   clear hbE
   go_region_held3 (fun w' => w'.cell? ⟨w.heap.size, 0, none⟩ = some (.bool b1) ∧ w'.cell? ⟨w.heap.size, 1, none⟩ = some (.string s1) ∧ w'.cell? ⟨w.heap.size + 1, 0, none⟩ = some (.bool b2) ∧ w'.cell? ⟨w.heap.size + 1, 1, none⟩ = some (.string s2))
    (first
       | (go_keep; done)
       | ((try go_split_ands); (try dsimp only); (repeat' apply And.intro) <;> first | assumption | exact keepCell (by assumption) (by assumption) | exact keepSet (keepSet (by assumption) (by dsimp only; omega)) (by dsimp only; omega) | go_keep))
    (first
     | (go_at_call 59; refine (minus_any (dig RB z1.natAbs) (dig RB z2.natAbs) A1 A2 n1 n2 c1 c2 _ (dig_Dl RB_two _) (dig_Dl RB_two _) (wdDrew HW1.out) (wdDrew HW2.out) HL1.out HL2.out hn1' HLEN.out (by rw [val_dig RB_two, val_dig RB_two]; exact HLE.out)).mono ?_; rintro e wC ⟨A3, n3, c3, rfl, hl3, hn3, hc3, hw3, hb3⟩)
     | (go_at_call 52; rw [val_dig RB_two, val_dig RB_two, HA.out.1] at hl3 hw3; refine (rwide_dig (z1 + z2).natAbs A3 n3 c3 _ _ hw3 hl3 (by have := HLS.out; omega) hn3 hc3).mono ?_; rintro e wD ⟨rfl, hb4⟩; unfold wv; have hr1 := keepCell hb4 (keepCell hb3 g5); have hr2 := keepCell hb4 (keepCell hb3 g6); have hr3 := keepFree hb4 (keepCell hb3 g5) (keepFree hb3 g5 g7); have hr4 := keepFree hb4 (keepCell hb3 g6) (keepFree hb3 g6 g8)))
   go_wp2
   refine bodyPost_ret (results_cell_row rfl _ _ (w.heap.size + 2) 48 _ (0, 0) _ rfl (res_box2 (keepBlk hb4 (keepBlk hb3 HK2.out))) Tryd.underlying48 rfl (by kernel_rfl)) rfl ?_
   have h3 := hb3.size
   have h3' : wE.heap.size ≤ wC.heap.size := h3
   exact gives_close b1 (by simp) rfl (fun h0 => HA.out.2 (by rw [HA.out.1]; exact h0)) HSM.out (((keepBel hb4 (keepBel hb3 HB2.out.drew (by show _ ≤ wE.heap.size; omega)) (by omega)).setCell (p := ⟨w.heap.size + 2, 0, none⟩) (by simp) _).setCell (p := ⟨w.heap.size + 2, 1, none⟩) (by simp) _)

set_option maxRecDepth 100000 in
set_option maxHeartbeats 1000000 in
theorem RSub_any {k1 k2 : Nat} {b1 b2 : Bool} {s1 s2 : ByteArray} {z1 z2 : Int} (h1 : Num k1 b1 s1 z1) (h2 : Num k2 b2 s2 z2) (hk1 : k1 ≤ 90000000) (hk2 : k2 ≤ 90000000) (w : World) :
  Calls Tryd.prog 35 #[.agg #[.bool b1, .string s1], .agg #[.bool b2, .string s2]] w (GivesW (k1 + k2 + 15) (z1 - z2) w) := by
 have H1 := Lib.hid h1
 have H2 := Lib.hid h2
 clear h1 h2
 go_enter Tryd.func35, Tryd.ntmps35
 go_wp2_with fail
 obtain ⟨W0, hW0⟩ : ∃ W0, W0 = ((w.alloc (.cells #[.bool b1, .string s1] 48)).alloc (.cells #[.bool b2, .string s2] 48)).alloc (.cells #[.bool false, .string ⟨#[]⟩] 48) := ⟨_, rfl⟩
 rw [← hW0]
 obtain ⟨f1, f2, f3, f4, f5, f6, f7, f8, hblk, hbel, hsz⟩ := box2res _ _ _ _ _ _ _ _ _ _ _ hW0
 clear hW0
 have HBLK := Lib.hid hblk
 have HSZ := Lib.hid hsz
 have HBEL := Lib.hid hbel
 clear hblk hsz hbel
 go_region_held3 (fun w' => w'.cell? ⟨w.heap.size, 0, none⟩ = some (.bool b1) ∧ w'.cell? ⟨w.heap.size, 1, none⟩ = some (.string s1) ∧ w'.cell? ⟨w.heap.size + 1, 0, none⟩ = some (.bool b2) ∧ w'.cell? ⟨w.heap.size + 1, 1, none⟩ = some (.string s2))
  (first
   | (go_keep; done)
   | ((try go_split_ands); (try dsimp only); (repeat' apply And.intro) <;> first | assumption | exact keepCell (by assumption) (by assumption) | exact keepSet (keepSet (by assumption) (by dsimp only; omega)) (by dsimp only; omega) | go_keep))
  (first
   | (go_at_call 56; refine (RNeg_any H2.out (by omega) _).mono ?_; rintro e wA ⟨b3, s3, rfl, hc3, hn3, hb1⟩)
   | (go_at_call 36; refine (RAdd_any H1.out hn3 (by omega) (by omega) _).mono ?_; rintro e wD ⟨b4, s4, rfl, hc4, hn4, hb4⟩; have hr1 := keepCell hb4 (keepCell hb1 f5); have hr2 := keepCell hb4 (keepCell hb1 f6); have hr3 := keepFree hb4 (keepCell hb1 f5) (keepFree hb1 f5 f7); have hr4 := keepFree hb4 (keepCell hb1 f6) (keepFree hb1 f6 f8)))
 go_wp2
 have hblk := res_box2 (x := Value.bool b4) (y := .string s4) (keepBlk hb4 (keepBlk hb1 HBLK.out))
 refine bodyPost_ret (results_cell_row rfl _ _ (w.heap.size + 2) 48 _ (0, 0) _ rfl hblk Tryd.underlying48 rfl (by kernel_rfl)) rfl ?_
 have hsz := HSZ.out
 have h1 : w.heap.size + 3 ≤ wA.heap.size := by have := hb1.size; rw [← hsz]; exact this
 refine ⟨b4, s4, rfl, by rw [Int.sub_eq_add_neg]; exact hc4, by rw [Int.sub_eq_add_neg]; exact hn4.mono (by omega), ?_⟩
 exact ((keepBel hb4 (keepBel hb1 HBEL.out.drew (by show _ ≤ W0.heap.size; omega)) (by omega)).setCell (p := ⟨w.heap.size + 2, 0, none⟩) (by simp) _).setCell (p := ⟨w.heap.size + 2, 1, none⟩) (by simp) _

end Go.Proofs.YthmdmbpecgakkaaDoor

namespace Go.Proofs.YthmdmbpecgakkaaDoor
open Go.RowKit

theorem from_len {V j m n : Nat} (h : V + RB ^ j * m = n) (hn : n < 18446744073709551616) (hm : 0 < m) : j ≤ 4 := by
 rcases Nat.lt_or_ge 4 j with h4 | h4
 ·have h1 : RB ^ 4 ≤ RB ^ j := Nat.pow_le_pow_right RB_pos (by omega)
  have h2 : RB ^ j * 1 ≤ RB ^ j * m := Nat.mul_le_mul_left _ hm
  have h3 : RB ^ 4 = 18446744073709551616 := by rw [RB_eq]
  omega
 ·exact h4
theorem from_div (m : Nat) : Value.int .u64 ((m : Int) / 65536) = .int .u64 ((m / RB : Nat) : Int) := by rw [RB_eq, Int.natCast_ediv]; rfl
theorem from_mod (m : Nat) : (m : Int) % 65536 = ((m % RB : Nat) : Int) := by rw [RB_eq, Int.natCast_emod]; rfl
theorem from_lt {m : Nat} (h : m < 18446744073709551616) : m / RB < 18446744073709551616 := Nat.lt_of_le_of_lt (Nat.div_le_self _ _) h
theorem from_step {l : List Nat} {j m n : Nat} (hl : l.length = j) (h : val RB l + RB ^ j * m = n) : val RB (l ++ [m % RB]) + RB ^ (j + 1) * (m / RB) = n := by
 rw [val_snoc, hl, Nat.pow_succ, Nat.mul_assoc, Nat.add_assoc, ← Nat.mul_add, Nat.mod_add_div, h]

set_option maxRecDepth 100000 in
set_option maxHeartbeats 2000000 in
theorem RFrom_any (n : Int) (hn1 : -9223372036854775808 ≤ n) (hn2 : n ≤ 9223372036854775807) (w : World) :
  Calls Tryd.prog 32 #[.int .i64 n] w (GivesW 71 n w) := by
 obtain ⟨i0, hi, hz0, hz1, hz2⟩ := info_parts info_int
 by_cases h0 : n < 0
 ·have hm : (IntKind.u64.wrap (-IntKind.u64.wrap n)) = ((n.natAbs : Nat) : Int) := by simp only [IntKind.wrap_u64]; omega
  have HM := Lib.hid hm
  clear hm
  have hlt : n.natAbs < 18446744073709551616 := by omega
  have HLT := Lib.hid hlt
  clear hlt
  go_enter Tryd.func32, Tryd.ntmps32
  go_wp2
  go_loopw [3,4] (fun v mv wr => ∃ (j m cap : Nat) (A : Option Addr) (l : List Nat), mv = .int .u64 (m : Int) ∧ v = .slice A j cap ∧ m < 18446744073709551616 ∧
    wr.ownsRow (w.heap.size + 1) 3 1 (.slice A j cap) j (l.map fun d : Nat => Value.int .i64 (d : Int)) ∧ Hid (l.length = j) ∧ Dl RB l ∧ Hid (val RB l + RB ^ j * m = n.natAbs) ∧ (0 < m ∨ j ≤ 5) ∧
    Below (w.heap.size + 1) (w.alloc (.cells #[.bool false, .string ⟨#[]⟩] 48)) wr) (fun _ mv _ => (intOf mv).toNat)
  case atStart => exact ⟨0, n.natAbs, 0, none, [], by rw [← HM.out], rfl, HLT.out, ⟨rfl, .inl ⟨rfl, rfl⟩⟩, rfl, Dl.nil _, by simp [Hid, val], by omega, Below.refl _ _⟩
  case round =>
   obtain ⟨j, m, cap, A, l, rfl,rfl,hm64, hown, Hlen, dl, Hv, hj, hbel⟩ := hrel
   have HBEL := Lib.hid hbel
   have hsz := hbel.size
   rw [World.size_alloc] at hsz
   clear hbel
   by_cases h0 : 0 < m
   ·have hj4 : j ≤ 4 := from_len Hv.out HLT.out h0
    go_wp2_with (at_builtin; refine wpList_append_own _ rfl _ _ 45 rfl (w.heap.size + 1) 3 i0 (.int .i64 0) 1 8 Tryd.underlying45 hi hz0 hz1 hz2 rfl (by decide) _ _ _ rfl (hown.alloc _) ⟨wr.heap.size, 0, none⟩ 1 1 [_] rfl rfl (cell_one_new _ _ _) (by simp [Value.oneCell']) (by unfold maxLen; omega) (by omega) (by simp; omega) ?_; intro v' w1 hown' hgrow _; obtain ⟨g', cap', rfl⟩ := ownsRow_succ hown'; have hb1 := HBEL.out.trans (((Below.refl _ wr).alloc hsz _).grown hgrow (by simp; omega) (by intro k hk; exact own_block_ge hown hk)))
    go_roundw
    case rel =>
     refine ⟨j + 1, m / RB, cap', _, l ++ [m % RB], from_div m, rfl, from_lt hm64, own_snoc hown' (from_mod m), by rw [Hid, List.length_append, Hlen.out]; rfl, dl.append (Dl.one (Nat.mod_lt _ RB_pos)), from_step Hlen.out Hv.out, by omega, hb1⟩
    case measure => simp [intOf]; omega
   ·obtain rfl : m = 0 := by omega
    have HCAP := Lib.hid (own_cap hown)
    have HWD : Hid (Wd .i64 wr wr.heap.size A l) := by have h := hown; rw [← Hlen.out] at h; exact own_wd h
    have hblk : wr.heap[w.heap.size]? = some (.cells #[.bool false, .string ⟨#[]⟩] 48 (0, 0)) := (HBEL.out.block _ (by omega)).trans (heap_alloc_new w _)
    have HB2 : Hid (Below w.heap.size w wr) := ((Below.refl _ w).alloc (Nat.le_refl _) _).trans (HBEL.out.mono (by omega))
    have HVV : Hid (val RB l = n.natAbs) := by have h := Hv.out; rw [Nat.mul_zero, Nat.add_zero] at h; exact h
    clear hown
    go_wp2_with fail
    refine (rwide_any l A j cap _ _ dl HWD.out Hlen.out (by omega) HCAP.out.1 HCAP.out.2).mono ?_
    rintro e wD ⟨rfl, hb4⟩
    rw [HVV.out]
    unfold wv
    have hblk2 := keepBlk hb4 hblk
    have g5 := cell_of_row _ _ 0 _ _ _ hblk2
    have g6 := cell_of_row _ _ 1 _ _ _ hblk2
    have g7 := frozen_of_row _ _ 0 _ _ hblk2
    have g8 := frozen_of_row _ _ 1 _ _ hblk2
    have HB4 := Lib.hid (keepBel hb4 HB2.out (by omega))
    have HBLK := Lib.hid hblk2
    clear hblk hblk2 hb4
    go_wp2
    refine bodyPost_ret (results_cell_row rfl _ _ w.heap.size 48 _ (0, 0) _ rfl (res_box2 HBLK.out) Tryd.underlying48 rfl (by kernel_rfl)) rfl ?_
    have hz : Sm 64 n := Sm.int hn1 hn2
    exact gives_close (k := 64) true (n := n.natAbs) (by simp) rfl (fun h => by simp; omega) hz ((HB4.out.setCell (p := ⟨w.heap.size, 0, none⟩) (Nat.le_refl _) _).setCell (p := ⟨w.heap.size, 1, none⟩) (Nat.le_refl _) _)
 ·have hm : n = ((n.natAbs : Nat) : Int) := by omega
  have HM := Lib.hid hm
  clear hm
  have hlt : n.natAbs < 18446744073709551616 := by omega
  have HLT := Lib.hid hlt
  clear hlt
  go_enter Tryd.func32, Tryd.ntmps32
  go_wp2
  go_loopw [3,4] (fun v mv wr => ∃ (j m cap : Nat) (A : Option Addr) (l : List Nat), mv = .int .u64 (m : Int) ∧ v = .slice A j cap ∧ m < 18446744073709551616 ∧
    wr.ownsRow (w.heap.size + 1) 3 1 (.slice A j cap) j (l.map fun d : Nat => Value.int .i64 (d : Int)) ∧ Hid (l.length = j) ∧ Dl RB l ∧ Hid (val RB l + RB ^ j * m = n.natAbs) ∧ (0 < m ∨ j ≤ 5) ∧
    Below (w.heap.size + 1) (w.alloc (.cells #[.bool false, .string ⟨#[]⟩] 48)) wr) (fun _ mv _ => (intOf mv).toNat)
  case atStart => exact ⟨0, n.natAbs, 0, none, [], by rw [← HM.out], rfl, HLT.out, ⟨rfl, .inl ⟨rfl, rfl⟩⟩, rfl, Dl.nil _, by simp [Hid, val], by omega, Below.refl _ _⟩
  case round =>
   obtain ⟨j, m, cap, A, l, rfl,rfl,hm64, hown, Hlen, dl, Hv, hj, hbel⟩ := hrel
   have HBEL := Lib.hid hbel
   have hsz := hbel.size
   rw [World.size_alloc] at hsz
   clear hbel
   by_cases h0 : 0 < m
   ·have hj4 : j ≤ 4 := from_len Hv.out HLT.out h0
    go_wp2_with (at_builtin; refine wpList_append_own _ rfl _ _ 45 rfl (w.heap.size + 1) 3 i0 (.int .i64 0) 1 8 Tryd.underlying45 hi hz0 hz1 hz2 rfl (by decide) _ _ _ rfl (hown.alloc _) ⟨wr.heap.size, 0, none⟩ 1 1 [_] rfl rfl (cell_one_new _ _ _) (by simp [Value.oneCell']) (by unfold maxLen; omega) (by omega) (by simp; omega) ?_; intro v' w1 hown' hgrow _; obtain ⟨g', cap', rfl⟩ := ownsRow_succ hown'; have hb1 := HBEL.out.trans (((Below.refl _ wr).alloc hsz _).grown hgrow (by simp; omega) (by intro k hk; exact own_block_ge hown hk)))
    go_roundw
    case rel =>
     refine ⟨j + 1, m / RB, cap', _, l ++ [m % RB], from_div m, rfl, from_lt hm64, own_snoc hown' (from_mod m), by rw [Hid, List.length_append, Hlen.out]; rfl, dl.append (Dl.one (Nat.mod_lt _ RB_pos)), from_step Hlen.out Hv.out, by omega, hb1⟩
    case measure => simp [intOf]; omega
   ·obtain rfl : m = 0 := by omega
    have HCAP := Lib.hid (own_cap hown)
    have HWD : Hid (Wd .i64 wr wr.heap.size A l) := by have h := hown; rw [← Hlen.out] at h; exact own_wd h
    have hblk : wr.heap[w.heap.size]? = some (.cells #[.bool false, .string ⟨#[]⟩] 48 (0, 0)) := (HBEL.out.block _ (by omega)).trans (heap_alloc_new w _)
    have HB2 : Hid (Below w.heap.size w wr) := ((Below.refl _ w).alloc (Nat.le_refl _) _).trans (HBEL.out.mono (by omega))
    have HVV : Hid (val RB l = n.natAbs) := by have h := Hv.out; rw [Nat.mul_zero, Nat.add_zero] at h; exact h
    clear hown
    go_wp2_with fail
    refine (rwide_any l A j cap _ _ dl HWD.out Hlen.out (by omega) HCAP.out.1 HCAP.out.2).mono ?_
    rintro e wD ⟨rfl, hb4⟩
    rw [HVV.out]
    unfold wv
    have hblk2 := keepBlk hb4 hblk
    have g5 := cell_of_row _ _ 0 _ _ _ hblk2
    have g6 := cell_of_row _ _ 1 _ _ _ hblk2
    have g7 := frozen_of_row _ _ 0 _ _ hblk2
    have g8 := frozen_of_row _ _ 1 _ _ hblk2
    have HB4 := Lib.hid (keepBel hb4 HB2.out (by omega))
    have HBLK := Lib.hid hblk2
    clear hblk hblk2 hb4
    go_wp2
    refine bodyPost_ret (results_cell_row rfl _ _ w.heap.size 48 _ (0, 0) _ rfl (res_box2 HBLK.out) Tryd.underlying48 rfl (by kernel_rfl)) rfl ?_
    have hz : Sm 64 n := Sm.int hn1 hn2
    exact gives_close (k := 64) false (n := n.natAbs) (by simp; omega) rfl (fun h => by simp; omega) hz ((HB4.out.setCell (p := ⟨w.heap.size, 0, none⟩) (Nat.le_refl _) _).setCell (p := ⟨w.heap.size, 1, none⟩) (Nat.le_refl _) _)
end Go.Proofs.YthmdmbpecgakkaaDoor

namespace Go.Proofs.YthmdmbpecgakkaaDoor
open Go.RowKit

set_option maxRecDepth 100000 in
set_option maxHeartbeats 1000000 in
theorem RSign_any {k1 : Nat} {b1 : Bool} {s1 : ByteArray} {z1 : Int} (h1 : Num k1 b1 s1 z1) (hk1 : k1 ≤ 1000000000) (w : World) :
  Calls Tryd.prog 55 #[.agg #[.bool b1, .string s1]] w fun e w' => e = .returned (.int .i64 z1.sign) ∧ Below w.heap.size w w' := by
 have H1 := Lib.hid h1
 clear h1
 go_enter Tryd.func55, Tryd.ntmps55
 go_wp2_with fail
 refine (digits_num H1.out (by omega) _).mono ?_
 rintro e wA ⟨A1, n1, c1, rfl, hl1, hn1, hc1, hw1, hb1⟩
 have hz : (n1 = 0 ↔ z1 = 0) := by rw [← hl1, dig_len_zero RB_two]; omega
 have HZ := Lib.hid hz
 have g1 : wA.cell? ⟨w.heap.size, 0, none⟩ = some (.bool b1) := keepCell hb1 (by simp [go_sem])
 have HB : Hid (Below w.heap.size w wA) := keepBel hb1 ((Below.refl _ w).alloc (Nat.le_refl _) _) (by simp)
 clear hz hl1 hn1 hc1 hw1 hb1
 by_cases hn : n1 = 0
 ·have HZ0 := Lib.hid (HZ.out.1 hn)
  have hnb : ((n1 : Int) == 0) = true := by simpa using hn
  clear hn
  go_wp2_with fail
  go_ret
  exact ⟨ret_eq (by rw [HZ0.out]; rfl), HB.out⟩
 ·have hnb : ((n1 : Int) == 0) = false := by simpa using hn
  have hz1 : z1 ≠ 0 := fun e => hn (HZ.out.2 e)
  have HI := Lib.hid (ival_neg_iff H1.out hz1)
  clear hn hz1
  cases b1
  ·go_wp2_with fail
   go_ret
   have hi := HI.out
   refine ⟨ret_eq ?_, HB.out⟩
   have : 0 < z1 := by simp at hi; have := mt HZ.out.2 (by intro h; rw [h] at hnb; simp at hnb); omega
   rw [Int.sign_eq_one_of_pos this]; rfl
  ·go_wp2_with fail
   go_ret
   have hi := HI.out
   refine ⟨ret_eq ?_, HB.out⟩
   have : z1 < 0 := by simpa using hi
   rw [Int.sign_eq_neg_one_of_neg this]; rfl

set_option maxRecDepth 100000 in
set_option maxHeartbeats 1000000 in
theorem RCmp_any {k1 k2 : Nat} {b1 b2 : Bool} {s1 s2 : ByteArray} {z1 z2 : Int} (h1 : Num k1 b1 s1 z1) (h2 : Num k2 b2 s2 z2) (hk1 : k1 ≤ 90000000) (hk2 : k2 ≤ 90000000) (w : World) :
  Calls Tryd.prog 33 #[.agg #[.bool b1, .string s1], .agg #[.bool b2, .string s2]] w fun e w' => e = .returned (.int .i64 (z1 - z2).sign) ∧ Below w.heap.size w w' := by
 have H1 := Lib.hid h1
 have H2 := Lib.hid h2
 clear h1 h2
 go_enter Tryd.func33, Tryd.ntmps33
 go_wp2_with fail
 refine (RSub_any H1.out H2.out hk1 hk2 _).mono ?_
 rintro e wA ⟨b3, s3, rfl, hc3, hn3, hb1⟩
 have HN := Lib.hid hn3
 have HB : Hid (Below w.heap.size w wA) := keepBel hb1 (((Below.refl _ w).alloc (Nat.le_refl _) _).alloc (by simp) _) (by simp; omega)
 have HS : Hid (w.heap.size ≤ wA.heap.size) := HB.out.size
 clear hn3 hc3 hb1
 go_wp2_with fail
 refine (RSign_any HN.out (by omega) _).mono ?_
 rintro e wB ⟨rfl, hb2⟩
 have HB2 := Lib.hid (keepBel hb2 HB.out HS.out)
 clear hb2
 go_wp2_with fail
 go_ret
 exact ⟨rfl, HB2.out⟩

end Go.Proofs.YthmdmbpecgakkaaDoor
