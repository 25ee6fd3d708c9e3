/- ref digits: the digits to the base 65536. -/
import Derived.Maps.AppendAt
import Derived.RangeFuncBox
import Derived.Test.YtapppahniablmaaDoorRTrim
namespace Go.Proofs.YtapppahniablmaaDoor
open Go.RowKit

/-- the base of the reference's digits -/
def RB : Nat := 65536
theorem RB_eq : RB = 65536 := rfl
theorem RB_two : 2 ≤ RB := by rw [RB_eq]; omega
theorem RB_pos : 0 < RB := by rw [RB_eq]; omega
theorem info_int : (Tryd.prog.info? 3).map (fun i => (i.zero, i.size, i.bytes)) = some (some (.int .i64 0), 1, 8) := by kernel_rfl

/-- digits of the reference, handed back in new memory -/
def GivesDig (n : Nat) (w : World) (e : Ending) (w' : World) : Prop :=
  ∃ A k c, e = .returned (.slice A k c) ∧ (dig RB n).length = k ∧ k ≤ c ∧ c ≤ 9223372036854775807 ∧ Wd .i64 w' w'.heap.size A (dig RB n) ∧ Below w.heap.size w w'

theorem gives_trim {w w' : World} {l : List Nat} {A : Option Addr} {c : Nat} (hb : Below w.heap.size w w') (hwd : Wd .i64 w' w'.heap.size A l) (hd : Dl RB l) (hn : l.length ≤ c) (hc : c ≤ 9223372036854775807) :
    GivesDig (val RB l) w (.returned (.slice A (tlen l) c)) w' := by
  have ht := take_tlen RB_two hd
  have hl := tlen_le l
  refine ⟨A, tlen l, c, rfl, ?_, by omega, hc, ?_, hb⟩
  · rw [← ht, List.length_take]; omega
  · rw [← ht]; exact hwd.take _

/-- a row of the call's own reads as digits -/
theorem own_wd {q : IntKind} {w : World} {base : Nat} {e : TypeId} {A : Option Addr} {c : Nat} {l : List Nat} (h : w.ownsRow base e 1 (.slice A l.length c) l.length (l.map fun d : Nat => Value.int q (d : Int))) : Wd q w w.heap.size A l := fun hn => by
  rcases h.2 with ⟨h', _⟩ | ⟨g, cap, cur, h', hb, hg, _⟩
  · simp at h'; omega
  · have hA : A = some ⟨g, 0, none⟩ := by injection h'
    subst hA
    refine ⟨_, rfl, (Array.getElem?_eq_some_iff.1 hg).1, fun i hi => ?_⟩
    have e1 : (Addr.add ⟨g, 0, none⟩ i) = ⟨g, i, none⟩ := by unfold Addr.add; split <;> simp_all
    rw [e1, h.cellAt i (by omega)]
    simp [List.getElem?_eq_getElem hi]
theorem own_cap {w : World} {base : Nat} {e : TypeId} {A : Option Addr} {n c : Nat} {xs : List Value} {size : Nat} (h : w.ownsRow base e size (.slice A n c) n xs) : n ≤ c ∧ c ≤ 9223372036854775807 := by
  rcases h.2 with ⟨h', h0⟩ | ⟨g, cap, cur, h', hb, hg, hn, hm, _⟩
  · simp at h'; omega
  · simp at h'
    unfold maxLen at hm
    omega

theorem own_block_ge {w : World} {base : Nat} {e : TypeId} {size n k : Nat} {v : Value} {xs : List Value} (h : w.ownsRow base e size v n xs) (hk : v.ownBlock = some k) : base ≤ k := by
  rcases h.2 with ⟨rfl, _⟩ | ⟨g, cap, cur, rfl, hb, _⟩
  · simp [Value.ownBlock] at hk
  · simp [Value.ownBlock] at hk; omega

theorem own_snoc {q : IntKind} {w : World} {base n d : Nat} {e : TypeId} {v : Value} {l : List Nat} {z : Int} (h : w.ownsRow base e 1 v n (l.map (fun d : Nat => Value.int q (d : Int)) ++ [.int q z])) (hz : z = d) :
    w.ownsRow base e 1 v n ((l ++ [d]).map fun d : Nat => Value.int q (d : Int)) := by
  subst hz; rw [List.map_append]; exact h
theorem byte_get (s : ByteArray) (i : Nat) (h : i < s.size) : s.data.toList[i]? = some s[i] := by
  rw [Array.getElem?_toList, Array.getElem?_eq_getElem (by exact h)]; rfl

theorem wrap_two (x y : UInt8) : wrap64 (wrap64 (x.toNat : Int) + wrap64 (256 * wrap64 (y.toNat : Int))) = ((x.toNat + 256 * y.toNat : Nat) : Int) := by
  have h1 := UInt8.toNat_lt x
  have h2 := UInt8.toNat_lt y
  simp only [wrap64]; omega
theorem wrap_one (x : UInt8) : wrap64 (x.toNat : Int) = ((x.toNat : Nat) : Int) := by
  have h1 := UInt8.toNat_lt x
  simp only [wrap64]; omega
theorem two_lt (x y : UInt8) : x.toNat + 256 * y.toNat < RB := by
  have h1 := UInt8.toNat_lt x
  have h2 := UInt8.toNat_lt y
  rw [RB_eq]; omega
theorem one_lt (x : UInt8) : x.toNat < RB := by
  have h1 := UInt8.toNat_lt x
  rw [RB_eq]; omega

set_option maxRecDepth 100000 in
set_option maxHeartbeats 1000000 in
theorem digits_any (neg : Bool) (s : ByteArray) (w : World) (hs : s.size ≤ 1000000000) :
    Calls Tryd.prog 41 #[.agg #[.bool neg, .string s]] w (GivesDig (mval s.data.toList) w) := by
  obtain ⟨i0, hi, hz0, hz1, hz2⟩ := info_parts info_int
  go_enter Tryd.func41, Tryd.ntmps41
  go_wp2
  go_loopw [3, 5] (fun v i wr => ∃ (j c : Nat) (A : Option Addr) (l : List Nat), 2 * j ≤ s.size + 1 ∧ i = .int .i64 ((s.size : Int) - 2 * (j : Int)) ∧ v = .slice A j c ∧ wr.cell? ⟨w.heap.size, 1, none⟩ = some (.string s) ∧
      wr.ownsRow (w.heap.size + 1) 3 1 (.slice A j c) j (l.map fun d : Nat => Value.int .i64 (d : Int)) ∧ Hid (l.length = j) ∧ Dl RB l ∧
      Hid (val RB l = mval (s.data.toList.drop (s.size - 2 * j))) ∧ Below (w.heap.size + 1) (w.alloc (.cells #[.bool neg, .string s] 26)) wr) (fun _ i _ => (intOf i + 1).toNat)
  case atStart => exact ⟨0, 0, none, [], by omega, by go_num, rfl, by simp [go_sem], ⟨rfl, .inl ⟨rfl, rfl⟩⟩, rfl, Dl.nil _, by rw [Hid, List.drop_of_length_le (by simp)]; rfl, Below.refl _ _⟩
  case round =>
    obtain ⟨j, c, A, l, hj, rfl, rfl, hstr, hown, Hlen, dl, Hv, hbel⟩ := hrel
    have hsz := hbel.size
    rw [World.size_alloc] at hsz
    by_cases h0 : s.size ≤ 2 * j
    · have HV : Hid (val RB l = mval s.data.toList) := by have h := Hv.out; rw [show s.size - 2 * j = 0 from by omega, List.drop_zero] at h; exact h
      have HCAP := Lib.hid (own_cap hown)
      have HWD : Hid (Wd .i64 wr wr.heap.size A l) := by have h := hown; rw [← Hlen.out] at h; exact own_wd h
      have HB : Hid (Below w.heap.size w wr) := ((Below.refl _ w).alloc (Nat.le_refl _) _).trans (hbel.mono (by omega))
      clear hown hbel hstr
      go_wp2_with (go_at_call 59; refine (trim_any l A j c _ _ Hlen.out HCAP.out.1 HCAP.out.2 HWD.out).mono ?_; rintro e w' ⟨rfl, rfl⟩)
      go_ret
      rw [← HV.out]
      exact gives_trim HB.out HWD.out dl (by rw [Hlen.out]; exact HCAP.out.1) HCAP.out.2
    · by_cases h1 : s.size ≤ 2 * j + 1
      · go_wp2_with (at_builtin; refine wpList_append_own _ rfl _ _ 45 rfl (w.heap.size + 1) 3 i0 (.int .i64 0) 1 8 Tryd.underlying45 hi hz0 hz1 hz2 rfl (by decide) _ _ _ rfl (hown.alloc _) ⟨wr.heap.size, 0, none⟩ 1 1 [_] rfl rfl (cell_one_new _ _ _) (by simp [Value.oneCell']) (by unfold maxLen; omega) (by omega) (by simp; omega) ?_; intro v' w1 hown' hgrow _; obtain ⟨g', cap', rfl⟩ := ownsRow_succ hown'; have hb1 := hbel.trans (((Below.refl _ wr).alloc hsz _).grown hgrow (by simp; omega) (by intro k hk; exact own_block_ge hown hk)))
        go_roundw
        case rel =>
          have hs2 : s.data.toList.length = s.size := by simp
          have hx := byte_get s (s.size - 2 * j - 1) (by omega)
          refine ⟨j + 1, cap', _, l ++ [(s[s.size - 2 * j - 1]'(by omega)).toNat], by omega, by go_num, rfl, (hb1.cell (p := ⟨w.heap.size, 1, none⟩) (by simp)).trans (by simp [go_sem]), own_snoc hown' (wrap_one _), ?_, dl.append (Dl.one (one_lt _)), ?_, hb1⟩
          · rw [Hid, List.length_append, Hlen.out]; rfl
          · have h := Hv.out
            rw [RB_eq] at h
            rw [Hid, RB_eq]
            exact digits_one hs2 Hlen.out (by omega) (by rw [← hx]; congr 1; omega) h
        case measure => simp [intOf]; omega
      · go_wp2_with (at_builtin; refine wpList_append_own _ rfl _ _ 45 rfl (w.heap.size + 1) 3 i0 (.int .i64 0) 1 8 Tryd.underlying45 hi hz0 hz1 hz2 rfl (by decide) _ _ _ rfl (hown.alloc _) ⟨wr.heap.size, 0, none⟩ 1 1 [_] rfl rfl (cell_one_new _ _ _) (by simp [Value.oneCell']) (by unfold maxLen; omega) (by omega) (by simp; omega) ?_; intro v' w1 hown' hgrow _; obtain ⟨g', cap', rfl⟩ := ownsRow_succ hown'; have hb1 := hbel.trans (((Below.refl _ wr).alloc hsz _).grown hgrow (by simp; omega) (by intro k hk; exact own_block_ge hown hk)))
        go_roundw
        case rel =>
          have hs2 : s.data.toList.length = s.size := by simp
          have hx := byte_get s (s.size - 2 * j - 1) (by omega)
          have hy := byte_get s (s.size - 2 * j - 2) (by omega)
          refine ⟨j + 1, cap', _, l ++ [(s[s.size - 2 * j - 1]'(by omega)).toNat + 256 * (s[s.size - 2 * j - 2]'(by omega)).toNat], by omega, by go_num, rfl, (hb1.cell (p := ⟨w.heap.size, 1, none⟩) (by simp)).trans (by simp [go_sem]), own_snoc hown' (wrap_two _ _), ?_, dl.append (Dl.one (two_lt _ _)), ?_, hb1⟩
          · rw [Hid, List.length_append, Hlen.out]; rfl
          · have h := Hv.out
            rw [RB_eq] at h
            rw [Hid, RB_eq]
            exact digits_two hs2 Hlen.out (by omega) hx hy h
        case measure => simp [intOf]; omega
end Go.Proofs.YtapppahniablmaaDoor
