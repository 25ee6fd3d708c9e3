/- ref plus and minus. -/
import Derived.Test.YtapppahniablmaaDoorRTimes
namespace Go.Proofs.YtapppahniablmaaDoor
open Go.RowKit

/-- a number is handed back as digits, not yet trimmed -/
def GivesList (n K : Nat) (w : World) (e : Ending) (w' : World) : Prop :=
  ∃ A c l, e = .returned (.slice A l.length c) ∧ val RB l = n ∧ Dl RB l ∧ l.length ≤ K ∧ l.length ≤ c ∧ c ≤ 9223372036854775807 ∧ Wd .i64 w' w'.heap.size A l ∧ Below w.heap.size w w'

theorem plus_step {B : Nat} {a b l : List Nat} {k c x y : Nat} (hk : l.length = k) (hx : a[k]?.getD 0 = x) (hy : b[k]?.getD 0 = y) (h : val B l + B ^ k * c = val B (a.take k) + val B (b.take k)) :
    val B (l ++ [(x + c + y) % B]) + B ^ (k + 1) * ((x + c + y) / B) = val B (a.take (k + 1)) + val B (b.take (k + 1)) := by
  rw [val_snoc, hk, val_take_succ', val_take_succ', hx, hy, Nat.pow_succ, Nat.mul_assoc]
  have : B ^ k * ((x + c + y) % B) + B ^ k * (B * ((x + c + y) / B)) = B ^ k * x + B ^ k * c + B ^ k * y := by
    rw [← Nat.mul_add, Nat.mod_add_div, Nat.mul_add, Nat.mul_add]
  omega
theorem minus_step {B : Nat} {a b l : List Nat} {k c x y d c' : Nat} (hk : l.length = k) (hx : a[k]?.getD 0 = x) (hy : b[k]?.getD 0 = y) (hd : d + c + y = x + B * c')
    (h : val B l + val B (b.take k) = val B (a.take k) + B ^ k * c) :
    val B (l ++ [d]) + val B (b.take (k + 1)) = val B (a.take (k + 1)) + B ^ (k + 1) * c' := by
  rw [val_snoc, hk, val_take_succ', val_take_succ', hx, hy, Nat.pow_succ, Nat.mul_assoc]
  have := congrArg (B ^ k * ·) hd
  simp only [Nat.mul_add] at this
  omega

/-- while a carry is left, the digits are not yet so many -/
theorem carry_room {la lb lo : List Nat} {k c na nb : Nat} (hv : val RB lo + RB ^ k * c = val RB (la.take k) + val RB (lb.take k)) (_dlo : Dl RB lo) (da : Dl RB la) (db : Dl RB lb) (hl : lo.length = k) (hna : la.length = na) (hnb : lb.length = nb)
    (ha : na ≤ k) (hb : nb ≤ k) (hc : 0 < c) : k < na + nb + 1 := by
  rcases Nat.lt_or_ge k (na + nb + 1) with h | h
  · exact h
  · rw [List.take_of_length_le (by omega), List.take_of_length_le (by omega)] at hv
    have h1 := val_lt da
    have h2 := val_lt db
    rw [hna] at h1
    rw [hnb] at h2
    have h3 : RB ^ na ≤ RB ^ (k - 1) := Nat.pow_le_pow_right RB_pos (by omega)
    have h4 : RB ^ nb ≤ RB ^ (k - 1) := Nat.pow_le_pow_right RB_pos (by omega)
    have h5 : RB ^ k = RB ^ (k - 1) * RB := by rw [← Nat.pow_succ, show (k - 1).succ = k from by omega]
    have h6 : RB ^ k * 1 ≤ RB ^ k * c := Nat.mul_le_mul_left _ hc
    have h7 : RB ^ (k - 1) * 2 ≤ RB ^ (k - 1) * RB := Nat.mul_le_mul_left _ RB_two
    omega

set_option maxRecDepth 100000 in
set_option maxHeartbeats 2000000 in
theorem plus_any (la lb : List Nat) (Aa Ab : Option Addr) (na nb ca cb : Nat) (w : World) (da : Dl RB la) (db : Dl RB lb)
    (ha : Wd .i64 w w.heap.size Aa la) (hb : Wd .i64 w w.heap.size Ab lb) (hna : la.length = na) (hnb : lb.length = nb) (hsa : na ≤ 1000000000) (hsb : nb ≤ 1000000000) :
    Calls Tryd.prog 43 #[.slice Aa na ca, .slice Ab nb cb] w (GivesList (val RB la + val RB lb) (na + nb + 1) w) := by
  obtain ⟨i0, hi, hz0, hz1, hz2⟩ := info_parts info_int
  have HX := Lib.hid ha
  have HY := Lib.hid hb
  have Hnx := Lib.hid hna
  have Hny := Lib.hid hnb
  clear ha hb hna hnb
  go_enter Tryd.func43, Tryd.ntmps43
  go_wp2
  go_loopw [5, 6, 7] (fun v cr i wr => ∃ (k c cap : Nat) (A : Option Addr) (lo : List Nat), k ≤ na + nb + 1 ∧ c ≤ 1 ∧ i = .int .i64 k ∧ cr = .int .i64 c ∧ v = .slice A k cap ∧
      wr.ownsRow w.heap.size 3 1 (.slice A k cap) k (lo.map fun d : Nat => Value.int .i64 (d : Int)) ∧ Hid (lo.length = k) ∧ Dl RB lo ∧
      Hid (val RB lo + RB ^ k * c = val RB (la.take k) + val RB (lb.take k)) ∧ Below w.heap.size w wr) (fun _ _ i _ => na + nb + 1 - (intOf i).toNat)
  case atStart => exact ⟨0, 0, 0, none, [], by omega, by omega, rfl, rfl, rfl, ⟨rfl, .inl ⟨rfl, rfl⟩⟩, rfl, Dl.nil _, by simp [Hid, val], Below.refl _ _⟩
  case round =>
    obtain ⟨k, c, cap, A, lo, hk, hc, rfl, rfl, rfl, hown, Hlen, dlo, Hv, hbel⟩ := hrel
    have HBEL := Lib.hid hbel
    have hsz := hbel.size
    clear hbel
    by_cases h1 : k < na ∧ k < nb
    · obtain ⟨h1, h2⟩ := h1
      obtain ⟨ax, rfl, hcx⟩ := (HX.out.below HBEL.out).get (k := k) (by have := Hnx.out; omega)
      have hbx := da.getD RB_pos k
      rw [List.getD_eq_getElem?_getD, RB_eq] at hbx
      obtain ⟨ay, rfl, hcy⟩ := (HY.out.below HBEL.out).get (k := k) (by have := Hny.out; omega)
      have hby := db.getD RB_pos k
      rw [List.getD_eq_getElem?_getD, RB_eq] at hby
      go_wp2_with (at_builtin; refine wpList_append_own _ rfl _ _ 45 rfl w.heap.size 3 i0 (.int .i64 0) 1 8 Tryd.underlying45 hi hz0 hz1 hz2 rfl (by decide) _ _ _ rfl (hown.alloc _) ⟨wr.heap.size, 0, none⟩ 1 1 [_] rfl rfl (cell_one_new _ _ _) (by simp [Value.oneCell']) (by unfold maxLen; omega) (by omega) (by simp; omega) ?_; intro v' w1 hown' hgrow _; obtain ⟨g', cap', rfl⟩ := ownsRow_succ hown'; have hb1 := HBEL.out.trans (((Below.refl _ wr).alloc hsz _).grown hgrow (by simp; omega) (by intro k hk; exact own_block_ge hown hk)))
      go_roundw
      case rel =>
        have e1 : (((c : Nat) : Int) + ((la[k]?.getD 0 : Nat) : Int) + ((lb[k]?.getD 0 : Nat) : Int)) % 65536 = (((la[k]?.getD 0 + c + lb[k]?.getD 0) % RB : Nat) : Int) := by rw [RB_eq]; omega
        have e2 : (((c : Nat) : Int) + ((la[k]?.getD 0 : Nat) : Int) + ((lb[k]?.getD 0 : Nat) : Int)) / 65536 = (((la[k]?.getD 0 + c + lb[k]?.getD 0) / RB : Nat) : Int) := by rw [RB_eq]; omega
        refine ⟨k + 1, (la[k]?.getD 0 + c + lb[k]?.getD 0) / RB, cap', _, lo ++ [(la[k]?.getD 0 + c + lb[k]?.getD 0) % RB], by omega, ?_, by go_num, by rw [e2], rfl, own_snoc hown' e1, ?_, dlo.append (Dl.one (Nat.mod_lt _ RB_pos)), plus_step Hlen.out rfl rfl Hv.out, hb1⟩
        · rw [RB_eq]; omega
        · rw [Hid, List.length_append, Hlen.out]; rfl
      case measure => simp [intOf]; omega
    by_cases h2 : k < na
    · have h3 : ¬ k < nb := fun h => h1 ⟨h2, h⟩
      clear h1
      obtain ⟨ax, rfl, hcx⟩ := (HX.out.below HBEL.out).get (k := k) (by have := Hnx.out; omega)
      have hbx := da.getD RB_pos k
      rw [List.getD_eq_getElem?_getD, RB_eq] at hbx
      have HY0 : Hid (lb[k]?.getD 0 = 0) := by rw [Hid, List.getElem?_eq_none (by have := Hny.out; omega)]; rfl
      go_wp2_with (at_builtin; refine wpList_append_own _ rfl _ _ 45 rfl w.heap.size 3 i0 (.int .i64 0) 1 8 Tryd.underlying45 hi hz0 hz1 hz2 rfl (by decide) _ _ _ rfl (hown.alloc _) ⟨wr.heap.size, 0, none⟩ 1 1 [_] rfl rfl (cell_one_new _ _ _) (by simp [Value.oneCell']) (by unfold maxLen; omega) (by omega) (by simp; omega) ?_; intro v' w1 hown' hgrow _; obtain ⟨g', cap', rfl⟩ := ownsRow_succ hown'; have hb1 := HBEL.out.trans (((Below.refl _ wr).alloc hsz _).grown hgrow (by simp; omega) (by intro k hk; exact own_block_ge hown hk)))
      go_roundw
      case rel =>
        have e1 : (((c : Nat) : Int) + ((la[k]?.getD 0 : Nat) : Int)) % 65536 = (((la[k]?.getD 0 + c + 0) % RB : Nat) : Int) := by rw [RB_eq]; omega
        have e2 : (((c : Nat) : Int) + ((la[k]?.getD 0 : Nat) : Int)) / 65536 = (((la[k]?.getD 0 + c + 0) / RB : Nat) : Int) := by rw [RB_eq]; omega
        refine ⟨k + 1, (la[k]?.getD 0 + c + 0) / RB, cap', _, lo ++ [(la[k]?.getD 0 + c + 0) % RB], by omega, ?_, by go_num, by rw [e2], rfl, own_snoc hown' e1, ?_, dlo.append (Dl.one (Nat.mod_lt _ RB_pos)), plus_step Hlen.out rfl HY0.out Hv.out, hb1⟩
        · rw [RB_eq]; omega
        · rw [Hid, List.length_append, Hlen.out]; rfl
      case measure => simp [intOf]; omega
    by_cases h3 : k < nb
    · clear h1
      have HX0 : Hid (la[k]?.getD 0 = 0) := by rw [Hid, List.getElem?_eq_none (by have := Hnx.out; omega)]; rfl
      obtain ⟨ay, rfl, hcy⟩ := (HY.out.below HBEL.out).get (k := k) (by have := Hny.out; omega)
      have hby := db.getD RB_pos k
      rw [List.getD_eq_getElem?_getD, RB_eq] at hby
      go_wp2_with (at_builtin; refine wpList_append_own _ rfl _ _ 45 rfl w.heap.size 3 i0 (.int .i64 0) 1 8 Tryd.underlying45 hi hz0 hz1 hz2 rfl (by decide) _ _ _ rfl (hown.alloc _) ⟨wr.heap.size, 0, none⟩ 1 1 [_] rfl rfl (cell_one_new _ _ _) (by simp [Value.oneCell']) (by unfold maxLen; omega) (by omega) (by simp; omega) ?_; intro v' w1 hown' hgrow _; obtain ⟨g', cap', rfl⟩ := ownsRow_succ hown'; have hb1 := HBEL.out.trans (((Below.refl _ wr).alloc hsz _).grown hgrow (by simp; omega) (by intro k hk; exact own_block_ge hown hk)))
      go_roundw
      case rel =>
        have e1 : (((c : Nat) : Int) + ((lb[k]?.getD 0 : Nat) : Int)) % 65536 = (((0 + c + lb[k]?.getD 0) % RB : Nat) : Int) := by rw [RB_eq]; omega
        have e2 : (((c : Nat) : Int) + ((lb[k]?.getD 0 : Nat) : Int)) / 65536 = (((0 + c + lb[k]?.getD 0) / RB : Nat) : Int) := by rw [RB_eq]; omega
        refine ⟨k + 1, (0 + c + lb[k]?.getD 0) / RB, cap', _, lo ++ [(0 + c + lb[k]?.getD 0) % RB], by omega, ?_, by go_num, by rw [e2], rfl, own_snoc hown' e1, ?_, dlo.append (Dl.one (Nat.mod_lt _ RB_pos)), plus_step Hlen.out HX0.out rfl Hv.out, hb1⟩
        · rw [RB_eq]; omega
        · rw [Hid, List.length_append, Hlen.out]; rfl
      case measure => simp [intOf]; omega
    clear h1
    by_cases h4 : 0 < c
    · have hkk : k < na + nb + 1 := carry_room Hv.out dlo da db Hlen.out Hnx.out Hny.out (by omega) (by omega) h4
      have HX0 : Hid (la[k]?.getD 0 = 0) := by rw [Hid, List.getElem?_eq_none (by have := Hnx.out; omega)]; rfl
      have HY0 : Hid (lb[k]?.getD 0 = 0) := by rw [Hid, List.getElem?_eq_none (by have := Hny.out; omega)]; rfl
      go_wp2_with (at_builtin; refine wpList_append_own _ rfl _ _ 45 rfl w.heap.size 3 i0 (.int .i64 0) 1 8 Tryd.underlying45 hi hz0 hz1 hz2 rfl (by decide) _ _ _ rfl (hown.alloc _) ⟨wr.heap.size, 0, none⟩ 1 1 [_] rfl rfl (cell_one_new _ _ _) (by simp [Value.oneCell']) (by unfold maxLen; omega) (by omega) (by simp; omega) ?_; intro v' w1 hown' hgrow _; obtain ⟨g', cap', rfl⟩ := ownsRow_succ hown'; have hb1 := HBEL.out.trans (((Below.refl _ wr).alloc hsz _).grown hgrow (by simp; omega) (by intro k hk; exact own_block_ge hown hk)))
      go_roundw
      case rel =>
        have e1 : (((c : Nat) : Int)) % 65536 = (((0 + c + 0) % RB : Nat) : Int) := by rw [RB_eq]; omega
        have e2 : (((c : Nat) : Int)) / 65536 = (((0 + c + 0) / RB : Nat) : Int) := by rw [RB_eq]; omega
        refine ⟨k + 1, (0 + c + 0) / RB, cap', _, lo ++ [(0 + c + 0) % RB], by omega, ?_, by go_num, by rw [e2], rfl, own_snoc hown' e1, ?_, dlo.append (Dl.one (Nat.mod_lt _ RB_pos)), plus_step Hlen.out HX0.out HY0.out Hv.out, hb1⟩
        · rw [RB_eq]; omega
        · rw [Hid, List.length_append, Hlen.out]; rfl
      case measure => simp [intOf]; omega
    · obtain rfl : c = 0 := by omega
      have HCAP := Lib.hid (own_cap hown)
      have HWD : Hid (Wd .i64 wr wr.heap.size A lo) := by have h := hown; rw [← Hlen.out] at h; exact own_wd h
      clear hown
      go_wp2
      go_ret
      have hv := Hv.out
      rw [List.take_of_length_le (l := la) (by have := Hnx.out; omega), List.take_of_length_le (l := lb) (by have := Hny.out; omega), Nat.mul_zero, Nat.add_zero] at hv
      have hl := Hlen.out
      exact ⟨A, cap, lo, by rw [hl]; rfl, hv, dlo, by omega, by rw [hl]; exact HCAP.out.1, HCAP.out.2, HWD.out, HBEL.out⟩
end Go.Proofs.YtapppahniablmaaDoor
