/- law 22: RayFirst, by the reckoner. -/
import Derived.Test.YtefgchmbdijjdaaGreatDoorRyc
namespace Go.Proofs.YtefgchmbdijjdaaGreatDoor
open Go.RowKit
set_option maxRecDepth 100000

theorem isSome_of {s : Option Nat} (h : s.isSome = true) : ∃ i, s = some i := Option.isSome_iff_exists.1 h
section
variable {R : RI} {l : List TR}
theorem best_spec : Best (cAt R l) (qAt R l) 0 l.length (frstS R l) := fwd_best _ _ _
theorem best_some {i : Nat} (h : frstS R l = some i) : i < l.length ∧ cAt R l i = true ∧ ∀ j, j < l.length → cAt R l j = true → qAt R l i < qAt R l j ∨ qAt R l i = qAt R l j ∧ i ≤ j := by
  have := best_spec (R := R) (l := l)
  rw [h] at this
  exact ⟨this.2.1, this.2.2.1, fun j hj => this.2.2.2 j (Nat.zero_le _) hj⟩
theorem best_none (h : frstS R l = none) : ∀ j, j < l.length → cAt R l j = false := by
  have := best_spec (R := R) (l := l)
  rw [h] at this
  exact fun j hj => this j (Nat.zero_le _) hj
theorem cnt_zero : ∀ n, (cntK R l n = 0 ↔ ∀ j, j < n → cAt R l j = false)
  | 0 => ⟨fun _ j hj => absurd hj (Nat.not_lt_zero j), fun _ => rfl⟩
  | n + 1 => by
    rw [cntK_s]
    constructor
    · intro h j hj
      by_cases hc : cAt R l n = true
      · rw [if_pos hc] at h; omega
      · by_cases e : j = n
        · subst e; simpa using hc
        · exact (cnt_zero n).1 (by omega) j (by omega)
    · intro h
      rw [(cnt_zero n).2 fun j hj => h j (by omega), h n (by omega)]; rfl
theorem cnt_some : decide (0 < ((cntK R l l.length : Nat) : Int)) = (frstS R l).isSome := by
  cases hs : frstS R l with
  | none => rw [(cnt_zero l.length).2 (best_none hs)]; rfl
  | some i =>
    obtain ⟨h1, h2, -⟩ := best_some hs
    have : cntK R l l.length ≠ 0 := fun e => by have := (cnt_zero l.length).1 e i h1; rw [h2] at this; cases this
    exact decide_eq_true (by omega)
theorem cnt_no (h : (!((frstS R l).isSome == decide (0 < ((cntK R l l.length : Nat) : Int)))) = true) : False := by
  rw [cnt_some] at h; simp at h
theorem hK_nn (s : Option Nat) (h : decide (hK s < 0) = true) : False := by
  have h := of_decide_eq_true h
  cases s with
  | none => exact absurd h (by decide)
  | some i => have h : ((min i 1000000 : Nat) : Int) < 0 := h; omega
theorem hK_eq {i : Nat} (hi : i < l.length) (hn : l.length ≤ 1000000) : hK (some i) = (i : Int) := (hK_some hi hn).symm
variable (hn : l.length ≤ 1000000)
include hn in
theorem hK_hi (hS : (frstS R l).isSome = true) (h : decide ((l.length : Int) ≤ hK (frstS R l)) = true) : False := by
  obtain ⟨i, hi⟩ := isSome_of hS
  have h := of_decide_eq_true h
  have h1 := (best_some hi).1
  rw [hi, hK_eq h1 hn] at h
  omega
variable {k : Nat} (hlt : k < l.length)
include hlt
theorem fr_none (hc : crB R l[k] = true) (h : (!(frstS R l).isSome) = true) : False := by
  rw [(cr_at hlt).1] at hc
  cases hs : frstS R l with
  | none => have := best_none hs k hlt; rw [hc] at this; cases this
  | some i => rw [hs] at h; cases h
theorem fr_lt (hc : crB R l[k] = true) (h4 : (!(frstS R l).isSome) = false) (h : decide ((pN (crN R l[k]) (crD R l[k]) * pD (hD R l (frstS R l)) - pN (hN R l (frstS R l)) (hD R l (frstS R l)) * pD (crD R l[k])).sign < 0) = true) : False := by
  rw [cmpR_lt, (cr_at hlt).2.1, (cr_at hlt).2.2] at h
  rw [(cr_at hlt).1] at hc
  obtain ⟨i, hi⟩ := isSome_of (s := frstS R l) (by simpa using h4)
  rw [hi] at h
  have h : qAt R l k < qAt R l i := of_decide_eq_true h
  have := (best_some hi).2.2 k hlt hc
  grind
theorem fr_q (h16 : (decide (crN R l[k] = hN R l (frstS R l)) && decide (crD R l[k] = hD R l (frstS R l))) = true) {i : Nat} (hi : frstS R l = some i) : qAt R l k = qAt R l i := by
  rw [Bool.and_eq_true, decide_eq_true_eq, decide_eq_true_eq, hi, (cr_at hlt).2.1, (cr_at hlt).2.2] at h16
  show ratOf (hN R l (some k)) (hD R l (some k)) = ratOf (hN R l (some i)) (hD R l (some i))
  rw [h16.1, h16.2]
include hn in
theorem fr_tie (hc : crB R l[k] = true) (h4 : (!(frstS R l).isSome) = false) (h16 : (decide (crN R l[k] = hN R l (frstS R l)) && decide (crD R l[k] = hD R l (frstS R l))) = true) (h24 : decide ((k : Int) < hK (frstS R l)) = true) : False := by
  obtain ⟨i, hi⟩ := isSome_of (s := frstS R l) (by simpa using h4)
  have hq := fr_q hlt h16 hi
  rw [(cr_at hlt).1] at hc
  have hb := best_some hi
  have h24 := of_decide_eq_true h24
  rw [hi, hK_eq hb.1 hn] at h24
  rcases hb.2.2 k hlt hc with h | ⟨_, h⟩
  · rw [hq] at h; exact Rat.lt_irrefl h
  · omega
include hn in
theorem fr_best (h26 : (frstS R l).isSome = true) (h32 : decide ((k : Int) = hK (frstS R l)) = true) : crB R l[k] = true ∧ (decide (crN R l[k] = hN R l (frstS R l)) && decide (crD R l[k] = hD R l (frstS R l))) = true := by
  obtain ⟨i, hi⟩ := isSome_of h26
  have hb := best_some hi
  have h32 := of_decide_eq_true h32
  rw [hi, hK_eq hb.1 hn] at h32
  obtain rfl : k = i := by omega
  refine ⟨(cr_at hlt).1.trans hb.2.1, ?_⟩
  rw [hi, (cr_at hlt).2.1, (cr_at hlt).2.2, decide_eq_true rfl, decide_eq_true rfl]; rfl
end
theorem sgL_cons (x : Int) (l : List Int) : sgL (x :: l) = if x.sign = 0 then sgL l else x.sign := rfl
/-- a crossing lies ahead -/
theorem crossN_nn (r : RZ) (p q s : V3) : 0 ≤ crossN r p q s := by
  unfold crossN
  split
  · rename_i h
    have hs := slope_nz h
    have hh := h
    unfold crossB at hh
    rw [Bool.and_eq_true, Bool.and_eq_true, Bool.and_eq_true] at hh
    obtain ⟨h1, -, -, h2⟩ := hh
    have hw := perm_w h1
    have h2 := of_decide_eq_true h2
    have h2 : (if (highZ r p q s).sign = 0 then sgL [(normZ p q s).neg.x, (normZ p q s).neg.y, (normZ p q s).neg.z] else (highZ r p q s).sign) = (slopeZ r p q s).sign := h2
    rw [(frac_rat (n := highZ r p q s) (d := r.w * slopeZ r p q s) (Int.mul_ne_zero (by omega) hs)).1]
    have key : (0 : Rat) ≤ (highZ r p q s : Rat) / ((r.w * slopeZ r p q s : Int) : Rat) := by
      generalize highZ r p q s = H at h2
      generalize slopeZ r p q s = T at h2 hs
      rcases Int.lt_trichotomy T 0 with ht | ht | ht
      · have hH : H ≤ 0 := by
          rw [Int.sign_eq_neg_one_of_neg ht] at h2
          rcases Int.lt_trichotomy H 0 with h3 | h3 | h3
          · omega
          · omega
          · rw [Int.sign_eq_one_of_pos h3] at h2; simp at h2
        have hc : ((r.w * T : Int) : Rat) < 0 := Rat.intCast_neg_iff.2 (Int.mul_neg_of_pos_of_neg hw ht)
        have h4 : (H : Rat) ≤ 0 := Rat.intCast_nonpos.2 hH
        rw [← le_muln hc]; simpa using h4
      · exact absurd ht hs
      · have hH : 0 ≤ H := by
          rw [Int.sign_eq_one_of_pos ht] at h2
          rcases Int.lt_trichotomy H 0 with h3 | h3 | h3
          · rw [Int.sign_eq_neg_one_of_neg h3] at h2; simp at h2
          · omega
          · omega
        have hc : 0 < ((r.w * T : Int) : Rat) := Rat.intCast_pos.2 (Int.mul_pos hw ht)
        have h4 : (0 : Rat) ≤ (H : Rat) := Rat.intCast_nonneg.2 hH
        rw [← mulp_le hc]; simpa using h4
    exact Rat.num_nonneg.2 key
  · exact Int.le_refl 0
theorem crN_nn {R : RI} {t : TR} (h : decide (crN R t < 0) = true) : False := by
  have h := of_decide_eq_true h
  have := crossN_nn R.z3 t.a.v t.b.v t.c.v
  unfold crN at h
  omega
abbrev rdFi : List (FuncId × Dr) := [(28, dFst), (24, dCnt)]
theorem rdFi_ok : AllR rdFi := .cons spFirstY (.cons spCountY (.nil))
noncomputable abbrev EFi : Env := envN 0 baseLL rdFi fun _ => false
theorem dFi0 {n0 : Nat} {args : List SV} {hf : Nat → Option Blk} {o : OT} {b : Nat} {R : RI} (ha : args = [.agg (riC R), o.sl b]) (hb : hf b = some o.blk) (hn : o.l.length ≤ 1000000) :
    ({ T := EFi.T, un := EFi.un, D := EFi.D, O := EFi.O, n0 := n0, ord := EFi.ord } : Env).D 28 args hf = some (none, frstV R o.l) := by
  have _ := hn
  subst ha
  exact dFst_ot hb hn
theorem dFi1 {n0 : Nat} {args : List SV} {hf : Nat → Option Blk} {o : OT} {b : Nat} {R : RI} (ha : args = [.agg (riC R), o.sl b]) (hb : hf b = some o.blk) (hn : o.l.length ≤ 1000000) :
    ({ T := EFi.T, un := EFi.un, D := EFi.D, O := EFi.O, n0 := n0, ord := EFi.ord } : Env).D 24 args hf = some (none, cntV R o.l hn) := by
  have _ := hn
  subst ha
  exact dCnt_ot hb hn
set_option maxHeartbeats 32000000 in
theorem csLawFi : CSp Tryz.prog 9 cLaw := csp_of (envN_ok baseLL_ok rdFi_ok 0 fun _ => false) mixed (hnew_ok lawC_ok (inl_ok (envN_ok baseLL_ok rdFi_ok 20 fun _ => false) mixed noF_ok 0)) ⟨Tryz.func9, by kernel_rfl, by kernel_rfl⟩ fun args ros K hc => by
  obtain ⟨⟨r, b, v, ty, L, rfl, rfl, hv⟩, hc⟩ := hc
  refine imp_viaO (Z := ?zl) (fun hmg => ?curl) ?nxtl
  case curl =>
    rcases hv with ⟨nl, len, cap, hl, rfl, hL⟩ | ⟨a, cap, rfl, _, _⟩
    · refine ⟨fun ρ ρ' e => ?_, ?_⟩
      · have := e 0 (Nat.zero_lt_one)
        simp only [List.map, SV.den, C.den, C.cells, this]
        rfl
      conv => whnf
      refine ⟨⟨intsC_pure L, trivial⟩, .inl ⟨⟨_, _, _, _, _, _, L, rfl, rfl, hL⟩, fun o ho => ?_⟩⟩
      have hn : o.l.length ≤ 1000000 := by omega
      conv => whnf
      conv =>
        arg 2
        tactic' =>
          apply dFi0 (hn := hn) (o := o) (b := 2) (R := nearI r) (ha := ?haw11) (hb := ?hbw11)
          case haw11 => rfl
          case hbw11 => rfl
      conv => whnf
      conv =>
        arg 2
        tactic' =>
          apply dFi1 (hn := hn) (o := o) (b := 2) (R := nearI r) (ha := ?haw12) (hb := ?hbw12)
          case haw12 => rfl
          case hbw12 => rfl
      conv => whnf
      refine bcase_intro (fun h6 => ?_) (fun h6 => ?_)
      · have h6 : (!((frstS (nearI r) o.l).isSome == decide (0 < ((cntK (nearI r) o.l o.l.length : Nat) : Int)))) = true := h6
        exact (cnt_no h6).elim
      · have h6 : (!((frstS (nearI r) o.l).isSome == decide (0 < ((cntK (nearI r) o.l o.l.length : Nat) : Int)))) = false := h6
        conv => whnf
        refine bcase_intro (fun h8 => ?_) (fun h8 => ?_)
        · have h8 : (frstS (nearI r) o.l).isSome = true := h8
          conv => whnf
          refine bcase_intro (fun h12 => ?_) (fun h12 => ?_)
          · have h12 : decide (hK (frstS (nearI r) o.l) < 0) = true := h12
            exact (hK_nn _ h12).elim
          · have h12 : decide (hK (frstS (nearI r) o.l) < 0) = false := h12
            conv => whnf
            refine bcase_intro (fun h17 => ?_) (fun h17 => ?_)
            · have h17 : decide ((o.l.length : Int) ≤ hK (frstS (nearI r) o.l)) = true := h17
              exact (hK_hi hn h8 h17).elim
            · have h17 : decide ((o.l.length : Int) ≤ hK (frstS (nearI r) o.l)) = false := h17
              conv => whnf
              refine loop_st (G := {k : Nat // k ≤ o.l.length} × (Nat → Value)) (fun g => (.c (.val (g.2 0)) :: .c (.val (g.2 1)) :: .c (.val (g.2 2)) :: .c (.ptr 1 0) :: .c (.val (g.2 4)) :: .c (.val (g.2 5)) :: .c (.val (g.2 6)) :: .c (.val (.bool true)) :: .c (.val (g.2 8)) :: .c (.ptr 3 0) :: .c (.val (.bool (frstS (nearI r) o.l).isSome)) :: .c (.val (g.2 11)) :: .c (.val (g.2 12)) :: .c (.val (g.2 13)) :: .c (.val (g.2 14)) :: .c (.val (g.2 15)) :: .c (.val (g.2 16)) :: .c (.val (g.2 17)) :: .c (.val (g.2 18)) :: .c (.val (g.2 19)) :: .c (.val (g.2 20)) :: .c (.val (g.2 21)) :: .c (.val (g.2 22)) :: .c (.val (g.2 23)) :: .c (.val (g.2 24)) :: .c (.val (g.2 25)) :: .c (.val (g.2 26)) :: .c (.val (g.2 27)) :: .c (.val (g.2 28)) :: .c (.val (g.2 29)) :: .c (.val (g.2 30)) :: .c (.val (g.2 31)) :: .c (.val (g.2 32)) :: .c (.val (g.2 33)) :: .c (.val (g.2 34)) :: .c (.val (g.2 35)) :: .c (.val (g.2 36)) :: .c (.val (g.2 37)) :: .c (.val (g.2 38)) :: .c (.val (g.2 39)) :: .c (.val (g.2 40)) :: .c (.val (g.2 41)) :: .c (.val (g.2 42)) :: .c (.val (g.2 43)) :: .c (.val (g.2 44)) :: .c (.val (g.2 45)) :: .c (.val (g.2 46)) :: .c (.val (g.2 47)) :: o.sl 2 :: .c (.int (o.l.length : Nat) o.ok.ir) :: .c (.int (g.1.1 : Nat) (lt_irT o.ok g.1.2)) :: .c (.val (g.2 51)) :: .c (.val (g.2 52)) :: .c (.val (g.2 53)) :: .c (.val (g.2 54)) :: .c (.val (g.2 55)) :: .c (.val (g.2 56)) :: .c (.val (g.2 57)) :: .c (.val (g.2 58)) :: .c (.val (g.2 59)) :: .c (.val (g.2 60)) :: .c (.val (g.2 61)) :: .c (.val (g.2 62)) :: .c (.val (g.2 63)) :: .c (.val (g.2 64)) :: .c (.val (g.2 65)) :: .c (.val (g.2 66)) :: .c (.val (g.2 67)) :: .c (.val (g.2 68)) :: .c (.val (g.2 69)) :: .c (.val (g.2 70)) :: .c (.val (g.2 71)) :: .c (.val (g.2 72)) :: .c (.val (g.2 73)) :: .c (.val (g.2 74)) :: .c (.val (g.2 75)) :: .c (.val (g.2 76)) :: .c (.val (g.2 77)) :: .c (.val (g.2 78)) :: .c (.val (g.2 79)) :: .c (.val (g.2 80)) :: .c (.val (g.2 81)) :: .c (.val (g.2 82)) :: .c (.val (g.2 83)) :: .c (.val (g.2 84)) :: .c (.val (g.2 85)) :: .c (.val (g.2 86)) :: .c (.val (g.2 87)) :: .c (.val (g.2 88)) :: .c (.val (g.2 89)) :: .c (.val (g.2 90)) :: .c (.val (g.2 91)) :: .c (.val (g.2 92)) :: .c (.val (g.2 93)) :: .c (.val (g.2 94)) :: .c (.val (g.2 95)) :: .c (.val (g.2 96)) :: .c (.val (g.2 97)) :: .c (.val (g.2 98)) :: .c (.val (g.2 99)) :: .c (.val (g.2 100)) :: .c (.val (g.2 101)) :: .c (.val (g.2 102)) :: .c (.val (g.2 103)) :: .c (.val (g.2 104)) :: .c (.val (g.2 105)) :: .c (.val (g.2 106)) :: .c (.val (g.2 107)) :: .c (.val (g.2 108)) :: .c (.val (g.2 109)) :: .c (.val (g.2 110)) :: [])) (fun _ => [⟨ty, true, intsC L, 0⟩, ⟨24, false, riC (nearI r), 0⟩, o.blk, ⟨65, false, hitC (nearI r) o.l (frstS (nearI r) o.l), 0⟩]) (fun g => o.l.length - g.1.1) ?_ ?_
              · refine ⟨[0, 1, 2, 3], [3, 7, 9, 10, 48, 49, 50], [0, 1, 2, 3], fun vs => ?_⟩
                conv => whnf
                refine ⟨intsC_pure L, fun _ _ => rfl, o.new.1, fun _ _ => rfl, ?_⟩
                conv => whnf
                refine ⟨_, _, ?_, ?_, (⟨0, Nat.zero_le _⟩, vs), rfl, rfl⟩
                · exact stm _
                · exact ⟨⟨rfl, rfl, rfl, fun _ => rfl⟩, ⟨rfl, rfl, rfl, fun _ => rfl⟩, ⟨rfl, rfl, rfl, fun _ => rfl⟩, ⟨rfl, rfl, rfl, fun _ => rfl⟩, trivial⟩
              · exact hmg o ho
        · have h8 : (frstS (nearI r) o.l).isSome = false := h8
          conv => whnf
          refine loop_st (G := {k : Nat // k ≤ o.l.length} × (Nat → Value)) (fun g => (.c (.val (g.2 0)) :: .c (.val (g.2 1)) :: .c (.val (g.2 2)) :: .c (.ptr 1 0) :: .c (.val (g.2 4)) :: .c (.val (g.2 5)) :: .c (.val (g.2 6)) :: .c (.val (.bool true)) :: .c (.val (g.2 8)) :: .c (.ptr 3 0) :: .c (.val (.bool (frstS (nearI r) o.l).isSome)) :: .c (.val (g.2 11)) :: .c (.val (g.2 12)) :: .c (.val (g.2 13)) :: .c (.val (g.2 14)) :: .c (.val (g.2 15)) :: .c (.val (g.2 16)) :: .c (.val (g.2 17)) :: .c (.val (g.2 18)) :: .c (.val (g.2 19)) :: .c (.val (g.2 20)) :: .c (.val (g.2 21)) :: .c (.val (g.2 22)) :: .c (.val (g.2 23)) :: .c (.val (g.2 24)) :: .c (.val (g.2 25)) :: .c (.val (g.2 26)) :: .c (.val (g.2 27)) :: .c (.val (g.2 28)) :: .c (.val (g.2 29)) :: .c (.val (g.2 30)) :: .c (.val (g.2 31)) :: .c (.val (g.2 32)) :: .c (.val (g.2 33)) :: .c (.val (g.2 34)) :: .c (.val (g.2 35)) :: .c (.val (g.2 36)) :: .c (.val (g.2 37)) :: .c (.val (g.2 38)) :: .c (.val (g.2 39)) :: .c (.val (g.2 40)) :: .c (.val (g.2 41)) :: .c (.val (g.2 42)) :: .c (.val (g.2 43)) :: .c (.val (g.2 44)) :: .c (.val (g.2 45)) :: .c (.val (g.2 46)) :: .c (.val (g.2 47)) :: o.sl 2 :: .c (.int (o.l.length : Nat) o.ok.ir) :: .c (.int (g.1.1 : Nat) (lt_irT o.ok g.1.2)) :: .c (.val (g.2 51)) :: .c (.val (g.2 52)) :: .c (.val (g.2 53)) :: .c (.val (g.2 54)) :: .c (.val (g.2 55)) :: .c (.val (g.2 56)) :: .c (.val (g.2 57)) :: .c (.val (g.2 58)) :: .c (.val (g.2 59)) :: .c (.val (g.2 60)) :: .c (.val (g.2 61)) :: .c (.val (g.2 62)) :: .c (.val (g.2 63)) :: .c (.val (g.2 64)) :: .c (.val (g.2 65)) :: .c (.val (g.2 66)) :: .c (.val (g.2 67)) :: .c (.val (g.2 68)) :: .c (.val (g.2 69)) :: .c (.val (g.2 70)) :: .c (.val (g.2 71)) :: .c (.val (g.2 72)) :: .c (.val (g.2 73)) :: .c (.val (g.2 74)) :: .c (.val (g.2 75)) :: .c (.val (g.2 76)) :: .c (.val (g.2 77)) :: .c (.val (g.2 78)) :: .c (.val (g.2 79)) :: .c (.val (g.2 80)) :: .c (.val (g.2 81)) :: .c (.val (g.2 82)) :: .c (.val (g.2 83)) :: .c (.val (g.2 84)) :: .c (.val (g.2 85)) :: .c (.val (g.2 86)) :: .c (.val (g.2 87)) :: .c (.val (g.2 88)) :: .c (.val (g.2 89)) :: .c (.val (g.2 90)) :: .c (.val (g.2 91)) :: .c (.val (g.2 92)) :: .c (.val (g.2 93)) :: .c (.val (g.2 94)) :: .c (.val (g.2 95)) :: .c (.val (g.2 96)) :: .c (.val (g.2 97)) :: .c (.val (g.2 98)) :: .c (.val (g.2 99)) :: .c (.val (g.2 100)) :: .c (.val (g.2 101)) :: .c (.val (g.2 102)) :: .c (.val (g.2 103)) :: .c (.val (g.2 104)) :: .c (.val (g.2 105)) :: .c (.val (g.2 106)) :: .c (.val (g.2 107)) :: .c (.val (g.2 108)) :: .c (.val (g.2 109)) :: .c (.val (g.2 110)) :: [])) (fun _ => [⟨ty, true, intsC L, 0⟩, ⟨24, false, riC (nearI r), 0⟩, o.blk, ⟨65, false, hitC (nearI r) o.l (frstS (nearI r) o.l), 0⟩]) (fun g => o.l.length - g.1.1) ?_ ?_
          · refine ⟨[0, 1, 2, 3], [3, 7, 9, 10, 48, 49, 50], [0, 1, 2, 3], fun vs => ?_⟩
            conv => whnf
            refine ⟨intsC_pure L, fun _ _ => rfl, o.new.1, fun _ _ => rfl, ?_⟩
            conv => whnf
            refine ⟨_, _, ?_, ?_, (⟨0, Nat.zero_le _⟩, vs), rfl, rfl⟩
            · exact stm _
            · exact ⟨⟨rfl, rfl, rfl, fun _ => rfl⟩, ⟨rfl, rfl, rfl, fun _ => rfl⟩, ⟨rfl, rfl, rfl, fun _ => rfl⟩, ⟨rfl, rfl, rfl, fun _ => rfl⟩, trivial⟩
          · exact hmg o ho
    · refine ⟨fun ρ ρ' _ => rfl, ?_⟩
      conv => whnf
      refine ⟨trivial, .inr ⟨⟨_, _, _, rfl, rfl⟩, fun o ho => ?_⟩⟩
      have hn : o.l.length ≤ 1000000 := by omega
      conv => whnf
      conv =>
        arg 2
        tactic' =>
          apply dFi0 (hn := hn) (o := o) (b := 2) (R := nearI r) (ha := ?haw11) (hb := ?hbw11)
          case haw11 => rfl
          case hbw11 => rfl
      conv => whnf
      conv =>
        arg 2
        tactic' =>
          apply dFi1 (hn := hn) (o := o) (b := 2) (R := nearI r) (ha := ?haw12) (hb := ?hbw12)
          case haw12 => rfl
          case hbw12 => rfl
      conv => whnf
      refine bcase_intro (fun h6 => ?_) (fun h6 => ?_)
      · have h6 : (!((frstS (nearI r) o.l).isSome == decide (0 < ((cntK (nearI r) o.l o.l.length : Nat) : Int)))) = true := h6
        exact (cnt_no h6).elim
      · have h6 : (!((frstS (nearI r) o.l).isSome == decide (0 < ((cntK (nearI r) o.l o.l.length : Nat) : Int)))) = false := h6
        conv => whnf
        refine bcase_intro (fun h8 => ?_) (fun h8 => ?_)
        · have h8 : (frstS (nearI r) o.l).isSome = true := h8
          conv => whnf
          refine bcase_intro (fun h12 => ?_) (fun h12 => ?_)
          · have h12 : decide (hK (frstS (nearI r) o.l) < 0) = true := h12
            exact (hK_nn _ h12).elim
          · have h12 : decide (hK (frstS (nearI r) o.l) < 0) = false := h12
            conv => whnf
            refine bcase_intro (fun h17 => ?_) (fun h17 => ?_)
            · have h17 : decide ((o.l.length : Int) ≤ hK (frstS (nearI r) o.l)) = true := h17
              exact (hK_hi hn h8 h17).elim
            · have h17 : decide ((o.l.length : Int) ≤ hK (frstS (nearI r) o.l)) = false := h17
              conv => whnf
              refine loop_st (G := {k : Nat // k ≤ o.l.length} × (Nat → Value)) (fun g => (.c (.val (g.2 0)) :: .c (.val (g.2 1)) :: .c (.val (g.2 2)) :: .c (.ptr 1 0) :: .c (.val (g.2 4)) :: .c (.val (g.2 5)) :: .c (.val (g.2 6)) :: .c (.val (.bool true)) :: .c (.val (g.2 8)) :: .c (.ptr 3 0) :: .c (.val (.bool (frstS (nearI r) o.l).isSome)) :: .c (.val (g.2 11)) :: .c (.val (g.2 12)) :: .c (.val (g.2 13)) :: .c (.val (g.2 14)) :: .c (.val (g.2 15)) :: .c (.val (g.2 16)) :: .c (.val (g.2 17)) :: .c (.val (g.2 18)) :: .c (.val (g.2 19)) :: .c (.val (g.2 20)) :: .c (.val (g.2 21)) :: .c (.val (g.2 22)) :: .c (.val (g.2 23)) :: .c (.val (g.2 24)) :: .c (.val (g.2 25)) :: .c (.val (g.2 26)) :: .c (.val (g.2 27)) :: .c (.val (g.2 28)) :: .c (.val (g.2 29)) :: .c (.val (g.2 30)) :: .c (.val (g.2 31)) :: .c (.val (g.2 32)) :: .c (.val (g.2 33)) :: .c (.val (g.2 34)) :: .c (.val (g.2 35)) :: .c (.val (g.2 36)) :: .c (.val (g.2 37)) :: .c (.val (g.2 38)) :: .c (.val (g.2 39)) :: .c (.val (g.2 40)) :: .c (.val (g.2 41)) :: .c (.val (g.2 42)) :: .c (.val (g.2 43)) :: .c (.val (g.2 44)) :: .c (.val (g.2 45)) :: .c (.val (g.2 46)) :: .c (.val (g.2 47)) :: o.sl 2 :: .c (.int (o.l.length : Nat) o.ok.ir) :: .c (.int (g.1.1 : Nat) (lt_irT o.ok g.1.2)) :: .c (.val (g.2 51)) :: .c (.val (g.2 52)) :: .c (.val (g.2 53)) :: .c (.val (g.2 54)) :: .c (.val (g.2 55)) :: .c (.val (g.2 56)) :: .c (.val (g.2 57)) :: .c (.val (g.2 58)) :: .c (.val (g.2 59)) :: .c (.val (g.2 60)) :: .c (.val (g.2 61)) :: .c (.val (g.2 62)) :: .c (.val (g.2 63)) :: .c (.val (g.2 64)) :: .c (.val (g.2 65)) :: .c (.val (g.2 66)) :: .c (.val (g.2 67)) :: .c (.val (g.2 68)) :: .c (.val (g.2 69)) :: .c (.val (g.2 70)) :: .c (.val (g.2 71)) :: .c (.val (g.2 72)) :: .c (.val (g.2 73)) :: .c (.val (g.2 74)) :: .c (.val (g.2 75)) :: .c (.val (g.2 76)) :: .c (.val (g.2 77)) :: .c (.val (g.2 78)) :: .c (.val (g.2 79)) :: .c (.val (g.2 80)) :: .c (.val (g.2 81)) :: .c (.val (g.2 82)) :: .c (.val (g.2 83)) :: .c (.val (g.2 84)) :: .c (.val (g.2 85)) :: .c (.val (g.2 86)) :: .c (.val (g.2 87)) :: .c (.val (g.2 88)) :: .c (.val (g.2 89)) :: .c (.val (g.2 90)) :: .c (.val (g.2 91)) :: .c (.val (g.2 92)) :: .c (.val (g.2 93)) :: .c (.val (g.2 94)) :: .c (.val (g.2 95)) :: .c (.val (g.2 96)) :: .c (.val (g.2 97)) :: .c (.val (g.2 98)) :: .c (.val (g.2 99)) :: .c (.val (g.2 100)) :: .c (.val (g.2 101)) :: .c (.val (g.2 102)) :: .c (.val (g.2 103)) :: .c (.val (g.2 104)) :: .c (.val (g.2 105)) :: .c (.val (g.2 106)) :: .c (.val (g.2 107)) :: .c (.val (g.2 108)) :: .c (.val (g.2 109)) :: .c (.val (g.2 110)) :: [])) (fun _ => [⟨ty, true, intsC L, 0⟩, ⟨24, false, riC (nearI r), 0⟩, o.blk, ⟨65, false, hitC (nearI r) o.l (frstS (nearI r) o.l), 0⟩]) (fun g => o.l.length - g.1.1) ?_ ?_
              · refine ⟨[0, 1, 2, 3], [3, 7, 9, 10, 48, 49, 50], [0, 1, 2, 3], fun vs => ?_⟩
                conv => whnf
                refine ⟨intsC_pure L, fun _ _ => rfl, o.new.1, fun _ _ => rfl, ?_⟩
                conv => whnf
                refine ⟨_, _, ?_, ?_, (⟨0, Nat.zero_le _⟩, vs), rfl, rfl⟩
                · exact stm _
                · exact ⟨⟨rfl, rfl, rfl, fun _ => rfl⟩, ⟨rfl, rfl, rfl, fun _ => rfl⟩, ⟨rfl, rfl, rfl, fun _ => rfl⟩, ⟨rfl, rfl, rfl, fun _ => rfl⟩, trivial⟩
              · exact hmg o ho
        · have h8 : (frstS (nearI r) o.l).isSome = false := h8
          conv => whnf
          refine loop_st (G := {k : Nat // k ≤ o.l.length} × (Nat → Value)) (fun g => (.c (.val (g.2 0)) :: .c (.val (g.2 1)) :: .c (.val (g.2 2)) :: .c (.ptr 1 0) :: .c (.val (g.2 4)) :: .c (.val (g.2 5)) :: .c (.val (g.2 6)) :: .c (.val (.bool true)) :: .c (.val (g.2 8)) :: .c (.ptr 3 0) :: .c (.val (.bool (frstS (nearI r) o.l).isSome)) :: .c (.val (g.2 11)) :: .c (.val (g.2 12)) :: .c (.val (g.2 13)) :: .c (.val (g.2 14)) :: .c (.val (g.2 15)) :: .c (.val (g.2 16)) :: .c (.val (g.2 17)) :: .c (.val (g.2 18)) :: .c (.val (g.2 19)) :: .c (.val (g.2 20)) :: .c (.val (g.2 21)) :: .c (.val (g.2 22)) :: .c (.val (g.2 23)) :: .c (.val (g.2 24)) :: .c (.val (g.2 25)) :: .c (.val (g.2 26)) :: .c (.val (g.2 27)) :: .c (.val (g.2 28)) :: .c (.val (g.2 29)) :: .c (.val (g.2 30)) :: .c (.val (g.2 31)) :: .c (.val (g.2 32)) :: .c (.val (g.2 33)) :: .c (.val (g.2 34)) :: .c (.val (g.2 35)) :: .c (.val (g.2 36)) :: .c (.val (g.2 37)) :: .c (.val (g.2 38)) :: .c (.val (g.2 39)) :: .c (.val (g.2 40)) :: .c (.val (g.2 41)) :: .c (.val (g.2 42)) :: .c (.val (g.2 43)) :: .c (.val (g.2 44)) :: .c (.val (g.2 45)) :: .c (.val (g.2 46)) :: .c (.val (g.2 47)) :: o.sl 2 :: .c (.int (o.l.length : Nat) o.ok.ir) :: .c (.int (g.1.1 : Nat) (lt_irT o.ok g.1.2)) :: .c (.val (g.2 51)) :: .c (.val (g.2 52)) :: .c (.val (g.2 53)) :: .c (.val (g.2 54)) :: .c (.val (g.2 55)) :: .c (.val (g.2 56)) :: .c (.val (g.2 57)) :: .c (.val (g.2 58)) :: .c (.val (g.2 59)) :: .c (.val (g.2 60)) :: .c (.val (g.2 61)) :: .c (.val (g.2 62)) :: .c (.val (g.2 63)) :: .c (.val (g.2 64)) :: .c (.val (g.2 65)) :: .c (.val (g.2 66)) :: .c (.val (g.2 67)) :: .c (.val (g.2 68)) :: .c (.val (g.2 69)) :: .c (.val (g.2 70)) :: .c (.val (g.2 71)) :: .c (.val (g.2 72)) :: .c (.val (g.2 73)) :: .c (.val (g.2 74)) :: .c (.val (g.2 75)) :: .c (.val (g.2 76)) :: .c (.val (g.2 77)) :: .c (.val (g.2 78)) :: .c (.val (g.2 79)) :: .c (.val (g.2 80)) :: .c (.val (g.2 81)) :: .c (.val (g.2 82)) :: .c (.val (g.2 83)) :: .c (.val (g.2 84)) :: .c (.val (g.2 85)) :: .c (.val (g.2 86)) :: .c (.val (g.2 87)) :: .c (.val (g.2 88)) :: .c (.val (g.2 89)) :: .c (.val (g.2 90)) :: .c (.val (g.2 91)) :: .c (.val (g.2 92)) :: .c (.val (g.2 93)) :: .c (.val (g.2 94)) :: .c (.val (g.2 95)) :: .c (.val (g.2 96)) :: .c (.val (g.2 97)) :: .c (.val (g.2 98)) :: .c (.val (g.2 99)) :: .c (.val (g.2 100)) :: .c (.val (g.2 101)) :: .c (.val (g.2 102)) :: .c (.val (g.2 103)) :: .c (.val (g.2 104)) :: .c (.val (g.2 105)) :: .c (.val (g.2 106)) :: .c (.val (g.2 107)) :: .c (.val (g.2 108)) :: .c (.val (g.2 109)) :: .c (.val (g.2 110)) :: [])) (fun _ => [⟨ty, true, intsC L, 0⟩, ⟨24, false, riC (nearI r), 0⟩, o.blk, ⟨65, false, hitC (nearI r) o.l (frstS (nearI r) o.l), 0⟩]) (fun g => o.l.length - g.1.1) ?_ ?_
          · refine ⟨[0, 1, 2, 3], [3, 7, 9, 10, 48, 49, 50], [0, 1, 2, 3], fun vs => ?_⟩
            conv => whnf
            refine ⟨intsC_pure L, fun _ _ => rfl, o.new.1, fun _ _ => rfl, ?_⟩
            conv => whnf
            refine ⟨_, _, ?_, ?_, (⟨0, Nat.zero_le _⟩, vs), rfl, rfl⟩
            · exact stm _
            · exact ⟨⟨rfl, rfl, rfl, fun _ => rfl⟩, ⟨rfl, rfl, rfl, fun _ => rfl⟩, ⟨rfl, rfl, rfl, fun _ => rfl⟩, ⟨rfl, rfl, rfl, fun _ => rfl⟩, trivial⟩
          · exact hmg o ho
  case nxtl =>
    intro o ho
    have hn : o.l.length ≤ 1000000 := by omega
    rintro ⟨⟨k, hk⟩, vs⟩
    conv => whnf
    refine bcase_intro (fun hlt => ?_) (fun hge => ?_)
    · have hlt : k < o.l.length := n_lt hlt
      conv => whnf
      conv =>
        arg 2
        tactic' =>
          apply eff_index_sli (ho := ?how9) (hT := ?hTw9) (hx := ?hxw9) (hk := ?hkw9) (hlt := ?hltw9)
          case how9 => rfl
          case hTw9 => rfl
          case hxw9 => rfl
          case hkw9 => rfl
          case hltw9 => exact hlt
      conv => whnf
      conv =>
        arg 2
        tactic' =>
          apply eff_load_sub (ho := ?how10) (hT := ?hTw10) (hx := ?hxw10) (hb := ?hbw10) (hm := ?hmw10) (hv := ?hvw10)
          case how10 => rfl
          case hTw10 => rfl
          case hxw10 => rfl
          case hbw10 => rfl
          case hmw10 => exact (by rw [Nat.zero_add]; exact subC_trs o.l hlt : subC (trsC o.l) (0 + k * 9) 9 = some (trC o.l[k]))
          case hvw10 => rfl
      conv => whnf
      refine bcase_intro (fun hc => ?_) (fun hc => ?_)
      · have hc : crB (nearI r) (o.l[k]) = true := hc
        conv => whnf
        refine bcase_intro (fun h4 => ?_) (fun h4 => ?_)
        · have h4 : (!(frstS (nearI r) o.l).isSome) = true := h4
          exact (fr_none hlt hc h4).elim
        · have h4 : (!(frstS (nearI r) o.l).isSome) = false := h4
          conv => whnf
          refine bcase_intro (fun h11 => ?_) (fun h11 => ?_)
          · have h11 : decide ((pN (crN (nearI r) (o.l[k])) (crD (nearI r) (o.l[k])) * pD (hD (nearI r) o.l (frstS (nearI r) o.l)) - pN (hN (nearI r) o.l (frstS (nearI r) o.l)) (hD (nearI r) o.l (frstS (nearI r) o.l)) * pD (crD (nearI r) (o.l[k]))).sign < 0) = true := h11
            exact (fr_lt hlt hc h4 h11).elim
          · have h11 : decide ((pN (crN (nearI r) (o.l[k])) (crD (nearI r) (o.l[k])) * pD (hD (nearI r) o.l (frstS (nearI r) o.l)) - pN (hN (nearI r) o.l (frstS (nearI r) o.l)) (hD (nearI r) o.l (frstS (nearI r) o.l)) * pD (crD (nearI r) (o.l[k]))).sign < 0) = false := h11
            conv => whnf
            refine bcase_intro (fun h16 => ?_) (fun h16 => ?_)
            · have h16 : (decide (crN (nearI r) (o.l[k]) = hN (nearI r) o.l (frstS (nearI r) o.l)) && decide (crD (nearI r) (o.l[k]) = hD (nearI r) o.l (frstS (nearI r) o.l))) = true := h16
              conv => whnf
              refine bcase_intro (fun h24 => ?_) (fun h24 => ?_)
              · have h24 : decide ((k : Int) < hK (frstS (nearI r) o.l)) = true := h24
                exact (fr_tie hn hlt hc h4 h16 h24).elim
              · have h24 : decide ((k : Int) < hK (frstS (nearI r) o.l)) = false := h24
                conv => whnf
                refine bcase_intro (fun h26 => ?_) (fun h26 => ?_)
                · have h26 : (frstS (nearI r) o.l).isSome = true := h26
                  conv => whnf
                  refine bcase_intro (fun h32 => ?_) (fun h32 => ?_)
                  · have h32 : decide ((k : Int) = hK (frstS (nearI r) o.l)) = true := h32
                    conv => whnf
                    refine bcase_intro (fun h35 => ?_) (fun h35 => ?_)
                    · have h35 : (!crB (nearI r) (o.l[k])) = true := h35
                      rw [hc] at h35; cases h35
                    · have h35 : (!crB (nearI r) (o.l[k])) = false := h35
                      conv => whnf
                      refine bcase_intro (fun h43 => ?_) (fun h43 => ?_)
                      · have h43 : (!(decide (crN (nearI r) (o.l[k]) = hN (nearI r) o.l (frstS (nearI r) o.l)) && decide (crD (nearI r) (o.l[k]) = hD (nearI r) o.l (frstS (nearI r) o.l)))) = true := h43
                        exact absurd h43 (by rw [(fr_best hn hlt h26 h32).2]; decide)
                      · have h43 : (!(decide (crN (nearI r) (o.l[k]) = hN (nearI r) o.l (frstS (nearI r) o.l)) && decide (crD (nearI r) (o.l[k]) = hD (nearI r) o.l (frstS (nearI r) o.l)))) = false := h43
                        conv => whnf
                        refine bcase_intro (fun h47 => ?_) (fun h47 => ?_)
                        · have h47 : decide (crN (nearI r) (o.l[k]) < 0) = true := h47
                          exact (crN_nn h47).elim
                        · have h47 : decide (crN (nearI r) (o.l[k]) < 0) = false := h47
                          conv => whnf
                          refine ⟨[0, 1, 2, 3], [3, 7, 9, 10, 48, 49, 50], [0, 1, 2, 3], fun vs2 => ?_⟩
                          conv => whnf
                          refine ⟨intsC_pure L, fun _ _ => rfl, o.new.1, fun _ _ => rfl, ?_⟩
                          conv => whnf
                          refine ⟨_, _, ?_, ?_, (⟨k + 1, hlt⟩, vs2), (by omega : o.l.length - (k + 1) < o.l.length - k), rfl, rfl⟩
                          · exact ⟨fun _ => rfl, fun _ => rfl, fun _ => rfl, fun _ => rfl, fun _ => rfl, fun _ => rfl, fun _ => rfl, fun _ => rfl, fun _ => rfl, fun _ => rfl, fun _ => rfl, fun _ => rfl, fun _ => rfl, fun _ => rfl, fun _ => rfl, fun _ => rfl, fun _ => rfl, fun _ => rfl, fun _ => rfl, fun _ => rfl, fun _ => rfl, fun _ => rfl, fun _ => rfl, fun _ => rfl, fun _ => rfl, fun _ => rfl, fun _ => rfl, fun _ => rfl, fun _ => rfl, fun _ => rfl, fun _ => rfl, fun _ => rfl, fun _ => rfl, fun _ => rfl, fun _ => rfl, fun _ => rfl, fun _ => rfl, fun _ => rfl, fun _ => rfl, fun _ => rfl, fun _ => rfl, fun _ => rfl, fun _ => rfl, fun _ => rfl, fun _ => rfl, fun _ => rfl, fun _ => rfl, fun _ => rfl, fun _ => rfl, fun _ => rfl, fun ρ => sint_e (wrap_add1 hlt o.ok.ir) ρ, stm _⟩
                          · exact ⟨⟨rfl, rfl, rfl, fun _ => rfl⟩, ⟨rfl, rfl, rfl, fun _ => rfl⟩, ⟨rfl, rfl, rfl, fun _ => rfl⟩, ⟨rfl, rfl, rfl, fun _ => rfl⟩, trivial⟩
                  · have h32 : decide ((k : Int) = hK (frstS (nearI r) o.l)) = false := h32
                    conv => whnf
                    refine bcase_intro (fun h47 => ?_) (fun h47 => ?_)
                    · have h47 : decide (crN (nearI r) (o.l[k]) < 0) = true := h47
                      exact (crN_nn h47).elim
                    · have h47 : decide (crN (nearI r) (o.l[k]) < 0) = false := h47
                      conv => whnf
                      refine ⟨[0, 1, 2, 3], [3, 7, 9, 10, 48, 49, 50], [0, 1, 2, 3], fun vs2 => ?_⟩
                      conv => whnf
                      refine ⟨intsC_pure L, fun _ _ => rfl, o.new.1, fun _ _ => rfl, ?_⟩
                      conv => whnf
                      refine ⟨_, _, ?_, ?_, (⟨k + 1, hlt⟩, vs2), (by omega : o.l.length - (k + 1) < o.l.length - k), rfl, rfl⟩
                      · exact ⟨fun _ => rfl, fun _ => rfl, fun _ => rfl, fun _ => rfl, fun _ => rfl, fun _ => rfl, fun _ => rfl, fun _ => rfl, fun _ => rfl, fun _ => rfl, fun _ => rfl, fun _ => rfl, fun _ => rfl, fun _ => rfl, fun _ => rfl, fun _ => rfl, fun _ => rfl, fun _ => rfl, fun _ => rfl, fun _ => rfl, fun _ => rfl, fun _ => rfl, fun _ => rfl, fun _ => rfl, fun _ => rfl, fun _ => rfl, fun _ => rfl, fun _ => rfl, fun _ => rfl, fun _ => rfl, fun _ => rfl, fun _ => rfl, fun _ => rfl, fun _ => rfl, fun _ => rfl, fun _ => rfl, fun _ => rfl, fun _ => rfl, fun _ => rfl, fun _ => rfl, fun _ => rfl, fun _ => rfl, fun _ => rfl, fun _ => rfl, fun _ => rfl, fun _ => rfl, fun _ => rfl, fun _ => rfl, fun _ => rfl, fun _ => rfl, fun ρ => sint_e (wrap_add1 hlt o.ok.ir) ρ, stm _⟩
                      · exact ⟨⟨rfl, rfl, rfl, fun _ => rfl⟩, ⟨rfl, rfl, rfl, fun _ => rfl⟩, ⟨rfl, rfl, rfl, fun _ => rfl⟩, ⟨rfl, rfl, rfl, fun _ => rfl⟩, trivial⟩
                · have h26 : (frstS (nearI r) o.l).isSome = false := h26
                  conv => whnf
                  refine bcase_intro (fun h47 => ?_) (fun h47 => ?_)
                  · have h47 : decide (crN (nearI r) (o.l[k]) < 0) = true := h47
                    exact (crN_nn h47).elim
                  · have h47 : decide (crN (nearI r) (o.l[k]) < 0) = false := h47
                    conv => whnf
                    refine ⟨[0, 1, 2, 3], [3, 7, 9, 10, 48, 49, 50], [0, 1, 2, 3], fun vs2 => ?_⟩
                    conv => whnf
                    refine ⟨intsC_pure L, fun _ _ => rfl, o.new.1, fun _ _ => rfl, ?_⟩
                    conv => whnf
                    refine ⟨_, _, ?_, ?_, (⟨k + 1, hlt⟩, vs2), (by omega : o.l.length - (k + 1) < o.l.length - k), rfl, rfl⟩
                    · exact ⟨fun _ => rfl, fun _ => rfl, fun _ => rfl, fun _ => rfl, fun _ => rfl, fun _ => rfl, fun _ => rfl, fun _ => rfl, fun _ => rfl, fun _ => rfl, fun _ => rfl, fun _ => rfl, fun _ => rfl, fun _ => rfl, fun _ => rfl, fun _ => rfl, fun _ => rfl, fun _ => rfl, fun _ => rfl, fun _ => rfl, fun _ => rfl, fun _ => rfl, fun _ => rfl, fun _ => rfl, fun _ => rfl, fun _ => rfl, fun _ => rfl, fun _ => rfl, fun _ => rfl, fun _ => rfl, fun _ => rfl, fun _ => rfl, fun _ => rfl, fun _ => rfl, fun _ => rfl, fun _ => rfl, fun _ => rfl, fun _ => rfl, fun _ => rfl, fun _ => rfl, fun _ => rfl, fun _ => rfl, fun _ => rfl, fun _ => rfl, fun _ => rfl, fun _ => rfl, fun _ => rfl, fun _ => rfl, fun _ => rfl, fun _ => rfl, fun ρ => sint_e (wrap_add1 hlt o.ok.ir) ρ, stm _⟩
                    · exact ⟨⟨rfl, rfl, rfl, fun _ => rfl⟩, ⟨rfl, rfl, rfl, fun _ => rfl⟩, ⟨rfl, rfl, rfl, fun _ => rfl⟩, ⟨rfl, rfl, rfl, fun _ => rfl⟩, trivial⟩
            · have h16 : (decide (crN (nearI r) (o.l[k]) = hN (nearI r) o.l (frstS (nearI r) o.l)) && decide (crD (nearI r) (o.l[k]) = hD (nearI r) o.l (frstS (nearI r) o.l))) = false := h16
              conv => whnf
              refine bcase_intro (fun h26 => ?_) (fun h26 => ?_)
              · have h26 : (frstS (nearI r) o.l).isSome = true := h26
                conv => whnf
                refine bcase_intro (fun h32 => ?_) (fun h32 => ?_)
                · have h32 : decide ((k : Int) = hK (frstS (nearI r) o.l)) = true := h32
                  conv => whnf
                  refine bcase_intro (fun h35 => ?_) (fun h35 => ?_)
                  · have h35 : (!crB (nearI r) (o.l[k])) = true := h35
                    rw [hc] at h35; cases h35
                  · have h35 : (!crB (nearI r) (o.l[k])) = false := h35
                    conv => whnf
                    refine bcase_intro (fun h43 => ?_) (fun h43 => ?_)
                    · have h43 : (!(decide (crN (nearI r) (o.l[k]) = hN (nearI r) o.l (frstS (nearI r) o.l)) && decide (crD (nearI r) (o.l[k]) = hD (nearI r) o.l (frstS (nearI r) o.l)))) = true := h43
                      exact absurd h43 (by rw [(fr_best hn hlt h26 h32).2]; decide)
                    · have h43 : (!(decide (crN (nearI r) (o.l[k]) = hN (nearI r) o.l (frstS (nearI r) o.l)) && decide (crD (nearI r) (o.l[k]) = hD (nearI r) o.l (frstS (nearI r) o.l)))) = false := h43
                      conv => whnf
                      refine bcase_intro (fun h47 => ?_) (fun h47 => ?_)
                      · have h47 : decide (crN (nearI r) (o.l[k]) < 0) = true := h47
                        exact (crN_nn h47).elim
                      · have h47 : decide (crN (nearI r) (o.l[k]) < 0) = false := h47
                        conv => whnf
                        refine ⟨[0, 1, 2, 3], [3, 7, 9, 10, 48, 49, 50], [0, 1, 2, 3], fun vs2 => ?_⟩
                        conv => whnf
                        refine ⟨intsC_pure L, fun _ _ => rfl, o.new.1, fun _ _ => rfl, ?_⟩
                        conv => whnf
                        refine ⟨_, _, ?_, ?_, (⟨k + 1, hlt⟩, vs2), (by omega : o.l.length - (k + 1) < o.l.length - k), rfl, rfl⟩
                        · exact ⟨fun _ => rfl, fun _ => rfl, fun _ => rfl, fun _ => rfl, fun _ => rfl, fun _ => rfl, fun _ => rfl, fun _ => rfl, fun _ => rfl, fun _ => rfl, fun _ => rfl, fun _ => rfl, fun _ => rfl, fun _ => rfl, fun _ => rfl, fun _ => rfl, fun _ => rfl, fun _ => rfl, fun _ => rfl, fun _ => rfl, fun _ => rfl, fun _ => rfl, fun _ => rfl, fun _ => rfl, fun _ => rfl, fun _ => rfl, fun _ => rfl, fun _ => rfl, fun _ => rfl, fun _ => rfl, fun _ => rfl, fun _ => rfl, fun _ => rfl, fun _ => rfl, fun _ => rfl, fun _ => rfl, fun _ => rfl, fun _ => rfl, fun _ => rfl, fun _ => rfl, fun _ => rfl, fun _ => rfl, fun _ => rfl, fun _ => rfl, fun _ => rfl, fun _ => rfl, fun _ => rfl, fun _ => rfl, fun _ => rfl, fun _ => rfl, fun ρ => sint_e (wrap_add1 hlt o.ok.ir) ρ, stm _⟩
                        · exact ⟨⟨rfl, rfl, rfl, fun _ => rfl⟩, ⟨rfl, rfl, rfl, fun _ => rfl⟩, ⟨rfl, rfl, rfl, fun _ => rfl⟩, ⟨rfl, rfl, rfl, fun _ => rfl⟩, trivial⟩
                · have h32 : decide ((k : Int) = hK (frstS (nearI r) o.l)) = false := h32
                  conv => whnf
                  refine bcase_intro (fun h47 => ?_) (fun h47 => ?_)
                  · have h47 : decide (crN (nearI r) (o.l[k]) < 0) = true := h47
                    exact (crN_nn h47).elim
                  · have h47 : decide (crN (nearI r) (o.l[k]) < 0) = false := h47
                    conv => whnf
                    refine ⟨[0, 1, 2, 3], [3, 7, 9, 10, 48, 49, 50], [0, 1, 2, 3], fun vs2 => ?_⟩
                    conv => whnf
                    refine ⟨intsC_pure L, fun _ _ => rfl, o.new.1, fun _ _ => rfl, ?_⟩
                    conv => whnf
                    refine ⟨_, _, ?_, ?_, (⟨k + 1, hlt⟩, vs2), (by omega : o.l.length - (k + 1) < o.l.length - k), rfl, rfl⟩
                    · exact ⟨fun _ => rfl, fun _ => rfl, fun _ => rfl, fun _ => rfl, fun _ => rfl, fun _ => rfl, fun _ => rfl, fun _ => rfl, fun _ => rfl, fun _ => rfl, fun _ => rfl, fun _ => rfl, fun _ => rfl, fun _ => rfl, fun _ => rfl, fun _ => rfl, fun _ => rfl, fun _ => rfl, fun _ => rfl, fun _ => rfl, fun _ => rfl, fun _ => rfl, fun _ => rfl, fun _ => rfl, fun _ => rfl, fun _ => rfl, fun _ => rfl, fun _ => rfl, fun _ => rfl, fun _ => rfl, fun _ => rfl, fun _ => rfl, fun _ => rfl, fun _ => rfl, fun _ => rfl, fun _ => rfl, fun _ => rfl, fun _ => rfl, fun _ => rfl, fun _ => rfl, fun _ => rfl, fun _ => rfl, fun _ => rfl, fun _ => rfl, fun _ => rfl, fun _ => rfl, fun _ => rfl, fun _ => rfl, fun _ => rfl, fun _ => rfl, fun ρ => sint_e (wrap_add1 hlt o.ok.ir) ρ, stm _⟩
                    · exact ⟨⟨rfl, rfl, rfl, fun _ => rfl⟩, ⟨rfl, rfl, rfl, fun _ => rfl⟩, ⟨rfl, rfl, rfl, fun _ => rfl⟩, ⟨rfl, rfl, rfl, fun _ => rfl⟩, trivial⟩
              · have h26 : (frstS (nearI r) o.l).isSome = false := h26
                conv => whnf
                refine bcase_intro (fun h47 => ?_) (fun h47 => ?_)
                · have h47 : decide (crN (nearI r) (o.l[k]) < 0) = true := h47
                  exact (crN_nn h47).elim
                · have h47 : decide (crN (nearI r) (o.l[k]) < 0) = false := h47
                  conv => whnf
                  refine ⟨[0, 1, 2, 3], [3, 7, 9, 10, 48, 49, 50], [0, 1, 2, 3], fun vs2 => ?_⟩
                  conv => whnf
                  refine ⟨intsC_pure L, fun _ _ => rfl, o.new.1, fun _ _ => rfl, ?_⟩
                  conv => whnf
                  refine ⟨_, _, ?_, ?_, (⟨k + 1, hlt⟩, vs2), (by omega : o.l.length - (k + 1) < o.l.length - k), rfl, rfl⟩
                  · exact ⟨fun _ => rfl, fun _ => rfl, fun _ => rfl, fun _ => rfl, fun _ => rfl, fun _ => rfl, fun _ => rfl, fun _ => rfl, fun _ => rfl, fun _ => rfl, fun _ => rfl, fun _ => rfl, fun _ => rfl, fun _ => rfl, fun _ => rfl, fun _ => rfl, fun _ => rfl, fun _ => rfl, fun _ => rfl, fun _ => rfl, fun _ => rfl, fun _ => rfl, fun _ => rfl, fun _ => rfl, fun _ => rfl, fun _ => rfl, fun _ => rfl, fun _ => rfl, fun _ => rfl, fun _ => rfl, fun _ => rfl, fun _ => rfl, fun _ => rfl, fun _ => rfl, fun _ => rfl, fun _ => rfl, fun _ => rfl, fun _ => rfl, fun _ => rfl, fun _ => rfl, fun _ => rfl, fun _ => rfl, fun _ => rfl, fun _ => rfl, fun _ => rfl, fun _ => rfl, fun _ => rfl, fun _ => rfl, fun _ => rfl, fun _ => rfl, fun ρ => sint_e (wrap_add1 hlt o.ok.ir) ρ, stm _⟩
                  · exact ⟨⟨rfl, rfl, rfl, fun _ => rfl⟩, ⟨rfl, rfl, rfl, fun _ => rfl⟩, ⟨rfl, rfl, rfl, fun _ => rfl⟩, ⟨rfl, rfl, rfl, fun _ => rfl⟩, trivial⟩
      · have hc : crB (nearI r) (o.l[k]) = false := hc
        conv => whnf
        refine bcase_intro (fun h26 => ?_) (fun h26 => ?_)
        · have h26 : (frstS (nearI r) o.l).isSome = true := h26
          conv => whnf
          refine bcase_intro (fun h32 => ?_) (fun h32 => ?_)
          · have h32 : decide ((k : Int) = hK (frstS (nearI r) o.l)) = true := h32
            conv => whnf
            refine bcase_intro (fun h35 => ?_) (fun h35 => ?_)
            · have h35 : (!crB (nearI r) (o.l[k])) = true := h35
              have := (fr_best hn hlt h26 h32).1; rw [hc] at this; cases this
            · have h35 : (!crB (nearI r) (o.l[k])) = false := h35
              rw [hc] at h35; cases h35
          · have h32 : decide ((k : Int) = hK (frstS (nearI r) o.l)) = false := h32
            conv => whnf
            refine bcase_intro (fun h47 => ?_) (fun h47 => ?_)
            · have h47 : decide (crN (nearI r) (o.l[k]) < 0) = true := h47
              exact (crN_nn h47).elim
            · have h47 : decide (crN (nearI r) (o.l[k]) < 0) = false := h47
              conv => whnf
              refine ⟨[0, 1, 2, 3], [3, 7, 9, 10, 48, 49, 50], [0, 1, 2, 3], fun vs2 => ?_⟩
              conv => whnf
              refine ⟨intsC_pure L, fun _ _ => rfl, o.new.1, fun _ _ => rfl, ?_⟩
              conv => whnf
              refine ⟨_, _, ?_, ?_, (⟨k + 1, hlt⟩, vs2), (by omega : o.l.length - (k + 1) < o.l.length - k), rfl, rfl⟩
              · exact ⟨fun _ => rfl, fun _ => rfl, fun _ => rfl, fun _ => rfl, fun _ => rfl, fun _ => rfl, fun _ => rfl, fun _ => rfl, fun _ => rfl, fun _ => rfl, fun _ => rfl, fun _ => rfl, fun _ => rfl, fun _ => rfl, fun _ => rfl, fun _ => rfl, fun _ => rfl, fun _ => rfl, fun _ => rfl, fun _ => rfl, fun _ => rfl, fun _ => rfl, fun _ => rfl, fun _ => rfl, fun _ => rfl, fun _ => rfl, fun _ => rfl, fun _ => rfl, fun _ => rfl, fun _ => rfl, fun _ => rfl, fun _ => rfl, fun _ => rfl, fun _ => rfl, fun _ => rfl, fun _ => rfl, fun _ => rfl, fun _ => rfl, fun _ => rfl, fun _ => rfl, fun _ => rfl, fun _ => rfl, fun _ => rfl, fun _ => rfl, fun _ => rfl, fun _ => rfl, fun _ => rfl, fun _ => rfl, fun _ => rfl, fun _ => rfl, fun ρ => sint_e (wrap_add1 hlt o.ok.ir) ρ, stm _⟩
              · exact ⟨⟨rfl, rfl, rfl, fun _ => rfl⟩, ⟨rfl, rfl, rfl, fun _ => rfl⟩, ⟨rfl, rfl, rfl, fun _ => rfl⟩, ⟨rfl, rfl, rfl, fun _ => rfl⟩, trivial⟩
        · have h26 : (frstS (nearI r) o.l).isSome = false := h26
          conv => whnf
          refine bcase_intro (fun h47 => ?_) (fun h47 => ?_)
          · have h47 : decide (crN (nearI r) (o.l[k]) < 0) = true := h47
            exact (crN_nn h47).elim
          · have h47 : decide (crN (nearI r) (o.l[k]) < 0) = false := h47
            conv => whnf
            refine ⟨[0, 1, 2, 3], [3, 7, 9, 10, 48, 49, 50], [0, 1, 2, 3], fun vs2 => ?_⟩
            conv => whnf
            refine ⟨intsC_pure L, fun _ _ => rfl, o.new.1, fun _ _ => rfl, ?_⟩
            conv => whnf
            refine ⟨_, _, ?_, ?_, (⟨k + 1, hlt⟩, vs2), (by omega : o.l.length - (k + 1) < o.l.length - k), rfl, rfl⟩
            · exact ⟨fun _ => rfl, fun _ => rfl, fun _ => rfl, fun _ => rfl, fun _ => rfl, fun _ => rfl, fun _ => rfl, fun _ => rfl, fun _ => rfl, fun _ => rfl, fun _ => rfl, fun _ => rfl, fun _ => rfl, fun _ => rfl, fun _ => rfl, fun _ => rfl, fun _ => rfl, fun _ => rfl, fun _ => rfl, fun _ => rfl, fun _ => rfl, fun _ => rfl, fun _ => rfl, fun _ => rfl, fun _ => rfl, fun _ => rfl, fun _ => rfl, fun _ => rfl, fun _ => rfl, fun _ => rfl, fun _ => rfl, fun _ => rfl, fun _ => rfl, fun _ => rfl, fun _ => rfl, fun _ => rfl, fun _ => rfl, fun _ => rfl, fun _ => rfl, fun _ => rfl, fun _ => rfl, fun _ => rfl, fun _ => rfl, fun _ => rfl, fun _ => rfl, fun _ => rfl, fun _ => rfl, fun _ => rfl, fun _ => rfl, fun _ => rfl, fun ρ => sint_e (wrap_add1 hlt o.ok.ir) ρ, stm _⟩
            · exact ⟨⟨rfl, rfl, rfl, fun _ => rfl⟩, ⟨rfl, rfl, rfl, fun _ => rfl⟩, ⟨rfl, rfl, rfl, fun _ => rfl⟩, ⟨rfl, rfl, rfl, fun _ => rfl⟩, trivial⟩
    · conv => whnf
      refine ⟨[0], [0], fun vs3 => ?_⟩
      conv => whnf
      refine ⟨intsC_pure L, ?_⟩
      conv => whnf
      refine ⟨_, [], rfl, ⟨⟨rfl, rfl, rfl, fun _ => rfl⟩, trivial⟩, trivial, _, fun ρ => ?_, hc⟩
      rfl
end Go.Proofs.YtefgchmbdijjdaaGreatDoor
