/- law 22: RayDivides, by the reckoner. -/
import Derived.Test.YtefgchmbdijjdaaDoorRyc
namespace Go.Proofs.YtefgchmbdijjdaaDoor
open Go.RowKit
set_option maxRecDepth 100000

theorem isSome_of {s : Option Nat} (h : s.isSome = true) : ∃ i, s = some i := Option.isSome_iff_exists.1 h
section
variable {R : RI} {l : List TR}
theorem best_spec : Best (cAt R l) (qAt R l) 0 l.length (frstS R l) := fwd_best _ _ _
theorem best_some {i : Nat} (h : frstS R l = some i) : i < l.length ∧ cAt R l i = true ∧ ∀ j, j < l.length → cAt R l j = true → qAt R l i < qAt R l j ∨ qAt R l i = qAt R l j ∧ i ≤ j := by
  have := best_spec (R := R) (l := l)
  rw [h] at this
  exact ⟨this.2.1, this.2.2.1, fun j hj => this.2.2.2 j (Nat.zero_le _) hj⟩
theorem best_none (h : frstS R l = none) : ∀ j, j < l.length → cAt R l j = false := by
  have := best_spec (R := R) (l := l)
  rw [h] at this
  exact fun j hj => this j (Nat.zero_le _) hj
theorem cnt_zero : ∀ n, (cntK R l n = 0 ↔ ∀ j, j < n → cAt R l j = false)
  | 0 => ⟨fun _ j hj => absurd hj (Nat.not_lt_zero j), fun _ => rfl⟩
  | n + 1 => by
    rw [cntK_s]
    constructor
    · intro h j hj
      by_cases hc : cAt R l n = true
      · rw [if_pos hc] at h; omega
      · by_cases e : j = n
        · subst e; simpa using hc
        · exact (cnt_zero n).1 (by omega) j (by omega)
    · intro h
      rw [(cnt_zero n).2 fun j hj => h j (by omega), h n (by omega)]; rfl
theorem cnt_some : decide (0 < ((cntK R l l.length : Nat) : Int)) = (frstS R l).isSome := by
  cases hs : frstS R l with
  | none => rw [(cnt_zero l.length).2 (best_none hs)]; rfl
  | some i =>
    obtain ⟨h1, h2, -⟩ := best_some hs
    have : cntK R l l.length ≠ 0 := fun e => by have := (cnt_zero l.length).1 e i h1; rw [h2] at this; cases this
    exact decide_eq_true (by omega)
end
def midI (p q n : Int) : Int := IntKind.i64.wrap (p + IntKind.i64.wrap (IntKind.i64.wrap ((IntKind.i64.wrap (q - p)).tdiv 8) * n))
/-- a list of triangles that together are one -/
structure SubL (R : RI) (l : List TR) (T : TR) : Prop where
  one : ∀ i, i < l.length → cAt R l i = true → crB R T = true ∧ crN R (tAt l i) = crN R T ∧ crD R (tAt l i) = crD R T
  cnt : cntK R l l.length = cntK R [T] 1
theorem cnt1 (R : RI) (T : TR) : cntK R [T] 1 = bN (crB R T) := by
  show 0 + (if crB R T = true then 1 else 0) = _
  rw [Nat.zero_add]; rfl
theorem fst1 (R : RI) (T : TR) : frstS R [T] = if crB R T = true then some 0 else none := rfl
theorem SubL.some {R : RI} {l : List TR} {T : TR} (h : SubL R l T) : (frstS R l).isSome = (frstS R [T]).isSome := by
  rw [← cnt_some, ← cnt_some, h.cnt]; rfl
theorem SubL.hit {R : RI} {l : List TR} {T : TR} (h : SubL R l T) : hN R l (frstS R l) = hN R [T] (frstS R [T]) ∧ hD R l (frstS R l) = hD R [T] (frstS R [T]) := by
  have hs := h.some
  cases he : frstS R l with
  | none =>
    rw [he] at hs
    cases h1 : frstS R [T] with
    | none => exact ⟨rfl, rfl⟩
    | some i => rw [h1] at hs; cases hs
  | some i =>
    obtain ⟨hb, hc, -⟩ := best_some he
    obtain ⟨k1, k2, k3⟩ := h.one i hb hc
    rw [fst1, if_pos k1]
    exact ⟨k2, k3⟩
theorem bN_le {b : Bool} : bN b ≤ 1 := by unfold bN; split <;> omega
/-- three parts -/
theorem sub3 {R : RI} {T A B C : TR} {K a b c : Int} {o p q s : V3} (h : Mid K a b c o p q s) (hT : T.a.v = p ∧ T.b.v = q ∧ T.c.v = s) (hA : A.a.v = p ∧ A.b.v = q ∧ A.c.v = o) (hB : B.a.v = q ∧ B.b.v = s ∧ B.c.v = o) (hC : C.a.v = s ∧ C.b.v = p ∧ C.c.v = o) : SubL R [A, B, C] T := by
  have eT : crB R T = crossB R.z3 p q s ∧ crN R T = crossN R.z3 p q s ∧ crD R T = crossD R.z3 p q s := by unfold crB crN crD; rw [hT.1, hT.2.1, hT.2.2]; exact ⟨rfl, rfl, rfl⟩
  have eA : crB R A = crossB R.z3 p q o ∧ crN R A = crossN R.z3 p q o ∧ crD R A = crossD R.z3 p q o := by unfold crB crN crD; rw [hA.1, hA.2.1, hA.2.2]; exact ⟨rfl, rfl, rfl⟩
  have eB : crB R B = crossB R.z3 q s o ∧ crN R B = crossN R.z3 q s o ∧ crD R B = crossD R.z3 q s o := by unfold crB crN crD; rw [hB.1, hB.2.1, hB.2.2]; exact ⟨rfl, rfl, rfl⟩
  have eC : crB R C = crossB R.z3 s p o ∧ crN R C = crossN R.z3 s p o ∧ crD R C = crossD R.z3 s p o := by unfold crB crN crD; rw [hC.1, hC.2.1, hC.2.2]; exact ⟨rfl, rfl, rfl⟩
  obtain ⟨sa, sb, sc, st⟩ := split_tri h R.z3
  rw [← eT.1, ← eT.2.1, ← eT.2.2, ← eA.1, ← eA.2.1, ← eA.2.2] at sa
  rw [← eT.1, ← eT.2.1, ← eT.2.2, ← eB.1, ← eB.2.1, ← eB.2.2] at sb
  rw [← eT.1, ← eT.2.1, ← eT.2.2, ← eC.1, ← eC.2.1, ← eC.2.2] at sc
  rw [← eT.1, ← eA.1, ← eB.1, ← eC.1] at st
  refine ⟨fun i hi hc => ?_, ?_⟩
  · match i, hi with
    | 0, _ => exact sa hc
    | 1, _ => exact sb hc
    | 2, _ => exact sc hc
    | n + 3, hi => exact absurd hi (by simp)
  · rw [cnt1]
    show 0 + bN (crB R A) + bN (crB R B) + bN (crB R C) = _
    rw [Nat.zero_add]
    cases hb : crB R T with
    | true => exact st hb
    | false =>
      have a0 : crB R A = false := by cases hx : crB R A; rfl; have := (sa hx).1; rw [hb] at this; cases this
      have b0 : crB R B = false := by cases hx : crB R B; rfl; have := (sb hx).1; rw [hb] at this; cases this
      have c0 : crB R C = false := by cases hx : crB R C; rfl; have := (sc hx).1; rw [hb] at this; cases this
      rw [a0, b0, c0]; rfl
/-- two parts -/
theorem sub2 {R : RI} {T A B : TR} {K a b : Int} {m p q s : V3} (h : Mid K a b 0 m p q s) (hT : T.a.v = p ∧ T.b.v = q ∧ T.c.v = s) (hA : A.a.v = p ∧ A.b.v = m ∧ A.c.v = s) (hB : B.a.v = m ∧ B.b.v = q ∧ B.c.v = s) : SubL R [A, B] T := by
  have eT : crB R T = crossB R.z3 p q s ∧ crN R T = crossN R.z3 p q s ∧ crD R T = crossD R.z3 p q s := by unfold crB crN crD; rw [hT.1, hT.2.1, hT.2.2]; exact ⟨rfl, rfl, rfl⟩
  have eA : crB R A = crossB R.z3 s p m ∧ crN R A = crossN R.z3 s p m ∧ crD R A = crossD R.z3 s p m := by
    unfold crB crN crD; rw [hA.1, hA.2.1, hA.2.2]
    exact ⟨crossB_rot R.z3 s p m, (cross_rot R.z3 s p m).1, (cross_rot R.z3 s p m).2⟩
  have eB : crB R B = crossB R.z3 q s m ∧ crN R B = crossN R.z3 q s m ∧ crD R B = crossD R.z3 q s m := by
    unfold crB crN crD; rw [hB.1, hB.2.1, hB.2.2]
    exact ⟨(crossB_rot R.z3 m q s).symm, (cross_rot R.z3 m q s).1.symm, (cross_rot R.z3 m q s).2.symm⟩
  obtain ⟨-, sb, sc, st⟩ := split_tri h R.z3
  have z : crossB R.z3 p q m = false := by
    rw [cross_rest]
    obtain ⟨n1, n2, n3⟩ := mid_na h
    rw [rest_zero h.hp n1 n2 n3 rfl]; rfl
  rw [z] at st
  rw [← eT.1, ← eT.2.1, ← eT.2.2, ← eB.1, ← eB.2.1, ← eB.2.2] at sb
  rw [← eT.1, ← eT.2.1, ← eT.2.2, ← eA.1, ← eA.2.1, ← eA.2.2] at sc
  rw [← eT.1, ← eA.1, ← eB.1] at st
  refine ⟨fun i hi hc => ?_, ?_⟩
  · match i, hi with
    | 0, _ => exact sc hc
    | 1, _ => exact sb hc
    | n + 2, hi => exact absurd hi (by simp)
  · rw [cnt1]
    show 0 + bN (crB R A) + bN (crB R B) = _
    rw [Nat.zero_add]
    cases hb : crB R T with
    | true =>
      have := st hb
      have e : bN false = 0 := rfl
      have e1 : bN true = 1 := rfl
      omega
    | false =>
      have b0 : crB R B = false := by cases hx : crB R B; rfl; have := (sb hx).1; rw [hb] at this; cases this
      have c0 : crB R A = false := by cases hx : crB R A; rfl; have := (sc hx).1; rw [hb] at this; cases this
      rw [b0, c0]; rfl
/-- the numbers of the law -/
def n9 (n : Int) : Int := IntKind.i64.wrap (n.tmod 9)
theorem n9_b {n : Int} (h : 0 ≤ n ∧ n < 256) : 0 ≤ n9 n ∧ n9 n ≤ 8 := by
  have e : n.tmod 9 = n % 9 := Int.tmod_eq_emod_of_nonneg h.1
  unfold n9
  rw [e, wrap_id (z := n % 9) (by unfold IR; omega)]
  omega
def m6 (x : Int) : Int := IntKind.i64.wrap (64 * (x % 6))
theorem m6_eq (x : Int) : m6 x = 64 * (x % 6) := wrap_id (by unfold IR; omega)
theorem mul8 {x n : Int} (hx : -1000 ≤ x ∧ x ≤ 1000) (hn : 0 ≤ n ∧ n ≤ 8) : -8000 ≤ x * n ∧ x * n ≤ 8000 := by
  have h1 : -1000 * n ≤ x * n := Int.mul_le_mul_of_nonneg_right hx.1 hn.1
  have h2 : x * n ≤ 1000 * n := Int.mul_le_mul_of_nonneg_right hx.2 hn.1
  omega
/-- between two points whose difference is a multiple of 8 -/
theorem midI_eq {p q n d : Int} (hp : -1000 ≤ p ∧ p ≤ 1000) (hd : q - p = 8 * d) (hdb : -1000 ≤ d ∧ d ≤ 1000) (hn : 0 ≤ n ∧ n ≤ 8) : midI p q n = p + d * n := by
  have h8 := mul8 hdb hn
  unfold midI
  rw [hd, wrap_id (z := 8 * d) (by unfold IR; omega), Int.mul_tdiv_cancel_left _ (by decide), wrap_id (z := d) (by unfold IR; omega), wrap_id (z := d * n) (by unfold IR; omega), wrap_id (by unfold IR; omega)]
theorem mid1 (x y : Int) {n : Int} (hn : 0 ≤ n ∧ n ≤ 8) : midI (m6 x) (m6 y) n = 64 * (x % 6) + 8 * (y % 6 - x % 6) * n := by
  rw [m6_eq, m6_eq, midI_eq (d := 8 * (y % 6 - x % 6)) (by omega) (by omega) (by omega) hn]
theorem mid2 (x y z : Int) {n k : Int} (hn : 0 ≤ n ∧ n ≤ 8) (hk : 0 ≤ k ∧ k ≤ 8) : midI (midI (m6 x) (m6 y) n) (m6 z) k = 64 * (x % 6) + 8 * (y % 6 - x % 6) * n + (8 * (z % 6) - 8 * (x % 6) - (y % 6 - x % 6) * n) * k := by
  rw [mid1 x y hn, m6_eq z]
  have h1 : -5 * 8 ≤ (y % 6 - x % 6) * n ∧ (y % 6 - x % 6) * n ≤ 5 * 8 := by
    have a1 : -5 * n ≤ (y % 6 - x % 6) * n := Int.mul_le_mul_of_nonneg_right (by omega) hn.1
    have a2 : (y % 6 - x % 6) * n ≤ 5 * n := Int.mul_le_mul_of_nonneg_right (by omega) hn.1
    omega
  have e : 8 * (y % 6 - x % 6) * n = 8 * ((y % 6 - x % 6) * n) := Int.mul_assoc ..
  rw [e]
  rw [midI_eq (d := 8 * (z % 6) - 8 * (x % 6) - (y % 6 - x % 6) * n) (by omega) (by omega) (by omega) hk]
theorem mid1_k (x y : Int) {n : Int} (hn : 0 ≤ n ∧ n ≤ 8) : 8 * midI (m6 x) (m6 y) n = (8 - n) * m6 x + n * m6 y := by
  rw [mid1 x y hn, m6_eq, m6_eq]
  generalize x % 6 = a
  generalize y % 6 = b
  grind
theorem mid2_k (x y z : Int) {n k : Int} (hn : 0 ≤ n ∧ n ≤ 8) (hk : 0 ≤ k ∧ k ≤ 8) : 64 * midI (midI (m6 x) (m6 y) n) (m6 z) k = (8 - k) * (8 - n) * m6 x + (8 - k) * n * m6 y + 8 * k * m6 z := by
  rw [mid2 x y z hn hk, m6_eq, m6_eq, m6_eq]
  generalize x % 6 = a
  generalize y % 6 = b
  generalize z % 6 = c
  grind
def dBetw : Dn
  | [.agg [.int x1 _, .int y1 _, .int z1 _], .agg [.int x2 _, .int y2 _, .int z2 _], .c (.int n _)] =>
    some (none, .agg [.int (midI x1 x2 n) (IR.wrap _), .int (midI y1 y2 n) (IR.wrap _), .int (midI z1 z2 n) (IR.wrap _)])
  | _ => none
theorem spBetw : SpOk Tryd.prog 13 dBetw := sp_of2 (un := 20) (n := 0) ⟨Tryd.func13, by kernel_rfl, by kernel_rfl⟩ baseM1_ok noF_ok fun args p v hd => by
  unfold dBetw at hd
  split at hd
  · rename_i x1 hx1 y1 hy1 z1 hz1 x2 hx2 y2 hy2 z2 hz2 n hn
    cases hd
    refine ⟨[.agg [.int x1 hx1, .int y1 hy1, .int z1 hz1], .agg [.int x2 hx2, .int y2 hy2, .int z2 hz2], .c (.int n hn)], fun _ => rfl, fun _ _ => rfl, fun _ _ => rfl, fun _ => ?_⟩
    conv => whnf
    exact fun _ => rfl
  · cases hd
noncomputable def baseDv : List (FuncId × Dn) := (7, dNearL) :: (6, dSanity) :: (13, dBetw) :: baseM1
theorem baseDv_ok : AllOk baseDv := .cons spNearL <| .cons spSanity <| .cons spBetw <| baseM1_ok
def rdDv : List (FuncId × Dr) := [(14, dFst), (15, dCnt)]
theorem rdDv_ok : AllR rdDv := .cons spFirstY (.cons spCountY .nil)
def dLawDv : Dn
  | [.agg [.int _ _, .int _ _, .int _ _, .int _ _, .int _ _, .int _ _, .int _ _], .agg [.int _ _, .int _ _, .int _ _, .int _ _, .int _ _, .int _ _, .int _ _, .int _ _, .int _ _], .agg [.val (.int .u8 n0), .val (.int .u8 n1)]] => some (some ((0 ≤ n0 ∧ n0 < 256) ∧ 0 ≤ n1 ∧ n1 < 256), .c (.val (.bool true)))
  | _ => none
def dvR (rx ry rz rw d0 d1 d2 : Int) : RI := ⟨IntKind.i64.wrap (40 * nC (nW rw) rx), IntKind.i64.wrap (40 * nC (nW rw) ry), IntKind.i64.wrap (40 * nC (nW rw) rz), nW rw, nD d0, nD d1, nD d2, IR.wrap _, IR.wrap _, IR.wrap _, ir_nW _, ir_nD _, ir_nD _, ir_nD _⟩
section
variable (x1 y1 z1 x2 y2 z2 x3 y3 z3 n0 n1 : Int)
def dvT : TR := ⟨⟨m6 x1, m6 y1, m6 z1, IR.wrap _, IR.wrap _, IR.wrap _⟩, ⟨m6 x2, m6 y2, m6 z2, IR.wrap _, IR.wrap _, IR.wrap _⟩, ⟨m6 x3, m6 y3, m6 z3, IR.wrap _, IR.wrap _, IR.wrap _⟩⟩
def dvA : List TR := [⟨⟨m6 x1, m6 y1, m6 z1, IR.wrap _, IR.wrap _, IR.wrap _⟩, ⟨midI (m6 x1) (m6 x2) (n9 n0), midI (m6 y1) (m6 y2) (n9 n0), midI (m6 z1) (m6 z2) (n9 n0), IR.wrap _, IR.wrap _, IR.wrap _⟩, ⟨m6 x3, m6 y3, m6 z3, IR.wrap _, IR.wrap _, IR.wrap _⟩⟩, ⟨⟨midI (m6 x1) (m6 x2) (n9 n0), midI (m6 y1) (m6 y2) (n9 n0), midI (m6 z1) (m6 z2) (n9 n0), IR.wrap _, IR.wrap _, IR.wrap _⟩, ⟨m6 x2, m6 y2, m6 z2, IR.wrap _, IR.wrap _, IR.wrap _⟩, ⟨m6 x3, m6 y3, m6 z3, IR.wrap _, IR.wrap _, IR.wrap _⟩⟩]
def dvB : List TR := [⟨⟨m6 x1, m6 y1, m6 z1, IR.wrap _, IR.wrap _, IR.wrap _⟩, ⟨m6 x2, m6 y2, m6 z2, IR.wrap _, IR.wrap _, IR.wrap _⟩, ⟨midI (midI (m6 x1) (m6 x2) (n9 n0)) (m6 x3) (n9 n1), midI (midI (m6 y1) (m6 y2) (n9 n0)) (m6 y3) (n9 n1), midI (midI (m6 z1) (m6 z2) (n9 n0)) (m6 z3) (n9 n1), IR.wrap _, IR.wrap _, IR.wrap _⟩⟩, ⟨⟨m6 x2, m6 y2, m6 z2, IR.wrap _, IR.wrap _, IR.wrap _⟩, ⟨m6 x3, m6 y3, m6 z3, IR.wrap _, IR.wrap _, IR.wrap _⟩, ⟨midI (midI (m6 x1) (m6 x2) (n9 n0)) (m6 x3) (n9 n1), midI (midI (m6 y1) (m6 y2) (n9 n0)) (m6 y3) (n9 n1), midI (midI (m6 z1) (m6 z2) (n9 n0)) (m6 z3) (n9 n1), IR.wrap _, IR.wrap _, IR.wrap _⟩⟩, ⟨⟨m6 x3, m6 y3, m6 z3, IR.wrap _, IR.wrap _, IR.wrap _⟩, ⟨m6 x1, m6 y1, m6 z1, IR.wrap _, IR.wrap _, IR.wrap _⟩, ⟨midI (midI (m6 x1) (m6 x2) (n9 n0)) (m6 x3) (n9 n1), midI (midI (m6 y1) (m6 y2) (n9 n0)) (m6 y3) (n9 n1), midI (midI (m6 z1) (m6 z2) (n9 n0)) (m6 z3) (n9 n1), IR.wrap _, IR.wrap _, IR.wrap _⟩⟩]
end
theorem dv_A {x1 y1 z1 x2 y2 z2 x3 y3 z3 n0 : Int} (h0 : 0 ≤ n0 ∧ n0 < 256) (R : RI) : SubL R (dvA x1 y1 z1 x2 y2 z2 x3 y3 z3 n0) (dvT x1 y1 z1 x2 y2 z2 x3 y3 z3) := by
  have hn := n9_b h0
  exact sub2 (K := 8) (a := 8 - n9 n0) (b := n9 n0) (m := ⟨midI (m6 x1) (m6 x2) (n9 n0), midI (m6 y1) (m6 y2) (n9 n0), midI (m6 z1) (m6 z2) (n9 n0)⟩) (p := ⟨m6 x1, m6 y1, m6 z1⟩) (q := ⟨m6 x2, m6 y2, m6 z2⟩) (s := ⟨m6 x3, m6 y3, m6 z3⟩)
    ⟨by omega, by omega, by omega, by omega, by omega, by rw [Int.zero_mul, Int.add_zero]; exact mid1_k x1 x2 hn, by rw [Int.zero_mul, Int.add_zero]; exact mid1_k y1 y2 hn, by rw [Int.zero_mul, Int.add_zero]; exact mid1_k z1 z2 hn⟩ ⟨rfl, rfl, rfl⟩ ⟨rfl, rfl, rfl⟩ ⟨rfl, rfl, rfl⟩
theorem dv_B {x1 y1 z1 x2 y2 z2 x3 y3 z3 n0 n1 : Int} (h0 : 0 ≤ n0 ∧ n0 < 256) (h1 : 0 ≤ n1 ∧ n1 < 256) (R : RI) : SubL R (dvB x1 y1 z1 x2 y2 z2 x3 y3 z3 n0 n1) (dvT x1 y1 z1 x2 y2 z2 x3 y3 z3) := by
  have hn := n9_b h0
  have hk := n9_b h1
  have k1 : (0 : Int) ≤ (8 - n9 n1) * (8 - n9 n0) := Int.mul_nonneg (by omega) (by omega)
  have k2 : (0 : Int) ≤ (8 - n9 n1) * n9 n0 := Int.mul_nonneg (by omega) (by omega)
  have k3 : (64 : Int) = (8 - n9 n1) * (8 - n9 n0) + (8 - n9 n1) * n9 n0 + 8 * n9 n1 := by clear hn hk k1 k2; grind
  exact sub3 (K := 64) (o := ⟨midI (midI (m6 x1) (m6 x2) (n9 n0)) (m6 x3) (n9 n1), midI (midI (m6 y1) (m6 y2) (n9 n0)) (m6 y3) (n9 n1), midI (midI (m6 z1) (m6 z2) (n9 n0)) (m6 z3) (n9 n1)⟩) (p := ⟨m6 x1, m6 y1, m6 z1⟩) (q := ⟨m6 x2, m6 y2, m6 z2⟩) (s := ⟨m6 x3, m6 y3, m6 z3⟩)
    ⟨k1, k2, by omega, k3, by omega, mid2_k x1 x2 x3 hn hk, mid2_k y1 y2 y3 hn hk, mid2_k z1 z2 z3 hn hk⟩ ⟨rfl, rfl, rfl⟩ ⟨rfl, rfl, rfl⟩ ⟨rfl, rfl, rfl⟩ ⟨rfl, rfl, rfl⟩
theorem ne_no {a b c d : Int} (h1 : a = c) (h2 : b = d) : (!(decide (a = c) && decide (b = d))) = false := by subst h1 h2; simp
theorem neb_no {a b : Bool} (h : a = b) : (!(a == b)) = false := by subst h; simp
theorem nei_no {a b : Int} (h : a = b) : (!decide (a = b)) = false := by subst h; simp
set_option maxHeartbeats 16000000 in
theorem spLawDv : SpOk Tryd.prog 5 dLawDv := sp_of3 (un := 20) (n := 0) ⟨Tryd.func5, by kernel_rfl, by kernel_rfl⟩ baseDv_ok rdDv_ok noF_ok fun args p v hd => by
  unfold dLawDv at hd
  split at hd
  · rename_i rx hrx ry hry rz hrz rw hrw d0 hd0 d1 hd1 d2 hd2 x1 hx1 y1 hy1 z1 hz1 x2 hx2 y2 hy2 z2 hz2 x3 hx3 y3 hy3 z3 hz3 n0 n1
    cases hd
    refine ⟨[.agg [.int rx hrx, .int ry hry, .int rz hrz, .int rw hrw, .int d0 hd0, .int d1 hd1, .int d2 hd2], .agg [.int x1 hx1, .int y1 hy1, .int z1 hz1, .int x2 hx2, .int y2 hy2, .int z2 hz2, .int x3 hx3, .int y3 hy3, .int z3 hz3], .agg [.val (.int .u8 n0), .val (.int .u8 n1)]], fun _ => rfl, fun _ _ => rfl, fun _ _ => rfl, fun hpre => ?_⟩
    obtain ⟨hn0, hn1⟩ := hpre _ rfl
    have hA := dv_A (x1 := x1) (y1 := y1) (z1 := z1) (x2 := x2) (y2 := y2) (z2 := z2) (x3 := x3) (y3 := y3) (z3 := z3) hn0 (dvR rx ry rz rw d0 d1 d2)
    have hB := dv_B (x1 := x1) (y1 := y1) (z1 := z1) (x2 := x2) (y2 := y2) (z2 := z2) (x3 := x3) (y3 := y3) (z3 := z3) hn0 hn1 (dvR rx ry rz rw d0 d1 d2)
    conv => whnf
    refine ⟨⟨by decide, by decide⟩, ?_⟩
    conv => whnf
    refine ⟨⟨by decide, by decide⟩, ?_⟩
    conv => whnf
    refine ⟨⟨by decide, by decide⟩, ?_⟩
    conv => whnf
    refine ⟨⟨by decide, by decide⟩, ?_⟩
    conv => whnf
    refine ⟨⟨by decide, by decide⟩, ?_⟩
    conv => whnf
    refine ⟨⟨by decide, by decide⟩, ?_⟩
    conv => whnf
    refine ⟨⟨by decide, by decide⟩, ?_⟩
    conv => whnf
    refine ⟨⟨by decide, by decide⟩, ?_⟩
    conv => whnf
    refine ⟨⟨by decide, by decide⟩, ?_⟩
    conv => whnf
    refine bcase_intro (fun h1 => absurd (h1.symm.trans (nei_no (congrArg (fun n : Nat => (n : Int)) hA.cnt))) (by decide)) (fun _ => ?_)
    conv => whnf
    refine bcase_intro (fun h2 => absurd (h2.symm.trans (neb_no hA.some)) (by decide)) (fun _ => ?_)
    conv => whnf
    refine bcase_intro (fun h3 => absurd (h3.symm.trans (ne_no hA.hit.1 hA.hit.2)) (by decide)) (fun _ => ?_)
    conv => whnf
    refine bcase_intro (fun h1 => absurd (h1.symm.trans (nei_no (congrArg (fun n : Nat => (n : Int)) hB.cnt))) (by decide)) (fun _ => ?_)
    conv => whnf
    refine bcase_intro (fun h2 => absurd (h2.symm.trans (neb_no hB.some)) (by decide)) (fun _ => ?_)
    conv => whnf
    refine bcase_intro (fun h3 => absurd (h3.symm.trans (ne_no hB.hit.1 hB.hit.2)) (by decide)) (fun _ => ?_)
    conv => whnf
    exact fun ρ => sbool_e rfl ρ
  · cases hd
end Go.Proofs.YtefgchmbdijjdaaDoor
