/- law 02: a segment through a point of a triangle. -/
import Derived.Test.YtmooplnklcgfjaaDoorEG
import Derived.Test.YtmooplnklcgfjaaDoorEW
namespace Go.Proofs.YtmooplnklcgfjaaDoor
open Go.RowKit
set_option maxRecDepth 100000

def pW (a b c u v w : Int) : Int := IntKind.i64.wrap (IntKind.i64.wrap (IntKind.i64.wrap (a * u) + IntKind.i64.wrap (b * v)) + IntKind.i64.wrap (c * w))
def suW (a b c : Int) : Int := IntKind.i64.wrap (IntKind.i64.wrap (a + b) + c)
def plW (a b : Int) : Int := IntKind.i64.wrap (a + b)
def miW (a b : Int) : Int := IntKind.i64.wrap (a - b)
theorem suW_e {a b c : Int} (ha : 0 ≤ a ∧ a < 12) (hb : 0 ≤ b ∧ b < 12) (hc : 0 ≤ c ∧ c < 12) : suW a b c = a + b + c := by
  unfold suW
  rw [wrap_i (n := a + b) (by omega), wrap_i (by omega)]
theorem pr_bd {a u : Int} (ha : 0 ≤ a ∧ a < 12) (hu : 0 ≤ u ∧ u < 50) : 0 ≤ a * u ∧ (a * u).natAbs ≤ 600 := ⟨Int.mul_nonneg ha.1 hu.1, mul_bd (a := a) (b := u) (m := 12) (n := 50) (by omega) (by omega)⟩
theorem pW_e {a b c u v w : Int} (ha : 0 ≤ a ∧ a < 12) (hb : 0 ≤ b ∧ b < 12) (hc : 0 ≤ c ∧ c < 12) (hu : 0 ≤ u ∧ u < 50) (hv : 0 ≤ v ∧ v < 50) (hw : 0 ≤ w ∧ w < 50) : pW a b c u v w = a * u + b * v + c * w ∧ 0 ≤ a * u + b * v + c * w ∧ a * u + b * v + c * w ≤ 1800 := by
  have h1 := pr_bd ha hu
  have h2 := pr_bd hb hv
  have h3 := pr_bd hc hw
  refine ⟨?_, by omega, by omega⟩
  unfold pW
  rw [wrap_i (n := a * u) (by omega), wrap_i (n := b * v) (by omega), wrap_i (n := c * w) (by omega), wrap_i (n := a * u + b * v) (by omega), wrap_i (by omega)]
theorem mvW_0 {s x : Int} (hs : 0 ≤ s ∧ s < 36) (hx : 0 ≤ x ∧ x < 50) : mvW s 0 x = x * s := by
  have h := mul_bd (a := x) (b := s) (m := 50) (n := 36) (by omega) (by omega)
  unfold mvW
  rw [wrap_i (n := x * s) (by omega), wrap_i (by omega)]
  omega
theorem md5 (x : Int) : 0 ≤ x % 50 ∧ x % 50 < 50 := by omega
theorem md12 (x : Int) : 0 ≤ x % 12 ∧ x % 12 < 12 := by omega
section
variable (x1 y1 z1 x2 y2 z2 x3 y3 z3 a b c x4 y4 z4 : Int)
def ivP : V3 := ⟨pW (a % 12) (b % 12) (c % 12) (x1 % 50) (x2 % 50) (x3 % 50), pW (a % 12) (b % 12) (c % 12) (y1 % 50) (y2 % 50) (y3 % 50), pW (a % 12) (b % 12) (c % 12) (z1 % 50) (z2 % 50) (z3 % 50)⟩
def ivA : V3 := ⟨mvW (suW (a % 12) (b % 12) (c % 12)) 0 (x1 % 50), mvW (suW (a % 12) (b % 12) (c % 12)) 0 (y1 % 50), mvW (suW (a % 12) (b % 12) (c % 12)) 0 (z1 % 50)⟩
def ivB : V3 := ⟨mvW (suW (a % 12) (b % 12) (c % 12)) 0 (x2 % 50), mvW (suW (a % 12) (b % 12) (c % 12)) 0 (y2 % 50), mvW (suW (a % 12) (b % 12) (c % 12)) 0 (z2 % 50)⟩
def ivC : V3 := ⟨mvW (suW (a % 12) (b % 12) (c % 12)) 0 (x3 % 50), mvW (suW (a % 12) (b % 12) (c % 12)) 0 (y3 % 50), mvW (suW (a % 12) (b % 12) (c % 12)) 0 (z3 % 50)⟩
def ivQ : V3 := ⟨plW (pW (a % 12) (b % 12) (c % 12) (x1 % 50) (x2 % 50) (x3 % 50)) (x4 % 50), plW (pW (a % 12) (b % 12) (c % 12) (y1 % 50) (y2 % 50) (y3 % 50)) (y4 % 50), plW (pW (a % 12) (b % 12) (c % 12) (z1 % 50) (z2 % 50) (z3 % 50)) (z4 % 50)⟩
def ivR : V3 := ⟨miW (pW (a % 12) (b % 12) (c % 12) (x1 % 50) (x2 % 50) (x3 % 50)) (x4 % 50), miW (pW (a % 12) (b % 12) (c % 12) (y1 % 50) (y2 % 50) (y3 % 50)) (y4 % 50), miW (pW (a % 12) (b % 12) (c % 12) (z1 % 50) (z2 % 50) (z3 % 50)) (z4 % 50)⟩
def ivF : V3 := ⟨plW (plW (pW (a % 12) (b % 12) (c % 12) (x1 % 50) (x2 % 50) (x3 % 50)) (x4 % 50)) (x4 % 50), plW (plW (pW (a % 12) (b % 12) (c % 12) (y1 % 50) (y2 % 50) (y3 % 50)) (y4 % 50)) (y4 % 50), plW (plW (pW (a % 12) (b % 12) (c % 12) (z1 % 50) (z2 % 50) (z3 % 50)) (z4 % 50)) (z4 % 50)⟩
theorem in_hull (h : decide ((suW (a % 12) (b % 12) (c % 12)) = 0) = false) : Hull (a % 12) (b % 12) (c % 12) (ivP x1 y1 z1 x2 y2 z2 x3 y3 z3 a b c) (ivA x1 y1 z1 a b c) (ivB x2 y2 z2 a b c) (ivC x3 y3 z3 a b c) := by
  have h := of_decide_eq_false h
  have e := suW_e (md12 a) (md12 b) (md12 c)
  have ha := md12 a; have hb := md12 b; have hc := md12 c
  have hx := (pW_e ha hb hc (md5 x1) (md5 x2) (md5 x3)).1
  have hy := (pW_e ha hb hc (md5 y1) (md5 y2) (md5 y3)).1
  have hz := (pW_e ha hb hc (md5 z1) (md5 z2) (md5 z3)).1
  have hs : 0 ≤ (suW (a % 12) (b % 12) (c % 12)) ∧ (suW (a % 12) (b % 12) (c % 12)) < 36 := by omega
  have m := fun x => mvW_0 hs (md5 x)
  refine ⟨ha.1, hb.1, hc.1, by omega, ?_, ?_, ?_⟩
  · unfold ivP ivA ivB ivC; simp only [m, hx]; rw [e]; grind
  · unfold ivP ivA ivB ivC; simp only [m, hy]; rw [e]; grind
  · unfold ivP ivA ivB ivC; simp only [m, hz]; rw [e]; grind
theorem in_q : (ivQ x1 y1 z1 x2 y2 z2 x3 y3 z3 a b c x4 y4 z4) = dbl (ivR x1 y1 z1 x2 y2 z2 x3 y3 z3 a b c x4 y4 z4) (ivP x1 y1 z1 x2 y2 z2 x3 y3 z3 a b c) := by
  have ha := md12 a; have hb := md12 b; have hc := md12 c
  have hx := pW_e ha hb hc (md5 x1) (md5 x2) (md5 x3)
  have hy := pW_e ha hb hc (md5 y1) (md5 y2) (md5 y3)
  have hz := pW_e ha hb hc (md5 z1) (md5 z2) (md5 z3)
  rw [← hx.1] at hx; rw [← hy.1] at hy; rw [← hz.1] at hz
  have k1 := md5 x4; have k2 := md5 y4; have k3 := md5 z4
  unfold ivQ dbl ivR ivP plW miW
  apply V3.ext' <;> simp only <;> rw [wrap_i (by omega), wrap_i (by omega)] <;> omega
theorem in_f : (ivF x1 y1 z1 x2 y2 z2 x3 y3 z3 a b c x4 y4 z4) = dbl (ivP x1 y1 z1 x2 y2 z2 x3 y3 z3 a b c) (ivQ x1 y1 z1 x2 y2 z2 x3 y3 z3 a b c x4 y4 z4) := by
  have ha := md12 a; have hb := md12 b; have hc := md12 c
  have hx := pW_e ha hb hc (md5 x1) (md5 x2) (md5 x3)
  have hy := pW_e ha hb hc (md5 y1) (md5 y2) (md5 y3)
  have hz := pW_e ha hb hc (md5 z1) (md5 z2) (md5 z3)
  rw [← hx.1] at hx; rw [← hy.1] at hy; rw [← hz.1] at hz
  have k1 := md5 x4; have k2 := md5 y4; have k3 := md5 z4
  unfold ivF dbl ivQ ivP plW
  apply V3.ext' <;> simp only
  · rw [wrap_i (n := pW (a % 12) (b % 12) (c % 12) (x1 % 50) (x2 % 50) (x3 % 50) + x4 % 50) (by omega), wrap_i (by omega)]; omega
  · rw [wrap_i (n := pW (a % 12) (b % 12) (c % 12) (y1 % 50) (y2 % 50) (y3 % 50) + y4 % 50) (by omega), wrap_i (by omega)]; omega
  · rw [wrap_i (n := pW (a % 12) (b % 12) (c % 12) (z1 % 50) (z2 % 50) (z3 % 50) + z4 % 50) (by omega), wrap_i (by omega)]; omega
theorem in_1 (h : decide ((suW (a % 12) (b % 12) (c % 12)) = 0) = false) : touchV (ivP x1 y1 z1 x2 y2 z2 x3 y3 z3 a b c) (ivQ x1 y1 z1 x2 y2 z2 x3 y3 z3 a b c x4 y4 z4) (ivA x1 y1 z1 a b c) (ivB x2 y2 z2 a b c) (ivC x3 y3 z3 a b c) = true := hull_touch (in_hull x1 y1 z1 x2 y2 z2 x3 y3 z3 a b c h)
theorem in_2 (h : decide ((suW (a % 12) (b % 12) (c % 12)) = 0) = false) : touchV (ivR x1 y1 z1 x2 y2 z2 x3 y3 z3 a b c x4 y4 z4) (ivQ x1 y1 z1 x2 y2 z2 x3 y3 z3 a b c x4 y4 z4) (ivA x1 y1 z1 a b c) (ivB x2 y2 z2 a b c) (ivC x3 y3 z3 a b c) = true := by
  rw [in_q]
  exact touch_d ((touch_swap _ _ _ _ _).trans (hull_touch (in_hull x1 y1 z1 x2 y2 z2 x3 y3 z3 a b c h)))
theorem in_3 (h : decide ((suW (a % 12) (b % 12) (c % 12)) = 0) = false) : touchV (ivQ x1 y1 z1 x2 y2 z2 x3 y3 z3 a b c x4 y4 z4) (ivR x1 y1 z1 x2 y2 z2 x3 y3 z3 a b c x4 y4 z4) (ivA x1 y1 z1 a b c) (ivB x2 y2 z2 a b c) (ivC x3 y3 z3 a b c) = true := (touch_swap _ _ _ _ _).trans (in_2 x1 y1 z1 x2 y2 z2 x3 y3 z3 a b c x4 y4 z4 h)
theorem in_4 (h : decide ((suW (a % 12) (b % 12) (c % 12)) = 0) = false) (g : decide ((detZ (ivA x1 y1 z1 a b c) (ivB x2 y2 z2 a b c) (ivC x3 y3 z3 a b c) (ivQ x1 y1 z1 x2 y2 z2 x3 y3 z3 a b c x4 y4 z4)).sign = 0) = false) : (!touchV (ivQ x1 y1 z1 x2 y2 z2 x3 y3 z3 a b c x4 y4 z4) (ivF x1 y1 z1 x2 y2 z2 x3 y3 z3 a b c x4 y4 z4) (ivA x1 y1 z1 a b c) (ivB x2 y2 z2 a b c) (ivC x3 y3 z3 a b c)) = true := by
  have g := of_decide_eq_false g
  rw [in_f, touch_far (in_hull x1 y1 z1 x2 y2 z2 x3 y3 z3 a b c h) (fun e => g (by rw [e]; rfl))]; rfl
end
def dLawIn : Dn
  | [.agg [.int _ _, .int _ _, .int _ _, .int _ _, .int _ _, .int _ _, .int _ _, .int _ _, .int _ _], .agg [.int _ _, .int _ _, .int _ _], .agg [.int _ _, .int _ _, .int _ _]] =>
    some (none, .c (.val (.bool true)))
  | _ => none
set_option maxHeartbeats 16000000 in
theorem spLawIn : SpOk Tryd.prog 5 dLawIn := sp_of2 (un := 20) (n := 0) ⟨Tryd.func5, by kernel_rfl, by kernel_rfl⟩ baseP_ok noF_ok fun args p v hd => by
  unfold dLawIn at hd
  split at hd
  · rename_i x1 hx1 y1 hy1 z1 hz1 x2 hx2 y2 hy2 z2 hz2 x3 hx3 y3 hy3 z3 hz3 w0 hw0 w1 hw1 w2 hw2 x4 hx4 y4 hy4 z4 hz4
    cases hd
    refine ⟨[.agg [.int x1 hx1, .int y1 hy1, .int z1 hz1, .int x2 hx2, .int y2 hy2, .int z2 hz2, .int x3 hx3, .int y3 hy3, .int z3 hz3], .agg [.int w0 hw0, .int w1 hw1, .int w2 hw2], .agg [.int x4 hx4, .int y4 hy4, .int z4 hz4]], fun _ => rfl, fun _ _ => rfl, fun _ _ => rfl, fun _ => ?_⟩
    conv => whnf
    refine ⟨by decide, ?_⟩
    conv => whnf
    refine ⟨by decide, ?_⟩
    conv => whnf
    refine bcase_intro (fun h0 => ?_) (fun h0 => ?_)
    · conv => whnf
      exact fun _ => rfl
    conv => whnf
    refine ⟨by decide, ?_⟩
    conv => whnf
    refine bcase_intro (fun _ => ?_) (fun h => Bool.noConfusion ((in_1 x1 y1 z1 x2 y2 z2 x3 y3 z3 w0 w1 w2 x4 y4 z4 h0).symm.trans h))
    conv => whnf
    refine bcase_intro (fun _ => ?_) (fun h => Bool.noConfusion ((in_2 x1 y1 z1 x2 y2 z2 x3 y3 z3 w0 w1 w2 x4 y4 z4 h0).symm.trans h))
    conv => whnf
    refine bcase_intro (fun _ => ?_) (fun h => Bool.noConfusion ((in_3 x1 y1 z1 x2 y2 z2 x3 y3 z3 w0 w1 w2 x4 y4 z4 h0).symm.trans h))
    conv => whnf
    refine bcase_intro (fun g => ?_) (fun g => ?_)
    · conv => whnf
      exact fun ρ => sbool_e rfl ρ
    conv => whnf
    exact fun ρ => sbool_e (in_4 x1 y1 z1 x2 y2 z2 x3 y3 z3 w0 w1 w2 x4 y4 z4 h0 g) ρ
  · cases hd
end Go.Proofs.YtmooplnklcgfjaaDoor
