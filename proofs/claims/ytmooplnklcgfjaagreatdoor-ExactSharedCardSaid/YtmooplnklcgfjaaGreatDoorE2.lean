/- Segments that cross, by the reckoner. -/
import Derived.Test.YtmooplnklcgfjaaGreatDoorES
namespace Go.Proofs.YtmooplnklcgfjaaGreatDoor
open Go.RowKit
set_option maxRecDepth 100000

theorem ax0 {v : V3} (h : (!decide (v.x.sign = 0)) = true) : axZ v = 0 := by
  have : v.x ≠ 0 := fun e => by rw [e] at h; cases h
  unfold axZ; rw [if_pos this]
theorem ax_n {x : Int} (h : (!decide (x.sign = 0)) = false) : x = 0 := Int.sign_eq_zero_iff_zero.1 (of_decide_eq_true (by simpa using h))
theorem ax_y {x : Int} (h : (!decide (x.sign = 0)) = true) : x ≠ 0 := fun e => by rw [e] at h; cases h
theorem ax1 {v : V3} (h : (!decide (v.x.sign = 0)) = false) (h1 : (!decide (v.y.sign = 0)) = true) : axZ v = 1 := by
  have := ax_n h; have := ax_y h1
  unfold axZ; rw [if_neg (by omega), if_pos (by omega)]
theorem ax2 {v : V3} (h : (!decide (v.x.sign = 0)) = false) (h1 : (!decide (v.y.sign = 0)) = false) (h2 : (!decide (v.z.sign = 0)) = true) : axZ v = 2 := by
  have := ax_n h; have := ax_n h1; have := ax_y h2
  unfold axZ; rw [if_neg (by omega), if_neg (by omega), if_pos (by omega)]
theorem ax3 {v : V3} (h : (!decide (v.x.sign = 0)) = false) (h1 : (!decide (v.y.sign = 0)) = false) (h2 : (!decide (v.z.sign = 0)) = false) : axZ v = 3 := by
  have := ax_n h; have := ax_n h1; have := ax_n h2
  unfold axZ; rw [if_neg (by omega), if_neg (by omega), if_neg (by omega)]
theorem ir_sg (x : Int) : x.sign.natAbs ≤ 1 := by rcases x with (_ | _) | _ <;> simp [Int.sign]
theorem sg_wrap (x y : Int) : IntKind.i64.wrap (x.sign * y.sign) = x.sign * y.sign := by
  refine wrap_i ?_
  have h1 := ir_sg x; have h2 := ir_sg y
  have := mul_bd (a := x.sign) (b := y.sign) (m := 1) (n := 1) h1 h2
  omega
theorem ir_min {p q : V3} (h1 : IR p.x) (h2 : IR p.y) (h3 : IR p.z) (g1 : IR q.x) (g2 : IR q.y) (g3 : IR q.z) : IR (minZ p q).x ∧ IR (minZ p q).y ∧ IR (minZ p q).z := by unfold minZ; cases lessZ q p <;> exact ⟨by assumption, by assumption, by assumption⟩
theorem ir_max {p q : V3} (h1 : IR p.x) (h2 : IR p.y) (h3 : IR p.z) (g1 : IR q.x) (g2 : IR q.y) (g3 : IR q.z) : IR (maxZ p q).x ∧ IR (maxZ p q).y ∧ IR (maxZ p q).z := by unfold maxZ; cases lessZ q p <;> exact ⟨by assumption, by assumption, by assumption⟩
theorem min_t {p q : V3} (h : lessZ q p = true) : minZ p q = q := by unfold minZ; rw [h]; rfl
theorem min_f {p q : V3} (h : lessZ q p = false) : minZ p q = p := by unfold minZ; rw [h]; rfl
theorem max_t {p q : V3} (h : lessZ q p = true) : maxZ p q = p := by unfold maxZ; rw [h]; rfl
theorem max_f {p q : V3} (h : lessZ q p = false) : maxZ p q = q := by unfold maxZ; rw [h]; rfl
theorem max_t' {p q : V3} (h : lessZ p q = true) : maxZ p q = q := by rw [max_comm]; exact max_t h
theorem max_f' {p q : V3} (h : lessZ p q = false) : maxZ p q = p := by rw [max_comm]; exact max_f h
theorem pts2_sv {p q p' q' : V3} {h1 : IR p.x} {h2 : IR p.y} {h3 : IR p.z} {g1 : IR q.x} {g2 : IR q.y} {g3 : IR q.z} {h1' : IR p'.x} {h2' : IR p'.y} {h3' : IR p'.z} {g1' : IR q'.x} {g2' : IR q'.y} {g3' : IR q'.z} (e : p = p') (e' : q = q') (ρ : Rho) :
    (SV.tup [.agg [.int p.x h1, .int p.y h2, .int p.z h3], .agg [.int q.x g1, .int q.y g2, .int q.z g3]]).den ρ = (SV.tup [.agg [.int p'.x h1', .int p'.y h2', .int p'.z h3'], .agg [.int q'.x g1', .int q'.y g2', .int q'.z g3']]).den ρ := by subst e e'; rfl
abbrev envS : Env := envE 20 baseE2 [] (fun i => i == 2 || i == 3) noR
theorem envS_ok : EOk Tryz.prog envS := envE_ok baseE2_ok .nil 20 _ noR_ok
def dSorted : Dn
  | [.agg [.int x1 hx1, .int y1 hy1, .int z1 hz1], .agg [.int x2 hx2, .int y2 hy2, .int z2 hz2]] =>
    some (none, .tup [.agg [.int (minZ ⟨x1, y1, z1⟩ ⟨x2, y2, z2⟩).x (ir_min (p := ⟨x1, y1, z1⟩) (q := ⟨x2, y2, z2⟩) hx1 hy1 hz1 hx2 hy2 hz2).1, .int (minZ ⟨x1, y1, z1⟩ ⟨x2, y2, z2⟩).y (ir_min (p := ⟨x1, y1, z1⟩) (q := ⟨x2, y2, z2⟩) hx1 hy1 hz1 hx2 hy2 hz2).2.1, .int (minZ ⟨x1, y1, z1⟩ ⟨x2, y2, z2⟩).z (ir_min (p := ⟨x1, y1, z1⟩) (q := ⟨x2, y2, z2⟩) hx1 hy1 hz1 hx2 hy2 hz2).2.2], .agg [.int (maxZ ⟨x1, y1, z1⟩ ⟨x2, y2, z2⟩).x (ir_max (p := ⟨x1, y1, z1⟩) (q := ⟨x2, y2, z2⟩) hx1 hy1 hz1 hx2 hy2 hz2).1, .int (maxZ ⟨x1, y1, z1⟩ ⟨x2, y2, z2⟩).y (ir_max (p := ⟨x1, y1, z1⟩) (q := ⟨x2, y2, z2⟩) hx1 hy1 hz1 hx2 hy2 hz2).2.1, .int (maxZ ⟨x1, y1, z1⟩ ⟨x2, y2, z2⟩).z (ir_max (p := ⟨x1, y1, z1⟩) (q := ⟨x2, y2, z2⟩) hx1 hy1 hz1 hx2 hy2 hz2).2.2]])
  | _ => none
theorem spSorted : SpOk Tryz.prog 53 dSorted := sp_ofE (n := 0) ⟨Tryz.func53, by kernel_rfl, by kernel_rfl⟩ envS_ok noF_ok fun args p v hd => by
  unfold dSorted at hd
  split at hd
  · rename_i x1 hx1 y1 hy1 z1 hz1 x2 hx2 y2 hy2 z2 hz2
    cases hd
    refine ⟨[.agg [.int x1 hx1, .int y1 hy1, .int z1 hz1], .agg [.int x2 hx2, .int y2 hy2, .int z2 hz2]], fun _ => rfl, fun _ _ => rfl, fun _ _ => rfl, fun _ => ?_⟩
    conv => whnf
    refine bcase_intro (fun h0 => ?_) (fun h0 => ?_)
    · have h0 : lessZ (⟨x2, y2, z2⟩ : V3) (⟨x1, y1, z1⟩ : V3) = true := h0
      conv => whnf
      refine ⟨?_, ?_, trivial⟩
      · conv => whnf
        refine ⟨?_, ?_, trivial⟩
        · conv => whnf
          refine ⟨?_, trivial⟩
          · conv => whnf
            refine ⟨?_, trivial⟩
            · conv => whnf
              exact fun ρ => pts2_sv (p := (⟨x2, y2, z2⟩ : V3)) (q := (⟨x1, y1, z1⟩ : V3)) (min_t h0).symm (max_t h0).symm ρ
        · conv => whnf
          refine ⟨?_, trivial⟩
          · conv => whnf
            refine ⟨?_, trivial⟩
            · conv => whnf
              exact fun ρ => pts2_sv (p := (⟨x2, y2, z2⟩ : V3)) (q := (⟨x1, y1, z1⟩ : V3)) (min_t h0).symm (max_t h0).symm ρ
      · conv => whnf
        refine ⟨?_, trivial⟩
        · conv => whnf
          refine ⟨?_, trivial⟩
          · conv => whnf
            refine ⟨?_, trivial⟩
            · conv => whnf
              exact fun ρ => pts2_sv (p := (⟨x2, y2, z2⟩ : V3)) (q := (⟨x1, y1, z1⟩ : V3)) (min_t h0).symm (max_t h0).symm ρ
    have h0 : lessZ (⟨x2, y2, z2⟩ : V3) (⟨x1, y1, z1⟩ : V3) = false := h0
    conv => whnf
    refine ⟨?_, ?_, trivial⟩
    · conv => whnf
      refine ⟨?_, ?_, trivial⟩
      · conv => whnf
        refine ⟨?_, trivial⟩
        · conv => whnf
          refine ⟨?_, trivial⟩
          · conv => whnf
            exact fun ρ => pts2_sv (p := (⟨x1, y1, z1⟩ : V3)) (q := (⟨x2, y2, z2⟩ : V3)) (min_f h0).symm (max_f h0).symm ρ
      · conv => whnf
        refine ⟨?_, trivial⟩
        · conv => whnf
          refine ⟨?_, trivial⟩
          · conv => whnf
            exact fun ρ => pts2_sv (p := (⟨x1, y1, z1⟩ : V3)) (q := (⟨x2, y2, z2⟩ : V3)) (min_f h0).symm (max_f h0).symm ρ
    · conv => whnf
      refine ⟨?_, trivial⟩
      · conv => whnf
        refine ⟨?_, trivial⟩
        · conv => whnf
          refine ⟨?_, trivial⟩
          · conv => whnf
            exact fun ρ => pts2_sv (p := (⟨x1, y1, z1⟩ : V3)) (q := (⟨x2, y2, z2⟩ : V3)) (min_f h0).symm (max_f h0).symm ρ
  · cases hd
def baseE3 : List (FuncId × Dn) := (53, dSorted) :: baseE2
theorem baseE3_ok : AllOk baseE3 := .cons spSorted <| baseE2_ok
theorem npT {k : Nat} {p q r s : V3} (h : decide ((detZ p q r s).sign = 0) = true) (h1 : sideB k p q r s = true) : sideB k r s p q = nparB k p q r s := by unfold nparB; rw [h, h1]; rfl
theorem npF1 {k : Nat} {p q r s : V3} (h : decide ((detZ p q r s).sign = 0) = false) : false = nparB k p q r s := by unfold nparB; rw [h]; rfl
theorem npF2 {k : Nat} {p q r s : V3} (h1 : sideB k p q r s = false) : false = nparB k p q r s := by unfold nparB; rw [h1]; simp
theorem sd_e (k : Nat) (a b c d : V3) : decide (IntKind.i64.wrap (((crZ a b a c).at k).sign * ((crZ a b a d).at k).sign) ≤ 0) = sideB k a b c d := by unfold sideB; rw [sg_wrap]
theorem cr_k {k : Nat} {p q r s : V3} (h : axZ (crZ p q r s) = k) (hk : k ≠ 3) {b : Bool} (e : b = nparB k p q r s) : b = crossV p q r s := by unfold crossV; subst h; rw [if_neg hk]; exact e
theorem cr_p {p q r s : V3} (h : axZ (crZ p q r s) = 3) {b : Bool} (e : b = parB p q r s) : b = crossV p q r s := by unfold crossV; rw [if_pos h]; exact e
theorem pa_e {p q r s : V3} {b : Bool} (h : eqB (minZ p q) (maxZ p q) = b) {f : Bool} (hf : (cond b (normZ (minZ r s) (maxZ r s) (minZ p q)).isZ (normZ (minZ p q) (maxZ p q) (minZ r s)).isZ) = f) : parB p q r s = (f && (!lessZ (maxZ p q) (minZ r s) && !lessZ (maxZ r s) (minZ p q))) := by unfold parB; rw [h, hf]
theorem pa1 {p q r s : V3} {b : Bool} (h : eqB (minZ p q) (maxZ p q) = b) (hf : (cond b (normZ (minZ r s) (maxZ r s) (minZ p q)).isZ (normZ (minZ p q) (maxZ p q) (minZ r s)).isZ) = false) : false = parB p q r s := (pa_e h hf).symm
theorem pa2 {p q r s : V3} {b : Bool} (h : eqB (minZ p q) (maxZ p q) = b) (hf : (cond b (normZ (minZ r s) (maxZ r s) (minZ p q)).isZ (normZ (minZ p q) (maxZ p q) (minZ r s)).isZ) = true) (h1 : lessZ (maxZ p q) (minZ r s) = true) : false = parB p q r s := by rw [pa_e h hf, h1]; rfl
theorem pa3 {p q r s : V3} {b : Bool} (h : eqB (minZ p q) (maxZ p q) = b) (hf : (cond b (normZ (minZ r s) (maxZ r s) (minZ p q)).isZ (normZ (minZ p q) (maxZ p q) (minZ r s)).isZ) = true) (h1 : lessZ (maxZ p q) (minZ r s) = false) : (!lessZ (maxZ r s) (minZ p q)) = parB p q r s := by rw [pa_e h hf, h1]; rfl
noncomputable def fxCr : FuncId → Option Func := lk [(52, Tryz.f52), (79, Tryz.f79)]
theorem fxCr_ok : ∀ f fn, fxCr f = some fn → FnOk Tryz.prog f fn := lkF_ok fun x hx => by
  simp only [List.mem_cons, List.not_mem_nil, or_false] at hx
  rcases hx with rfl | rfl
  · exact ⟨Tryz.func52, by kernel_rfl, by kernel_rfl⟩
  · exact ⟨Tryz.func79, by kernel_rfl, by kernel_rfl⟩
theorem not_t {b : Bool} (h : (!b) = true) : b = false := by simpa using h
theorem not_f {b : Bool} (h : (!b) = false) : b = true := by simpa using h
def dCrossE : Dn
  | [.agg [.int x1 _, .int y1 _, .int z1 _], .agg [.int x2 _, .int y2 _, .int z2 _], .agg [.int x3 _, .int y3 _, .int z3 _], .agg [.int x4 _, .int y4 _, .int z4 _]] =>
    some (none, .c (.val (.bool (crossV ⟨x1, y1, z1⟩ ⟨x2, y2, z2⟩ ⟨x3, y3, z3⟩ ⟨x4, y4, z4⟩))))
  | _ => none
set_option maxHeartbeats 8000000 in
theorem spCrossE : SpOk Tryz.prog 54 dCrossE := sp_of2 (un := 20) (n := 4) ⟨Tryz.func54, by kernel_rfl, by kernel_rfl⟩ baseE3_ok fxCr_ok fun args p v hd => by
  unfold dCrossE at hd
  split at hd
  · rename_i x1 hx1 y1 hy1 z1 hz1 x2 hx2 y2 hy2 z2 hz2 x3 hx3 y3 hy3 z3 hz3 x4 hx4 y4 hy4 z4 hz4
    cases hd
    refine ⟨[.agg [.int x1 hx1, .int y1 hy1, .int z1 hz1], .agg [.int x2 hx2, .int y2 hy2, .int z2 hz2], .agg [.int x3 hx3, .int y3 hy3, .int z3 hz3], .agg [.int x4 hx4, .int y4 hy4, .int z4 hz4]], fun _ => rfl, fun _ _ => rfl, fun _ _ => rfl, fun _ => ?_⟩
    conv => whnf
    refine bcase_intro (fun a0 => ?_) (fun a0 => ?_)
    · have ha := ax0 (v := (crZ ⟨x1, y1, z1⟩ ⟨x2, y2, z2⟩ ⟨x3, y3, z3⟩ ⟨x4, y4, z4⟩)) a0
      conv => whnf
      refine bcase_intro (fun h0 => ?_) (fun h0 => ?_)
      rotate_left
      · conv => whnf
        exact fun ρ => sbool_e (cr_k ha (by decide) (npF1 h0)) ρ
      conv => whnf
      refine bcase_intro (fun h1 => ?_) (fun h1 => ?_)
      rotate_left
      · conv => whnf
        exact fun ρ => sbool_e (cr_k ha (by decide) (npF2 ((sd_e 0 (⟨x1, y1, z1⟩ : V3) (⟨x2, y2, z2⟩ : V3) (⟨x3, y3, z3⟩ : V3) (⟨x4, y4, z4⟩ : V3)).symm.trans h1))) ρ
      conv => whnf
      exact fun ρ => sbool_e (cr_k ha (by decide) ((sd_e 0 (⟨x3, y3, z3⟩ : V3) (⟨x4, y4, z4⟩ : V3) (⟨x1, y1, z1⟩ : V3) (⟨x2, y2, z2⟩ : V3)).trans (npT h0 ((sd_e 0 (⟨x1, y1, z1⟩ : V3) (⟨x2, y2, z2⟩ : V3) (⟨x3, y3, z3⟩ : V3) (⟨x4, y4, z4⟩ : V3)).symm.trans h1)))) ρ
    conv => whnf
    refine bcase_intro (fun a1 => ?_) (fun a1 => ?_)
    · have ha := ax1 (v := (crZ ⟨x1, y1, z1⟩ ⟨x2, y2, z2⟩ ⟨x3, y3, z3⟩ ⟨x4, y4, z4⟩)) a0 a1
      conv => whnf
      refine bcase_intro (fun h0 => ?_) (fun h0 => ?_)
      rotate_left
      · conv => whnf
        exact fun ρ => sbool_e (cr_k ha (by decide) (npF1 h0)) ρ
      conv => whnf
      refine bcase_intro (fun h1 => ?_) (fun h1 => ?_)
      rotate_left
      · conv => whnf
        exact fun ρ => sbool_e (cr_k ha (by decide) (npF2 ((sd_e 1 (⟨x1, y1, z1⟩ : V3) (⟨x2, y2, z2⟩ : V3) (⟨x3, y3, z3⟩ : V3) (⟨x4, y4, z4⟩ : V3)).symm.trans h1))) ρ
      conv => whnf
      exact fun ρ => sbool_e (cr_k ha (by decide) ((sd_e 1 (⟨x3, y3, z3⟩ : V3) (⟨x4, y4, z4⟩ : V3) (⟨x1, y1, z1⟩ : V3) (⟨x2, y2, z2⟩ : V3)).trans (npT h0 ((sd_e 1 (⟨x1, y1, z1⟩ : V3) (⟨x2, y2, z2⟩ : V3) (⟨x3, y3, z3⟩ : V3) (⟨x4, y4, z4⟩ : V3)).symm.trans h1)))) ρ
    conv => whnf
    refine bcase_intro (fun a2 => ?_) (fun a2 => ?_)
    · have ha := ax2 (v := (crZ ⟨x1, y1, z1⟩ ⟨x2, y2, z2⟩ ⟨x3, y3, z3⟩ ⟨x4, y4, z4⟩)) a0 a1 a2
      conv => whnf
      refine bcase_intro (fun h0 => ?_) (fun h0 => ?_)
      rotate_left
      · conv => whnf
        exact fun ρ => sbool_e (cr_k ha (by decide) (npF1 h0)) ρ
      conv => whnf
      refine bcase_intro (fun h1 => ?_) (fun h1 => ?_)
      rotate_left
      · conv => whnf
        exact fun ρ => sbool_e (cr_k ha (by decide) (npF2 ((sd_e 2 (⟨x1, y1, z1⟩ : V3) (⟨x2, y2, z2⟩ : V3) (⟨x3, y3, z3⟩ : V3) (⟨x4, y4, z4⟩ : V3)).symm.trans h1))) ρ
      conv => whnf
      exact fun ρ => sbool_e (cr_k ha (by decide) ((sd_e 2 (⟨x3, y3, z3⟩ : V3) (⟨x4, y4, z4⟩ : V3) (⟨x1, y1, z1⟩ : V3) (⟨x2, y2, z2⟩ : V3)).trans (npT h0 ((sd_e 2 (⟨x1, y1, z1⟩ : V3) (⟨x2, y2, z2⟩ : V3) (⟨x3, y3, z3⟩ : V3) (⟨x4, y4, z4⟩ : V3)).symm.trans h1)))) ρ
    conv => whnf
    have ha := ax3 (v := (crZ ⟨x1, y1, z1⟩ ⟨x2, y2, z2⟩ ⟨x3, y3, z3⟩ ⟨x4, y4, z4⟩)) a0 a1 a2
    refine bcase_intro (fun e0 => ?_) (fun e0 => ?_)
    · have e1 : eqB (minZ (⟨x1, y1, z1⟩ : V3) (⟨x2, y2, z2⟩ : V3)) (maxZ (⟨x1, y1, z1⟩ : V3) (⟨x2, y2, z2⟩ : V3)) = true := e0
      conv => whnf
      refine bcase_intro (fun f0 => ?_) (fun f0 => ?_)
      rotate_left
      · conv => whnf
        exact fun ρ => sbool_e (cr_p ha (pa1 e1 f0)) ρ
      conv => whnf
      refine bcase_intro (fun g0 => ?_) (fun g0 => ?_)
      rotate_left
      · conv => whnf
        exact fun ρ => sbool_e (cr_p ha (pa2 e1 f0 (not_f g0))) ρ
      conv => whnf
      exact fun ρ => sbool_e (cr_p ha (pa3 e1 f0 (not_t g0))) ρ
    · have e1 : eqB (minZ (⟨x1, y1, z1⟩ : V3) (⟨x2, y2, z2⟩ : V3)) (maxZ (⟨x1, y1, z1⟩ : V3) (⟨x2, y2, z2⟩ : V3)) = false := e0
      conv => whnf
      refine bcase_intro (fun f0 => ?_) (fun f0 => ?_)
      rotate_left
      · conv => whnf
        exact fun ρ => sbool_e (cr_p ha (pa1 e1 f0)) ρ
      conv => whnf
      refine bcase_intro (fun g0 => ?_) (fun g0 => ?_)
      rotate_left
      · conv => whnf
        exact fun ρ => sbool_e (cr_p ha (pa2 e1 f0 (not_f g0))) ρ
      conv => whnf
      exact fun ρ => sbool_e (cr_p ha (pa3 e1 f0 (not_t g0))) ρ
  · cases hd
def baseE4 : List (FuncId × Dn) := (54, dCrossE) :: baseE3
theorem baseE4_ok : AllOk baseE4 := .cons spCrossE <| baseE3_ok
end Go.Proofs.YtmooplnklcgfjaaGreatDoor
