/- Cross, of ray and of the reference, by the reckoner: one value. law 22: frac, crosses, sanity. Plain laws: fractions are rationals; the part of a ray in a box. -/
import Derived.Test.YtefgchmbdijjdaaGreatDoorRya
namespace Go.Proofs.YtefgchmbdijjdaaGreatDoor
open Go.RowKit
set_option maxRecDepth 100000

theorem cb1 {r : RZ} {p q s : V3} (h : permZ r = false) : crossB r p q s = false := by unfold crossB; rw [h]; rfl
theorem cb2 {r : RZ} {p q s : V3} (h : (normZ p q s).isZ = true) : crossB r p q s = false := by unfold crossB; rw [h]; simp
theorem cb3 {r : RZ} {p q s : V3} (h : passZ r.d (r.at p) (r.at q) (r.at s) = false) : crossB r p q s = false := by unfold crossB; rw [h]; simp
theorem cb4 {r : RZ} {p q s : V3} (h : decide (sgV (highZ r p q s) (normZ p q s).neg = (slopeZ r p q s).sign) = false) : crossB r p q s = false := by unfold crossB; rw [h]; simp
theorem cb5 {r : RZ} {p q s : V3} (h1 : permZ r = true) (h2 : (normZ p q s).isZ = false) (h3 : passZ r.d (r.at p) (r.at q) (r.at s) = true) (h4 : decide (sgV (highZ r p q s) (normZ p q s).neg = (slopeZ r p q s).sign) = true) : crossB r p q s = true := by unfold crossB; rw [h1, h2, h3, h4]; rfl
section
variable {rx ry rz rw d0 d1 d2 x1 y1 z1 x2 y2 z2 x3 y3 z3 : Int} (hrx : IR rx) (hry : IR ry) (hrz : IR rz) (hrw : IR rw) (hd0 : IR d0) (hd1 : IR d1) (hd2 : IR d2) (hx1 : IR x1) (hy1 : IR y1) (hz1 : IR z1) (hx2 : IR x2) (hy2 : IR y2) (hz2 : IR z2) (hx3 : IR x3) (hy3 : IR y3) (hz3 : IR z3)
include hx1 hy1 hz1 hx2 hy2 hz2 hx3 hy3 hz3
theorem sm_nx : Sm 517 (normZ ⟨x1, y1, z1⟩ ⟨x2, y2, z2⟩ ⟨x3, y3, z3⟩).x := by
  have _ := hx1; have _ := hx2; have _ := hx3
  exact sm_subj (Sm.mul (sm_subj (smI hy2) (smI hy1)) (sm_subj (smI hz3) (smI hz1))) (Sm.mul (sm_subj (smI hz2) (smI hz1)) (sm_subj (smI hy3) (smI hy1)))
theorem sm_ny : Sm 517 (normZ ⟨x1, y1, z1⟩ ⟨x2, y2, z2⟩ ⟨x3, y3, z3⟩).y := by
  have _ := hy1; have _ := hy2; have _ := hy3
  exact sm_subj (Sm.mul (sm_subj (smI hz2) (smI hz1)) (sm_subj (smI hx3) (smI hx1))) (Sm.mul (sm_subj (smI hx2) (smI hx1)) (sm_subj (smI hz3) (smI hz1)))
theorem sm_nz : Sm 517 (normZ ⟨x1, y1, z1⟩ ⟨x2, y2, z2⟩ ⟨x3, y3, z3⟩).z := by
  have _ := hz1; have _ := hz2; have _ := hz3
  exact sm_subj (Sm.mul (sm_subj (smI hx2) (smI hx1)) (sm_subj (smI hy3) (smI hy1))) (Sm.mul (sm_subj (smI hy2) (smI hy1)) (sm_subj (smI hx3) (smI hx1)))
include hrx hry hrz hrw
theorem sm_high : Sm 3000 (highZ ⟨rx, ry, rz, rw, ⟨d0, d1, d2⟩⟩ ⟨x1, y1, z1⟩ ⟨x2, y2, z2⟩ ⟨x3, y3, z3⟩) := by
  have h := sm_dot (sm_nx hx1 hy1 hz1 hx2 hy2 hz2 hx3 hy3 hz3) (sm_ny hx1 hy1 hz1 hx2 hy2 hz2 hx3 hy3 hz3) (sm_nz hx1 hy1 hz1 hx2 hy2 hz2 hx3 hy3 hz3) (sm_subj (Sm.mul (smI hx1) (smI hrw)) (smI hrx)) (sm_subj (Sm.mul (smI hy1) (smI hrw)) (smI hry)) (sm_subj (Sm.mul (smI hz1) (smI hrw)) (smI hrz))
  exact h.mono (by decide)
omit hrx hry hrz
include hd0 hd1 hd2
theorem sm_wslope : Sm 3000 (rw * slopeZ ⟨rx, ry, rz, rw, ⟨d0, d1, d2⟩⟩ ⟨x1, y1, z1⟩ ⟨x2, y2, z2⟩ ⟨x3, y3, z3⟩) := by
  have h := Sm.mul (smI hrw) (sm_dot (sm_nx hx1 hy1 hz1 hx2 hy2 hz2 hx3 hy3 hz3) (sm_ny hx1 hy1 hz1 hx2 hy2 hz2 hx3 hy3 hz3) (sm_nz hx1 hy1 hz1 hx2 hy2 hz2 hx3 hy3 hz3) (smI hd0) (smI hd1) (smI hd2))
  exact h.mono (by decide)
include hrx hry hrz
theorem sm_crossN : Sm 3000 (crossN ⟨rx, ry, rz, rw, ⟨d0, d1, d2⟩⟩ ⟨x1, y1, z1⟩ ⟨x2, y2, z2⟩ ⟨x3, y3, z3⟩) := by
  have _ := hd0; have _ := hd1; have _ := hd2
  unfold crossN; split
  · exact sm_fracN (sm_high hrx hry hrz hrw hx1 hy1 hz1 hx2 hy2 hz2 hx3 hy3 hz3) _
  · exact sm_zero _
theorem sm_crossD : Sm 3000 (crossD ⟨rx, ry, rz, rw, ⟨d0, d1, d2⟩⟩ ⟨x1, y1, z1⟩ ⟨x2, y2, z2⟩ ⟨x3, y3, z3⟩) := by
  have _ := hrx; have _ := hry; have _ := hrz
  unfold crossD; split
  · exact sm_fracD (sm_wslope hrw hd0 hd1 hd2 hx1 hy1 hz1 hx2 hy2 hz2 hx3 hy3 hz3) _
  · have : Sm 1 1 := by unfold Sm; decide
    exact this.mono (by decide)
end
theorem cr_no {k j k' j' : Nat} {r : RZ} {p q s : V3} (h : crossB r p q s = false) (hk : Sm k 0) (hj : Sm j 1) (hn : Sm k' (crossN r p q s)) (hd : Sm j' (crossD r p q s)) (ρ : Rho) : (SV.tup [.agg [.wid k 0 hk, .wid j 1 hj], .c (.val (.bool false))]).den ρ = (SV.tup [.agg [.wid k' (crossN r p q s) hn, .wid j' (crossD r p q s) hd], .c (.val (.bool (crossB r p q s)))]).den ρ :=
  tup2_sv (wid2_agg _ _ _ _ (by unfold crossN; rw [h]; rfl) (by unfold crossD; rw [h]; rfl) ρ) (bool_t1 h.symm ρ)
theorem cr_yes {k j k' j' : Nat} {r : RZ} {p q s : V3} {b : Bool} (h : crossB r p q s = true) (hb : b = true) (hk : Sm k (fracN (highZ r p q s) (r.w * slopeZ r p q s))) (hj : Sm j (fracD (highZ r p q s) (r.w * slopeZ r p q s))) (hn : Sm k' (crossN r p q s)) (hd : Sm j' (crossD r p q s)) (ρ : Rho) : (SV.tup [.agg [.wid k _ hk, .wid j _ hj], .c (.val (.bool b))]).den ρ = (SV.tup [.agg [.wid k' (crossN r p q s) hn, .wid j' (crossD r p q s) hd], .c (.val (.bool (crossB r p q s)))]).den ρ :=
  tup2_sv (wid2_agg _ _ _ _ (by unfold crossN; rw [h]; rfl) (by unfold crossD; rw [h]; rfl) ρ) (bool_t1 (hb.trans h.symm) ρ)
theorem not_t {b : Bool} (h : (!b) = true) : b = false := by simpa using h
theorem not_f {b : Bool} (h : (!b) = false) : b = true := by simpa using h
theorem den_nz {r : RZ} {p q s : V3} (h : crossB r p q s = true) : decide (r.w * slopeZ r p q s ≠ 0) = true := by
  refine decide_eq_true (Int.mul_ne_zero (fun e => ?_) (slope_nz h))
  unfold crossB permZ at h
  rw [e] at h
  cases h
def rdSg : List (FuncId × Dr) := [(48, dSgn1)]
theorem rdSg_ok : AllR rdSg := .cons spSgn1 .nil
def dCrossY : Dn
  | [.agg [.int rx hrx, .int ry hry, .int rz hrz, .int rw hrw, .int d0 hd0, .int d1 hd1, .int d2 hd2], .agg [.int x1 hx1, .int y1 hy1, .int z1 hz1, .int x2 hx2, .int y2 hy2, .int z2 hz2, .int x3 hx3, .int y3 hy3, .int z3 hz3]] =>
    some (none, .tup [.agg [.wid 3000 (crossN ⟨rx, ry, rz, rw, ⟨d0, d1, d2⟩⟩ ⟨x1, y1, z1⟩ ⟨x2, y2, z2⟩ ⟨x3, y3, z3⟩) (sm_crossN hrx hry hrz hrw hd0 hd1 hd2 hx1 hy1 hz1 hx2 hy2 hz2 hx3 hy3 hz3), .wid 3000 (crossD ⟨rx, ry, rz, rw, ⟨d0, d1, d2⟩⟩ ⟨x1, y1, z1⟩ ⟨x2, y2, z2⟩ ⟨x3, y3, z3⟩) (sm_crossD hrx hry hrz hrw hd0 hd1 hd2 hx1 hy1 hz1 hx2 hy2 hz2 hx3 hy3 hz3)], .c (.val (.bool (crossB ⟨rx, ry, rz, rw, ⟨d0, d1, d2⟩⟩ ⟨x1, y1, z1⟩ ⟨x2, y2, z2⟩ ⟨x3, y3, z3⟩)))])
  | _ => none
set_option maxHeartbeats 8000000 in
theorem spCrossY : SpOk Tryz.prog 14 dCrossY := sp_of3 (un := 20) (n := 0) ⟨Tryz.func14, by kernel_rfl, by kernel_rfl⟩ baseG2_ok rdSg_ok noF_ok fun args p v hd => by
  unfold dCrossY at hd
  split at hd
  · rename_i rx hrx ry hry rz hrz rw hrw d0 hd0 d1 hd1 d2 hd2 x1 hx1 y1 hy1 z1 hz1 x2 hx2 y2 hy2 z2 hz2 x3 hx3 y3 hy3 z3 hz3
    cases hd
    refine ⟨[.agg [.int rx hrx, .int ry hry, .int rz hrz, .int rw hrw, .int d0 hd0, .int d1 hd1, .int d2 hd2], .agg [.int x1 hx1, .int y1 hy1, .int z1 hz1, .int x2 hx2, .int y2 hy2, .int z2 hz2, .int x3 hx3, .int y3 hy3, .int z3 hz3]], fun _ => rfl, fun _ _ => rfl, fun _ _ => rfl, fun _ => ?_⟩
    conv => whnf
    refine bcase_intro (fun h1 => ?_) (fun h1 => ?_)
    · have h1 : permZ (⟨rx, ry, rz, rw, ⟨d0, d1, d2⟩⟩ : RZ) = false := not_t h1
      conv => whnf
      exact fun ρ => cr_no (cb1 h1) _ _ _ _ ρ
    have h1 : permZ (⟨rx, ry, rz, rw, ⟨d0, d1, d2⟩⟩ : RZ) = true := not_f h1
    conv => whnf
    refine bcase_intro (fun h2 => ?_) (fun h2 => ?_)
    · have h2 : (normZ ⟨x1, y1, z1⟩ ⟨x2, y2, z2⟩ ⟨x3, y3, z3⟩).isZ = true := h2
      conv => whnf
      exact fun ρ => cr_no (cb2 h2) _ _ _ _ ρ
    have h2 : (normZ ⟨x1, y1, z1⟩ ⟨x2, y2, z2⟩ ⟨x3, y3, z3⟩).isZ = false := h2
    conv => whnf
    refine bcase_intro (fun h3 => ?_) (fun h3 => ?_)
    · have h3 : passZ (⟨rx, ry, rz, rw, ⟨d0, d1, d2⟩⟩ : RZ).d (RZ.at (⟨rx, ry, rz, rw, ⟨d0, d1, d2⟩⟩ : RZ) ⟨x1, y1, z1⟩) (RZ.at (⟨rx, ry, rz, rw, ⟨d0, d1, d2⟩⟩ : RZ) ⟨x2, y2, z2⟩) (RZ.at (⟨rx, ry, rz, rw, ⟨d0, d1, d2⟩⟩ : RZ) ⟨x3, y3, z3⟩) = false := not_t h3
      conv => whnf
      exact fun ρ => cr_no (cb3 h3) _ _ _ _ ρ
    have h3 : passZ (⟨rx, ry, rz, rw, ⟨d0, d1, d2⟩⟩ : RZ).d (RZ.at (⟨rx, ry, rz, rw, ⟨d0, d1, d2⟩⟩ : RZ) ⟨x1, y1, z1⟩) (RZ.at (⟨rx, ry, rz, rw, ⟨d0, d1, d2⟩⟩ : RZ) ⟨x2, y2, z2⟩) (RZ.at (⟨rx, ry, rz, rw, ⟨d0, d1, d2⟩⟩ : RZ) ⟨x3, y3, z3⟩) = true := not_f h3
    conv => whnf
    refine bcase_intro (fun h4 => ?_) (fun h4 => ?_)
    · have h4 : decide (sgV (highZ (⟨rx, ry, rz, rw, ⟨d0, d1, d2⟩⟩ : RZ) ⟨x1, y1, z1⟩ ⟨x2, y2, z2⟩ ⟨x3, y3, z3⟩) (normZ ⟨x1, y1, z1⟩ ⟨x2, y2, z2⟩ ⟨x3, y3, z3⟩).neg = (slopeZ (⟨rx, ry, rz, rw, ⟨d0, d1, d2⟩⟩ : RZ) ⟨x1, y1, z1⟩ ⟨x2, y2, z2⟩ ⟨x3, y3, z3⟩).sign) = false := not_t h4
      conv => whnf
      exact fun ρ => cr_no (cb4 h4) _ _ _ _ ρ
    have h4 : decide (sgV (highZ (⟨rx, ry, rz, rw, ⟨d0, d1, d2⟩⟩ : RZ) ⟨x1, y1, z1⟩ ⟨x2, y2, z2⟩ ⟨x3, y3, z3⟩) (normZ ⟨x1, y1, z1⟩ ⟨x2, y2, z2⟩ ⟨x3, y3, z3⟩).neg = (slopeZ (⟨rx, ry, rz, rw, ⟨d0, d1, d2⟩⟩ : RZ) ⟨x1, y1, z1⟩ ⟨x2, y2, z2⟩ ⟨x3, y3, z3⟩).sign) = true := not_f h4
    have h5 := cb5 h1 h2 h3 h4
    conv => whnf
    exact fun ρ => cr_yes h5 rfl _ _ _ _ ρ
  · cases hd
def dCross22 : Dn
  | [.agg [.int rx hrx, .int ry hry, .int rz hrz, .int rw hrw, .int d0 hd0, .int d1 hd1, .int d2 hd2], .agg [.int x1 hx1, .int y1 hy1, .int z1 hz1, .int x2 hx2, .int y2 hy2, .int z2 hz2, .int x3 hx3, .int y3 hy3, .int z3 hz3]] =>
    some (none, .tup [.agg [.wid 3000 (crossN ⟨rx, ry, rz, rw, ⟨d0, d1, d2⟩⟩ ⟨x1, y1, z1⟩ ⟨x2, y2, z2⟩ ⟨x3, y3, z3⟩) (sm_crossN hrx hry hrz hrw hd0 hd1 hd2 hx1 hy1 hz1 hx2 hy2 hz2 hx3 hy3 hz3), .wid 3000 (crossD ⟨rx, ry, rz, rw, ⟨d0, d1, d2⟩⟩ ⟨x1, y1, z1⟩ ⟨x2, y2, z2⟩ ⟨x3, y3, z3⟩) (sm_crossD hrx hry hrz hrw hd0 hd1 hd2 hx1 hy1 hz1 hx2 hy2 hz2 hx3 hy3 hz3)], .c (.val (.bool (crossB ⟨rx, ry, rz, rw, ⟨d0, d1, d2⟩⟩ ⟨x1, y1, z1⟩ ⟨x2, y2, z2⟩ ⟨x3, y3, z3⟩)))])
  | _ => none
set_option maxHeartbeats 8000000 in
theorem spCross22 : SpOk Tryz.prog 15 dCross22 := sp_of2 (un := 20) (n := 0) ⟨Tryz.func15, by kernel_rfl, by kernel_rfl⟩ baseG2_ok noF_ok fun args p v hd => by
  unfold dCross22 at hd
  split at hd
  · rename_i rx hrx ry hry rz hrz rw hrw d0 hd0 d1 hd1 d2 hd2 x1 hx1 y1 hy1 z1 hz1 x2 hx2 y2 hy2 z2 hz2 x3 hx3 y3 hy3 z3 hz3
    cases hd
    refine ⟨[.agg [.int rx hrx, .int ry hry, .int rz hrz, .int rw hrw, .int d0 hd0, .int d1 hd1, .int d2 hd2], .agg [.int x1 hx1, .int y1 hy1, .int z1 hz1, .int x2 hx2, .int y2 hy2, .int z2 hz2, .int x3 hx3, .int y3 hy3, .int z3 hz3]], fun _ => rfl, fun _ _ => rfl, fun _ _ => rfl, fun _ => ?_⟩
    conv => whnf
    refine bcase_intro (fun h1 => ?_) (fun h1 => ?_)
    · have h1 : permZ (⟨rx, ry, rz, rw, ⟨d0, d1, d2⟩⟩ : RZ) = false := not_t h1
      conv => whnf
      exact fun ρ => cr_no (cb1 h1) _ _ _ _ ρ
    have h1 : permZ (⟨rx, ry, rz, rw, ⟨d0, d1, d2⟩⟩ : RZ) = true := not_f h1
    conv => whnf
    refine bcase_intro (fun h2 => ?_) (fun h2 => ?_)
    · have h2 : (normZ ⟨x1, y1, z1⟩ ⟨x2, y2, z2⟩ ⟨x3, y3, z3⟩).isZ = true := h2
      conv => whnf
      exact fun ρ => cr_no (cb2 h2) _ _ _ _ ρ
    have h2 : (normZ ⟨x1, y1, z1⟩ ⟨x2, y2, z2⟩ ⟨x3, y3, z3⟩).isZ = false := h2
    conv => whnf
    refine bcase_intro (fun h3 => ?_) (fun h3 => ?_)
    · have h3 : decide (sideZ (⟨rx, ry, rz, rw, ⟨d0, d1, d2⟩⟩ : RZ).d (RZ.at (⟨rx, ry, rz, rw, ⟨d0, d1, d2⟩⟩ : RZ) ⟨x1, y1, z1⟩) (RZ.at (⟨rx, ry, rz, rw, ⟨d0, d1, d2⟩⟩ : RZ) ⟨x2, y2, z2⟩) = 0) = true := h3
      conv => whnf
      exact fun ρ => cr_no (cb3 (pass1 (by rw [h3]; rfl))) _ _ _ _ ρ
    have h3 : decide (sideZ (⟨rx, ry, rz, rw, ⟨d0, d1, d2⟩⟩ : RZ).d (RZ.at (⟨rx, ry, rz, rw, ⟨d0, d1, d2⟩⟩ : RZ) ⟨x1, y1, z1⟩) (RZ.at (⟨rx, ry, rz, rw, ⟨d0, d1, d2⟩⟩ : RZ) ⟨x2, y2, z2⟩) = 0) = false := h3
    conv => whnf
    refine bcase_intro (fun h4 => ?_) (fun h4 => ?_)
    · have h4 : decide (sideZ (⟨rx, ry, rz, rw, ⟨d0, d1, d2⟩⟩ : RZ).d (RZ.at (⟨rx, ry, rz, rw, ⟨d0, d1, d2⟩⟩ : RZ) ⟨x2, y2, z2⟩) (RZ.at (⟨rx, ry, rz, rw, ⟨d0, d1, d2⟩⟩ : RZ) ⟨x3, y3, z3⟩) = sideZ (⟨rx, ry, rz, rw, ⟨d0, d1, d2⟩⟩ : RZ).d (RZ.at (⟨rx, ry, rz, rw, ⟨d0, d1, d2⟩⟩ : RZ) ⟨x1, y1, z1⟩) (RZ.at (⟨rx, ry, rz, rw, ⟨d0, d1, d2⟩⟩ : RZ) ⟨x2, y2, z2⟩)) = false := not_t h4
      conv => whnf
      exact fun ρ => cr_no (cb3 (pass2 h4)) _ _ _ _ ρ
    have h4 : decide (sideZ (⟨rx, ry, rz, rw, ⟨d0, d1, d2⟩⟩ : RZ).d (RZ.at (⟨rx, ry, rz, rw, ⟨d0, d1, d2⟩⟩ : RZ) ⟨x2, y2, z2⟩) (RZ.at (⟨rx, ry, rz, rw, ⟨d0, d1, d2⟩⟩ : RZ) ⟨x3, y3, z3⟩) = sideZ (⟨rx, ry, rz, rw, ⟨d0, d1, d2⟩⟩ : RZ).d (RZ.at (⟨rx, ry, rz, rw, ⟨d0, d1, d2⟩⟩ : RZ) ⟨x1, y1, z1⟩) (RZ.at (⟨rx, ry, rz, rw, ⟨d0, d1, d2⟩⟩ : RZ) ⟨x2, y2, z2⟩)) = true := not_f h4
    conv => whnf
    refine bcase_intro (fun h5 => ?_) (fun h5 => ?_)
    · have h5 : decide (sideZ (⟨rx, ry, rz, rw, ⟨d0, d1, d2⟩⟩ : RZ).d (RZ.at (⟨rx, ry, rz, rw, ⟨d0, d1, d2⟩⟩ : RZ) ⟨x3, y3, z3⟩) (RZ.at (⟨rx, ry, rz, rw, ⟨d0, d1, d2⟩⟩ : RZ) ⟨x1, y1, z1⟩) = sideZ (⟨rx, ry, rz, rw, ⟨d0, d1, d2⟩⟩ : RZ).d (RZ.at (⟨rx, ry, rz, rw, ⟨d0, d1, d2⟩⟩ : RZ) ⟨x1, y1, z1⟩) (RZ.at (⟨rx, ry, rz, rw, ⟨d0, d1, d2⟩⟩ : RZ) ⟨x2, y2, z2⟩)) = false := not_t h5
      conv => whnf
      exact fun ρ => cr_no (cb3 ((pass3 (by rw [h3]; rfl) h4).trans h5)) _ _ _ _ ρ
    have h5 : decide (sideZ (⟨rx, ry, rz, rw, ⟨d0, d1, d2⟩⟩ : RZ).d (RZ.at (⟨rx, ry, rz, rw, ⟨d0, d1, d2⟩⟩ : RZ) ⟨x3, y3, z3⟩) (RZ.at (⟨rx, ry, rz, rw, ⟨d0, d1, d2⟩⟩ : RZ) ⟨x1, y1, z1⟩) = sideZ (⟨rx, ry, rz, rw, ⟨d0, d1, d2⟩⟩ : RZ).d (RZ.at (⟨rx, ry, rz, rw, ⟨d0, d1, d2⟩⟩ : RZ) ⟨x1, y1, z1⟩) (RZ.at (⟨rx, ry, rz, rw, ⟨d0, d1, d2⟩⟩ : RZ) ⟨x2, y2, z2⟩)) = true := not_f h5
    have h6 : passZ (⟨rx, ry, rz, rw, ⟨d0, d1, d2⟩⟩ : RZ).d (RZ.at (⟨rx, ry, rz, rw, ⟨d0, d1, d2⟩⟩ : RZ) ⟨x1, y1, z1⟩) (RZ.at (⟨rx, ry, rz, rw, ⟨d0, d1, d2⟩⟩ : RZ) ⟨x2, y2, z2⟩) (RZ.at (⟨rx, ry, rz, rw, ⟨d0, d1, d2⟩⟩ : RZ) ⟨x3, y3, z3⟩) = true := (pass3 (by rw [h3]; rfl) h4).trans h5
    conv => whnf
    refine bcase_intro (fun h7 => ?_) (fun h7 => ?_)
    · have h7 : decide (sgV (highZ (⟨rx, ry, rz, rw, ⟨d0, d1, d2⟩⟩ : RZ) ⟨x1, y1, z1⟩ ⟨x2, y2, z2⟩ ⟨x3, y3, z3⟩) (normZ ⟨x1, y1, z1⟩ ⟨x2, y2, z2⟩ ⟨x3, y3, z3⟩).neg = (slopeZ (⟨rx, ry, rz, rw, ⟨d0, d1, d2⟩⟩ : RZ) ⟨x1, y1, z1⟩ ⟨x2, y2, z2⟩ ⟨x3, y3, z3⟩).sign) = false := not_t h7
      conv => whnf
      exact fun ρ => cr_no (cb4 h7) _ _ _ _ ρ
    have h7 : decide (sgV (highZ (⟨rx, ry, rz, rw, ⟨d0, d1, d2⟩⟩ : RZ) ⟨x1, y1, z1⟩ ⟨x2, y2, z2⟩ ⟨x3, y3, z3⟩) (normZ ⟨x1, y1, z1⟩ ⟨x2, y2, z2⟩ ⟨x3, y3, z3⟩).neg = (slopeZ (⟨rx, ry, rz, rw, ⟨d0, d1, d2⟩⟩ : RZ) ⟨x1, y1, z1⟩ ⟨x2, y2, z2⟩ ⟨x3, y3, z3⟩).sign) = true := not_f h7
    have h8 := cb5 h1 h2 h6 h7
    conv => whnf
    exact fun ρ => cr_yes h8 (den_nz h8) _ _ _ _ ρ
  · cases hd
def baseC : List (FuncId × Dn) := (14, dCrossY) :: (15, dCross22) :: baseG2
theorem baseC_ok : AllOk baseC := .cons spCrossY <| .cons spCross22 <| baseG2_ok
end Go.Proofs.YtefgchmbdijjdaaGreatDoor

namespace Go.Proofs.YtefgchmbdijjdaaGreatDoor
open Go.RowKit
set_option maxRecDepth 100000

def dFrac22 : Dn
  | [.c (.int n hn), .c (.int m hm)] =>
    some (none, .agg [.wid 64 (fracN n m) (sm_fracN (smI hn) m), .wid 64 (fracD n m) (sm_fracD (smI hm) n)])
  | _ => none
theorem spFrac22 : SpOk Tryz.prog 31 dFrac22 := sp_of2 (un := 20) (n := 0) ⟨Tryz.func31, by kernel_rfl, by kernel_rfl⟩ baseC_ok noF_ok fun args p v hd => by
  unfold dFrac22 at hd
  split at hd
  · rename_i n hn m hm
    cases hd
    refine ⟨[.c (.int n hn), .c (.int m hm)], fun _ => rfl, fun _ _ => rfl, fun _ _ => rfl, fun _ => ?_⟩
    conv => whnf
    exact fun _ => rfl
  · cases hd
def baseS : List (FuncId × Dn) := (31, dFrac22) :: baseC
theorem baseS_ok : AllOk baseS := .cons spFrac22 <| baseC_ok
theorem and_t {a b : Bool} (h : a = true) : (a && b) = b := by rw [h]; rfl
theorem and_f {a b : Bool} (h : a = false) : (a && b) = false := by rw [h]; rfl
def dCrs22 : Dn
  | [.agg [.int rx _, .int ry _, .int rz _, .int rw _, .int d0 _, .int d1 _, .int d2 _], .agg [.int x1 _, .int y1 _, .int z1 _, .int x2 _, .int y2 _, .int z2 _, .int x3 _, .int y3 _, .int z3 _], .c (.int n _), .c (.int m _), .c (.val (.bool want))] =>
    some (none, .c (.val (.bool ((decide (crossN ⟨rx, ry, rz, rw, ⟨d0, d1, d2⟩⟩ ⟨x1, y1, z1⟩ ⟨x2, y2, z2⟩ ⟨x3, y3, z3⟩ = fracN n m) && decide (crossD ⟨rx, ry, rz, rw, ⟨d0, d1, d2⟩⟩ ⟨x1, y1, z1⟩ ⟨x2, y2, z2⟩ ⟨x3, y3, z3⟩ = fracD n m)) && (crossB ⟨rx, ry, rz, rw, ⟨d0, d1, d2⟩⟩ ⟨x1, y1, z1⟩ ⟨x2, y2, z2⟩ ⟨x3, y3, z3⟩ == want)))))
  | _ => none
set_option maxHeartbeats 4000000 in
theorem spCrs22 : SpOk Tryz.prog 33 dCrs22 := sp_of2 (un := 20) (n := 0) ⟨Tryz.func33, by kernel_rfl, by kernel_rfl⟩ baseS_ok noF_ok fun args p v hd => by
  unfold dCrs22 at hd
  split at hd
  · rename_i rx hrx ry hry rz hrz rw hrw d0 hd0 d1 hd1 d2 hd2 x1 hx1 y1 hy1 z1 hz1 x2 hx2 y2 hy2 z2 hz2 x3 hx3 y3 hy3 z3 hz3 n hn m hm want
    cases hd
    refine ⟨[.agg [.int rx hrx, .int ry hry, .int rz hrz, .int rw hrw, .int d0 hd0, .int d1 hd1, .int d2 hd2], .agg [.int x1 hx1, .int y1 hy1, .int z1 hz1, .int x2 hx2, .int y2 hy2, .int z2 hz2, .int x3 hx3, .int y3 hy3, .int z3 hz3], .c (.int n hn), .c (.int m hm), .c (.val (.bool want))], fun _ => rfl, fun _ _ => rfl, fun _ _ => rfl, fun _ => ?_⟩
    conv => whnf
    refine bcase_intro (fun h1 => ?_) (fun h1 => ?_)
    · have h1 : (decide (crossN ⟨rx, ry, rz, rw, ⟨d0, d1, d2⟩⟩ ⟨x1, y1, z1⟩ ⟨x2, y2, z2⟩ ⟨x3, y3, z3⟩ = fracN n m) && decide (crossD ⟨rx, ry, rz, rw, ⟨d0, d1, d2⟩⟩ ⟨x1, y1, z1⟩ ⟨x2, y2, z2⟩ ⟨x3, y3, z3⟩ = fracD n m)) = true := h1
      conv => whnf
      exact fun ρ => sbool_e (Eq.symm (and_t h1)) ρ
    · have h1 : (decide (crossN ⟨rx, ry, rz, rw, ⟨d0, d1, d2⟩⟩ ⟨x1, y1, z1⟩ ⟨x2, y2, z2⟩ ⟨x3, y3, z3⟩ = fracN n m) && decide (crossD ⟨rx, ry, rz, rw, ⟨d0, d1, d2⟩⟩ ⟨x1, y1, z1⟩ ⟨x2, y2, z2⟩ ⟨x3, y3, z3⟩ = fracD n m)) = false := h1
      conv => whnf
      exact fun ρ => sbool_e (Eq.symm (and_f h1)) ρ
  · cases hd
def dOver (c : List SV → Option SV) (d : Dn) : Dn := fun args => match c args with
  | some v => (match d args with | some (p, _) => some (p, v) | none => none)
  | none => d args
theorem spOver {f : FuncId} {d : Dn} (h : SpOk Tryz.prog f d) {c : List SV → Option SV} (hc : ∀ args v p u, c args = some v → d args = some (p, u) → ∀ ρ, u.den ρ = v.den ρ) : SpOk Tryz.prog f (dOver c d) := by
  refine ⟨h.1, fun args p v hd => ?_⟩
  unfold dOver at hd
  split at hd
  · rename_i v' hv
    split at hd
    · rename_i p' u hu
      cases hd
      have e := hc args v p u hv hu
      refine ⟨fun ρ ρ' => by rw [← e ρ, ← e ρ']; exact (h.2 args p u hu).1 ρ ρ', fun ho ρ w => ?_⟩
      have := (h.2 args p u hu).2 ho ρ w
      rw [e ρ] at this
      exact this
    · cases hd
  · exact h.2 args p v hd
theorem ex0 : ((decide (crossN ⟨1, 1, 5, 1, ⟨0, 0, -2⟩⟩ ⟨0, 0, 0⟩ ⟨4, 0, 0⟩ ⟨0, 4, 0⟩ = fracN 5 2) && decide (crossD ⟨1, 1, 5, 1, ⟨0, 0, -2⟩⟩ ⟨0, 0, 0⟩ ⟨4, 0, 0⟩ ⟨0, 4, 0⟩ = fracD 5 2)) && (crossB ⟨1, 1, 5, 1, ⟨0, 0, -2⟩⟩ ⟨0, 0, 0⟩ ⟨4, 0, 0⟩ ⟨0, 4, 0⟩ == true)) = true := by decide +kernel
theorem ex1 : ((decide (crossN ⟨1, 1, 5, 1, ⟨0, 0, 2⟩⟩ ⟨0, 0, 0⟩ ⟨4, 0, 0⟩ ⟨0, 4, 0⟩ = fracN 0 1) && decide (crossD ⟨1, 1, 5, 1, ⟨0, 0, 2⟩⟩ ⟨0, 0, 0⟩ ⟨4, 0, 0⟩ ⟨0, 4, 0⟩ = fracD 0 1)) && (crossB ⟨1, 1, 5, 1, ⟨0, 0, 2⟩⟩ ⟨0, 0, 0⟩ ⟨4, 0, 0⟩ ⟨0, 4, 0⟩ == false)) = true := by decide +kernel
theorem ex2 : ((decide (crossN ⟨0, 0, 5, 1, ⟨0, 0, -1⟩⟩ ⟨0, 0, 0⟩ ⟨4, 0, 0⟩ ⟨0, 4, 0⟩ = fracN 5 1) && decide (crossD ⟨0, 0, 5, 1, ⟨0, 0, -1⟩⟩ ⟨0, 0, 0⟩ ⟨4, 0, 0⟩ ⟨0, 4, 0⟩ = fracD 5 1)) && (crossB ⟨0, 0, 5, 1, ⟨0, 0, -1⟩⟩ ⟨0, 0, 0⟩ ⟨4, 0, 0⟩ ⟨0, 4, 0⟩ == true)) = true := by decide +kernel
theorem ex3 : ((decide (crossN ⟨2, 2, 5, 1, ⟨0, 0, -1⟩⟩ ⟨0, 0, 0⟩ ⟨4, 0, 0⟩ ⟨0, 4, 0⟩ = fracN 0 1) && decide (crossD ⟨2, 2, 5, 1, ⟨0, 0, -1⟩⟩ ⟨0, 0, 0⟩ ⟨4, 0, 0⟩ ⟨0, 4, 0⟩ = fracD 0 1)) && (crossB ⟨2, 2, 5, 1, ⟨0, 0, -1⟩⟩ ⟨0, 0, 0⟩ ⟨4, 0, 0⟩ ⟨0, 4, 0⟩ == false)) = true := by decide +kernel
theorem ex4 : ((decide (crossN ⟨1, 1, 0, 1, ⟨0, 0, -1⟩⟩ ⟨0, 0, 0⟩ ⟨4, 0, 0⟩ ⟨0, 4, 0⟩ = fracN 0 1) && decide (crossD ⟨1, 1, 0, 1, ⟨0, 0, -1⟩⟩ ⟨0, 0, 0⟩ ⟨4, 0, 0⟩ ⟨0, 4, 0⟩ = fracD 0 1)) && (crossB ⟨1, 1, 0, 1, ⟨0, 0, -1⟩⟩ ⟨0, 0, 0⟩ ⟨4, 0, 0⟩ ⟨0, 4, 0⟩ == true)) = true := by decide +kernel
theorem ex5 : ((decide (crossN ⟨3, 3, 2, 6, ⟨0, 0, -1⟩⟩ ⟨0, 0, 0⟩ ⟨4, 0, 0⟩ ⟨0, 4, 0⟩ = fracN 1 3) && decide (crossD ⟨3, 3, 2, 6, ⟨0, 0, -1⟩⟩ ⟨0, 0, 0⟩ ⟨4, 0, 0⟩ ⟨0, 4, 0⟩ = fracD 1 3)) && (crossB ⟨3, 3, 2, 6, ⟨0, 0, -1⟩⟩ ⟨0, 0, 0⟩ ⟨4, 0, 0⟩ ⟨0, 4, 0⟩ == true)) = true := by decide +kernel
def cCrs : List SV → Option SV
  | [.agg [.int rx _, .int ry _, .int rz _, .int rw _, .int d0 _, .int d1 _, .int d2 _], .agg [.int x1 _, .int y1 _, .int z1 _, .int x2 _, .int y2 _, .int z2 _, .int x3 _, .int y3 _, .int z3 _], .c (.int n _), .c (.int m _), .c (.val (.bool want))] =>
    if rx = 1 ∧ ry = 1 ∧ rz = 5 ∧ rw = 1 ∧ d0 = 0 ∧ d1 = 0 ∧ d2 = (-2) ∧ x1 = 0 ∧ y1 = 0 ∧ z1 = 0 ∧ x2 = 4 ∧ y2 = 0 ∧ z2 = 0 ∧ x3 = 0 ∧ y3 = 4 ∧ z3 = 0 ∧ n = 5 ∧ m = 2 ∧ want = true then some (.c (.val (.bool true))) else
    if rx = 1 ∧ ry = 1 ∧ rz = 5 ∧ rw = 1 ∧ d0 = 0 ∧ d1 = 0 ∧ d2 = 2 ∧ x1 = 0 ∧ y1 = 0 ∧ z1 = 0 ∧ x2 = 4 ∧ y2 = 0 ∧ z2 = 0 ∧ x3 = 0 ∧ y3 = 4 ∧ z3 = 0 ∧ n = 0 ∧ m = 1 ∧ want = false then some (.c (.val (.bool true))) else
    if rx = 0 ∧ ry = 0 ∧ rz = 5 ∧ rw = 1 ∧ d0 = 0 ∧ d1 = 0 ∧ d2 = (-1) ∧ x1 = 0 ∧ y1 = 0 ∧ z1 = 0 ∧ x2 = 4 ∧ y2 = 0 ∧ z2 = 0 ∧ x3 = 0 ∧ y3 = 4 ∧ z3 = 0 ∧ n = 5 ∧ m = 1 ∧ want = true then some (.c (.val (.bool true))) else
    if rx = 2 ∧ ry = 2 ∧ rz = 5 ∧ rw = 1 ∧ d0 = 0 ∧ d1 = 0 ∧ d2 = (-1) ∧ x1 = 0 ∧ y1 = 0 ∧ z1 = 0 ∧ x2 = 4 ∧ y2 = 0 ∧ z2 = 0 ∧ x3 = 0 ∧ y3 = 4 ∧ z3 = 0 ∧ n = 0 ∧ m = 1 ∧ want = false then some (.c (.val (.bool true))) else
    if rx = 1 ∧ ry = 1 ∧ rz = 0 ∧ rw = 1 ∧ d0 = 0 ∧ d1 = 0 ∧ d2 = (-1) ∧ x1 = 0 ∧ y1 = 0 ∧ z1 = 0 ∧ x2 = 4 ∧ y2 = 0 ∧ z2 = 0 ∧ x3 = 0 ∧ y3 = 4 ∧ z3 = 0 ∧ n = 0 ∧ m = 1 ∧ want = true then some (.c (.val (.bool true))) else
    if rx = 3 ∧ ry = 3 ∧ rz = 2 ∧ rw = 6 ∧ d0 = 0 ∧ d1 = 0 ∧ d2 = (-1) ∧ x1 = 0 ∧ y1 = 0 ∧ z1 = 0 ∧ x2 = 4 ∧ y2 = 0 ∧ z2 = 0 ∧ x3 = 0 ∧ y3 = 4 ∧ z3 = 0 ∧ n = 1 ∧ m = 3 ∧ want = true then some (.c (.val (.bool true))) else
    none
  | _ => none
def dCrsS : Dn := dOver cCrs dCrs22
set_option maxHeartbeats 4000000 in
theorem spCrsS : SpOk Tryz.prog 33 dCrsS := spOver spCrs22 fun args v p u h1 h2 ρ => by
  unfold cCrs at h1
  split at h1
  · split at h1
    · rename_i e
      obtain ⟨rfl, rfl, rfl, rfl, rfl, rfl, rfl, rfl, rfl, rfl, rfl, rfl, rfl, rfl, rfl, rfl, rfl, rfl, rfl⟩ := e
      cases h1; cases h2
      exact sbool_e ex0 ρ
    split at h1
    · rename_i e
      obtain ⟨rfl, rfl, rfl, rfl, rfl, rfl, rfl, rfl, rfl, rfl, rfl, rfl, rfl, rfl, rfl, rfl, rfl, rfl, rfl⟩ := e
      cases h1; cases h2
      exact sbool_e ex1 ρ
    split at h1
    · rename_i e
      obtain ⟨rfl, rfl, rfl, rfl, rfl, rfl, rfl, rfl, rfl, rfl, rfl, rfl, rfl, rfl, rfl, rfl, rfl, rfl, rfl⟩ := e
      cases h1; cases h2
      exact sbool_e ex2 ρ
    split at h1
    · rename_i e
      obtain ⟨rfl, rfl, rfl, rfl, rfl, rfl, rfl, rfl, rfl, rfl, rfl, rfl, rfl, rfl, rfl, rfl, rfl, rfl, rfl⟩ := e
      cases h1; cases h2
      exact sbool_e ex3 ρ
    split at h1
    · rename_i e
      obtain ⟨rfl, rfl, rfl, rfl, rfl, rfl, rfl, rfl, rfl, rfl, rfl, rfl, rfl, rfl, rfl, rfl, rfl, rfl, rfl⟩ := e
      cases h1; cases h2
      exact sbool_e ex4 ρ
    split at h1
    · rename_i e
      obtain ⟨rfl, rfl, rfl, rfl, rfl, rfl, rfl, rfl, rfl, rfl, rfl, rfl, rfl, rfl, rfl, rfl, rfl, rfl, rfl⟩ := e
      cases h1; cases h2
      exact sbool_e ex5 ρ
    cases h1
  · cases h1
end Go.Proofs.YtefgchmbdijjdaaGreatDoor

namespace Go.Proofs.YtefgchmbdijjdaaGreatDoor
open Go.RowKit
set_option maxRecDepth 100000

/-- a value that no reckoning opens -/
noncomputable def opq {α : Type} (a : α) : α := Classical.choose (⟨a, rfl⟩ : ∃ x, x = a)
theorem opq_eq {α : Type} (a : α) : opq a = a := Classical.choose_spec (⟨a, rfl⟩ : ∃ x, x = a)
theorem frac_rat {n d : Int} (hd : d ≠ 0) : fracN n d = ((n : Rat) / (d : Rat)).num ∧ fracD n d = (((n : Rat) / (d : Rat)).den : Int) := by
  rw [← Rat.divInt_eq_div, Rat.num_divInt, Rat.den_divInt, if_neg hd]
  unfold fracN fracD gsgn
  rw [if_neg hd, if_neg hd, Int.gcd_comm d n]
  have hg : 0 < n.gcd d := Nat.gcd_pos_of_pos_right _ (Int.natAbs_pos.2 hd)
  obtain ⟨a, ha⟩ := Int.gcd_dvd_left n d
  obtain ⟨b, hb⟩ := Int.gcd_dvd_right n d
  generalize n.gcd d = g at hg ha hb
  have hg0 : (g : Int) ≠ 0 := by omega
  have hs : d.sign * d.sign = 1 := by
    rcases Int.lt_trichotomy d 0 with h | h | h
    · rw [Int.sign_eq_neg_one_of_neg h]; rfl
    · exact absurd h hd
    · rw [Int.sign_eq_one_of_pos h]; rfl
  have hs0 : d.sign ≠ 0 := fun e => by rw [e] at hs; cases hs
  have hgs : (g : Int) * d.sign ≠ 0 := Int.mul_ne_zero hg0 hs0
  have e1 : n = (g * d.sign) * (d.sign * a) := by
    rw [Int.mul_assoc, ← Int.mul_assoc d.sign, hs, Int.one_mul]; exact ha
  have e2 : d = (g * d.sign) * (d.sign * b) := by
    rw [Int.mul_assoc, ← Int.mul_assoc d.sign, hs, Int.one_mul]; exact hb
  have k1 : n.tdiv (g * d.sign) = d.sign * a := by
    conv => lhs; arg 1; rw [e1]
    exact Int.mul_tdiv_cancel_left _ hgs
  have k2 : d.tdiv (g * d.sign) = d.sign * b := by
    have : ∀ x, x = d → x.tdiv (g * d.sign) = d.sign * b := fun x hx => by
      rw [hx.trans e2]; exact Int.mul_tdiv_cancel_left _ hgs
    exact this d rfl
  rw [k1, k2]
  constructor
  · have : d.sign * n = g * (d.sign * a) := by rw [ha, Int.mul_left_comm]
    rw [this, Int.mul_ediv_cancel_left _ hg0]
  · have h1 : ((d.natAbs / g : Nat) : Int) = (d.natAbs : Int) / g := Int.natCast_ediv ..
    rw [h1]
    have h2 : (d.natAbs : Int) = d.sign * d := by
      rcases Int.lt_trichotomy d 0 with h | h | h
      · rw [Int.sign_eq_neg_one_of_neg h]; omega
      · exact absurd h hd
      · rw [Int.sign_eq_one_of_pos h]; omega
    have h3 : d.sign * d = g * (d.sign * b) := by
      have : d.sign * d = d.sign * (g * b) := congrArg (fun x => d.sign * x) hb
      rw [this, Int.mul_left_comm]
    rw [h2, h3, Int.mul_ediv_cancel_left _ hg0]
theorem rat_cmp (q r : Rat) : (q.num * (r.den : Int) - r.num * (q.den : Int)).sign < 0 ↔ q < r := by
  rw [Int.sign_neg_iff, Rat.lt_iff]; omega
/-- one pair of planes -/
def bst (w d a b : Int) (s : Rat × Option Rat) : Option (Rat × Option Rat) :=
  if b < a then none else
  if d = 0 then (if 0 < a ∨ b < 0 then none else some s) else
  some (if s.1 < (if d < 0 then (b : Rat) / ((w * d : Int) : Rat) else (a : Rat) / ((w * d : Int) : Rat)) then (if d < 0 then (b : Rat) / ((w * d : Int) : Rat) else (a : Rat) / ((w * d : Int) : Rat)) else s.1,
    match s.2 with
    | none => some (if d < 0 then (a : Rat) / ((w * d : Int) : Rat) else (b : Rat) / ((w * d : Int) : Rat))
    | some u => if (if d < 0 then (a : Rat) / ((w * d : Int) : Rat) else (b : Rat) / ((w * d : Int) : Rat)) < u then some (if d < 0 then (a : Rat) / ((w * d : Int) : Rat) else (b : Rat) / ((w * d : Int) : Rat)) else some u)
def cnd (w d a b : Int) : List Rat := if d = 0 then [] else [(a : Rat) / ((w * d : Int) : Rat), (b : Rat) / ((w * d : Int) : Rat)]
structure Good (P : Rat → Prop) (s : Rat × Option Rat) (C : List Rat) : Prop where
  pos : 0 ≤ s.1
  mem : s.1 ∈ C
  mem2 : ∀ u, s.2 = some u → u ∈ C
  char : ∀ t, 0 ≤ t → (P t ↔ s.1 ≤ t ∧ ∀ u, s.2 = some u → t ≤ u)
theorem le_mulp {a t c : Rat} (hc : 0 < c) : a ≤ t * c ↔ a / c ≤ t := by
  have h := Rat.lt_div_iff (a := t) (b := a) hc
  have h1 := Rat.not_lt (a := t) (b := a / c)
  have h2 := Rat.not_lt (a := t * c) (b := a)
  rw [← h1, ← h2, h]
theorem mulp_le {a t c : Rat} (hc : 0 < c) : t * c ≤ a ↔ t ≤ a / c := by
  have h := Rat.div_lt_iff (a := a) (c := t) hc
  have h1 := Rat.not_lt (a := a / c) (b := t)
  have h2 := Rat.not_lt (a := a) (b := t * c)
  rw [← h1, ← h2, h]
theorem div_neg2 (a c : Rat) : a / (-c) = (-a) / c := by
  rw [Rat.div_def, Rat.div_def]
  by_cases h : c = 0
  · subst h; simp
  · have : (-c)⁻¹ = -(c⁻¹) := by
      apply Rat.inv_eq_of_mul_eq_one
      grind
    rw [this]; grind
theorem le_muln {a t c : Rat} (hc : c < 0) : a ≤ t * c ↔ t ≤ a / c := by
  have h := mulp_le (a := -a) (t := t) (c := -c) (by grind)
  have e : -a / -c = a / c := by rw [div_neg2]; grind
  rw [e] at h
  rw [← h]
  constructor <;> intro _ <;> grind
theorem muln_le {a t c : Rat} (hc : c < 0) : t * c ≤ a ↔ a / c ≤ t := by
  have h := le_mulp (a := -a) (t := t) (c := -c) (by grind)
  have e : -a / -c = a / c := by rw [div_neg2]; grind
  rw [e] at h
  rw [← h]
  constructor <;> intro _ <;> grind
theorem good_step {P : Rat → Prop} {s s' : Rat × Option Rat} {C : List Rat} (h : Good P s C) {w d a b : Int} (hw : 0 < w) (hs : bst w d a b s = some s') :
    Good (fun t => P t ∧ (a : Rat) ≤ t * ((w * d : Int) : Rat) ∧ t * ((w * d : Int) : Rat) ≤ (b : Rat)) s' (C ++ cnd w d a b) := by
  obtain ⟨i, o⟩ := s
  obtain ⟨h1, h2, h3, h4⟩ := h
  simp only at h1 h2 h3 h4
  unfold bst at hs
  split at hs
  · cases hs
  rename_i hab
  split at hs
  · rename_i hd
    split at hs
    · cases hs
    · rename_i hn
      cases hs
      subst hd
      refine ⟨h1, by simp [h2], fun u hu => by simp [h3 u hu], fun t ht => ?_⟩
      rw [h4 t ht]
      have ha : (a : Rat) ≤ 0 := Rat.intCast_nonpos.2 (by omega)
      have hb : (0 : Rat) ≤ (b : Rat) := Rat.intCast_nonneg.2 (by omega)
      have e : t * ((w * 0 : Int) : Rat) = 0 := by rw [Int.mul_zero]; exact Rat.mul_zero t
      rw [e]
      exact ⟨fun h => h.1, fun h => ⟨h, ha, hb⟩⟩
  · rename_i hd
    cases hs
    have hc : cnd w d a b = [(a : Rat) / ((w * d : Int) : Rat), (b : Rat) / ((w * d : Int) : Rat)] := by unfold cnd; rw [if_neg hd]
    rw [hc]
    have key : ∀ t : Rat, ((a : Rat) ≤ t * ((w * d : Int) : Rat) ∧ t * ((w * d : Int) : Rat) ≤ (b : Rat)) ↔ (if d < 0 then (b : Rat) / ((w * d : Int) : Rat) else (a : Rat) / ((w * d : Int) : Rat)) ≤ t ∧ t ≤ (if d < 0 then (a : Rat) / ((w * d : Int) : Rat) else (b : Rat) / ((w * d : Int) : Rat)) := by
      intro t
      by_cases hn : d < 0
      · have hcn : ((w * d : Int) : Rat) < 0 := Rat.intCast_neg_iff.2 (Int.mul_neg_of_pos_of_neg hw hn)
        rw [if_pos hn, if_pos hn, le_muln hcn, muln_le hcn]
        exact And.comm
      · have hcp : 0 < ((w * d : Int) : Rat) := Rat.intCast_pos.2 (Int.mul_pos hw (by omega))
        rw [if_neg hn, if_neg hn, le_mulp hcp, mulp_le hcp]
    have m1 : (if d < 0 then (b : Rat) / ((w * d : Int) : Rat) else (a : Rat) / ((w * d : Int) : Rat)) ∈ [(a : Rat) / ((w * d : Int) : Rat), (b : Rat) / ((w * d : Int) : Rat)] := by split <;> simp
    have m2 : (if d < 0 then (a : Rat) / ((w * d : Int) : Rat) else (b : Rat) / ((w * d : Int) : Rat)) ∈ [(a : Rat) / ((w * d : Int) : Rat), (b : Rat) / ((w * d : Int) : Rat)] := by split <;> simp
    generalize (if d < 0 then (b : Rat) / ((w * d : Int) : Rat) else (a : Rat) / ((w * d : Int) : Rat)) = f at key m1 ⊢
    generalize (if d < 0 then (a : Rat) / ((w * d : Int) : Rat) else (b : Rat) / ((w * d : Int) : Rat)) = g at key m2 ⊢
    refine ⟨?_, ?_, ?_, fun t ht => ?_⟩
    · simp only; split <;> grind
    · simp only; split
      · exact List.mem_append_right _ m1
      · exact List.mem_append_left _ h2
    · intro u hu
      cases o with
      | none => simp only at hu; cases hu; exact List.mem_append_right _ m2
      | some v =>
        simp only at hu
        split at hu
        · cases hu; exact List.mem_append_right _ m2
        · cases hu; exact List.mem_append_left _ (h3 _ rfl)
    · simp only
      rw [key t, h4 t ht]
      cases o with
      | none =>
        simp only [Option.some.injEq, reduceCtorEq, false_implies, implies_true, and_true, forall_eq']
        split <;> grind
      | some v =>
        simp only [Option.some.injEq, forall_eq']
        split <;> split <;> simp only [Option.some.injEq, forall_eq'] <;> grind
theorem bst_none {w d a b : Int} {s : Rat × Option Rat} (hs : bst w d a b s = none) (t : Rat) : ¬ ((a : Rat) ≤ t * ((w * d : Int) : Rat) ∧ t * ((w * d : Int) : Rat) ≤ (b : Rat)) := by
  rintro ⟨h1, h2⟩
  unfold bst at hs
  split at hs
  · rename_i hab
    have := Rat.intCast_lt_intCast.2 hab
    grind
  split at hs
  · rename_i hd
    split at hs
    · rename_i hn
      subst hd
      have e : t * ((w * 0 : Int) : Rat) = 0 := by rw [Int.mul_zero]; exact Rat.mul_zero t
      rw [e] at h1 h2
      have k1 := Rat.intCast_nonpos.1 h1
      have k2 := Rat.intCast_nonneg.1 h2
      omega
    · cases hs
  · cases hs
theorem bst_out {w d a b : Int} {s s' : Rat × Option Rat} (hs : bst w d a b s = some s') : s'.2 = none ↔ s.2 = none ∧ d = 0 := by
  unfold bst at hs
  split at hs
  · cases hs
  split at hs
  · rename_i hd
    split at hs
    · cases hs
    · cases hs; simp [hd]
  · rename_i hd
    cases hs
    simp only [hd, and_false, iff_false]
    cases s.2 with
    | none => simp
    | some u => simp only; split <;> split <;> simp
/-- the reference's way: the least and the greatest of the candidates that serve -/
def rst (P : Rat → Bool) (t : Rat) (s : Option (Rat × Rat)) : Option (Rat × Rat) :=
  if t < 0 then s else if P t = true then (match s with
    | none => some (t, t)
    | some (i, o) => some (if t < i then t else i, if o < t then t else o)) else s
def rfold (P : Rat → Bool) : List Rat → Option (Rat × Rat) → Option (Rat × Rat)
  | [], s => s
  | t :: l, s => rfold P l (rst P t s)
/-- what holds of the least and the greatest -/
def Ends (Q : Rat → Prop) (s : Option (Rat × Rat)) : Prop :=
  match s with
  | none => ∀ t, ¬ Q t
  | some (i, o) => Q i ∧ Q o ∧ ∀ t, Q t → i ≤ t ∧ t ≤ o
theorem Ends.uniq {Q : Rat → Prop} {s s' : Option (Rat × Rat)} (h : Ends Q s) (h' : Ends Q s') : s = s' := by
  cases s with
  | none =>
    cases s' with
    | none => rfl
    | some p => exact absurd h'.1 (h _)
  | some p =>
    obtain ⟨i, o⟩ := p
    cases s' with
    | none => exact absurd h.1 (h' _)
    | some p' =>
      obtain ⟨i', o'⟩ := p'
      obtain ⟨a1, a2, a3⟩ := h
      obtain ⟨b1, b2, b3⟩ := h'
      have e1 : i = i' := Rat.le_antisymm (a3 _ b1).1 (b3 _ a1).1
      have e2 : o = o' := Rat.le_antisymm (b3 _ a2).2 (a3 _ b2).2
      rw [e1, e2]
theorem rfold_ends (P : Rat → Bool) : ∀ (l m : List Rat) (s : Option (Rat × Rat)), Ends (fun t => t ∈ m ∧ 0 ≤ t ∧ P t = true) s → Ends (fun t => t ∈ m ++ l ∧ 0 ≤ t ∧ P t = true) (rfold P l s)
  | [], m, s, h => by simpa [rfold] using h
  | t :: l, m, s, h => by
    have e : m ++ t :: l = (m ++ [t]) ++ l := by simp
    rw [e]
    refine rfold_ends P l (m ++ [t]) _ ?_
    unfold rst
    split
    · rename_i ht
      have hq : ∀ x, (x ∈ m ++ [t] ∧ 0 ≤ x ∧ P x = true) ↔ (x ∈ m ∧ 0 ≤ x ∧ P x = true) := fun x => by
        simp only [List.mem_append, List.mem_singleton]
        constructor
        · rintro ⟨h1 | rfl, h2, h3⟩
          · exact ⟨h1, h2, h3⟩
          · grind
        · rintro ⟨h1, h2, h3⟩; exact ⟨.inl h1, h2, h3⟩
      simpa only [hq] using h
    · rename_i ht
      have ht : 0 ≤ t := by grind
      split
      · rename_i hp
        cases s with
        | none =>
          have h : ∀ x, ¬ (x ∈ m ∧ 0 ≤ x ∧ P x = true) := h
          refine ⟨⟨by simp, ht, hp⟩, ⟨by simp, ht, hp⟩, fun x hx => ?_⟩
          obtain ⟨h1, h2⟩ := hx
          rcases List.mem_append.1 h1 with h1 | h1
          · exact absurd ⟨h1, h2⟩ (h x)
          · simp at h1; subst h1; exact ⟨Rat.le_refl, Rat.le_refl⟩
        | some p =>
          obtain ⟨i, o⟩ := p
          obtain ⟨⟨a1, a2⟩, ⟨b1, b2⟩, c⟩ := h
          have m1 : i ∈ m ++ [t] := List.mem_append_left _ a1
          have m2 : o ∈ m ++ [t] := List.mem_append_left _ b1
          have m3 : t ∈ m ++ [t] := by simp
          refine ⟨?_, ?_, fun x hx => ?_⟩
          · split
            · exact ⟨m3, ht, hp⟩
            · exact ⟨m1, a2⟩
          · split
            · exact ⟨m3, ht, hp⟩
            · exact ⟨m2, b2⟩
          · obtain ⟨h1, h2⟩ := hx
            have ci := c i ⟨a1, a2⟩
            rcases List.mem_append.1 h1 with h1 | h1
            · have := c x ⟨h1, h2⟩
              constructor <;> split <;> grind
            · simp at h1; subst h1
              constructor <;> split <;> grind
      · rename_i hp
        have hq : ∀ x, (x ∈ m ++ [t] ∧ 0 ≤ x ∧ P x = true) ↔ (x ∈ m ∧ 0 ≤ x ∧ P x = true) := fun x => by
          simp only [List.mem_append, List.mem_singleton]
          constructor
          · rintro ⟨h1 | rfl, h2, h3⟩
            · exact ⟨h1, h2, h3⟩
            · exact absurd h3 hp
          · rintro ⟨h1, h2, h3⟩; exact ⟨.inl h1, h2, h3⟩
        simpa only [hq] using h
theorem le_mulw {x y w : Rat} (hw : 0 < w) : x ≤ y ↔ x * w ≤ y * w := by
  have h := Rat.mul_lt_mul_right (a := y) (b := x) hw
  rw [← Rat.not_lt, ← Rat.not_lt, h]
theorem in_lo {w : Int} (hw : 0 < w) (lo s d : Int) (t : Rat) : (lo : Rat) ≤ (s : Rat) / (w : Rat) + t * (d : Rat) ↔ ((lo * w - s : Int) : Rat) ≤ t * ((w * d : Int) : Rat) := by
  have hw' : 0 < (w : Rat) := Rat.intCast_pos.2 hw
  have e : (s : Rat) / (w : Rat) * (w : Rat) = (s : Rat) := Rat.div_mul_cancel (by grind)
  rw [le_mulw hw', Rat.intCast_sub, Rat.intCast_mul, Rat.intCast_mul]
  generalize (s : Rat) / (w : Rat) = q at e ⊢
  constructor <;> intro _ <;> grind
theorem in_hi {w : Int} (hw : 0 < w) (hi s d : Int) (t : Rat) : (s : Rat) / (w : Rat) + t * (d : Rat) ≤ (hi : Rat) ↔ t * ((w * d : Int) : Rat) ≤ ((hi * w - s : Int) : Rat) := by
  have hw' : 0 < (w : Rat) := Rat.intCast_pos.2 hw
  have e : (s : Rat) / (w : Rat) * (w : Rat) = (s : Rat) := Rat.div_mul_cancel (by grind)
  rw [le_mulw hw', Rat.intCast_sub, Rat.intCast_mul, Rat.intCast_mul]
  generalize (s : Rat) / (w : Rat) = q at e ⊢
  constructor <;> intro _ <;> grind
/-- the part of a ray in a box -/
def boxS (r : RZ) (lo hi : V3) : Option (Rat × Option Rat) :=
  (bst r.w r.d.x (r.at lo).x (r.at hi).x (0, none)).bind fun s => (bst r.w r.d.y (r.at lo).y (r.at hi).y s).bind fun s => bst r.w r.d.z (r.at lo).z (r.at hi).z s
def boxE : Option (Rat × Option Rat) → Option (Rat × Rat)
  | some (i, some o) => if o < i then none else some (i, o)
  | _ => none
def boxR (r : RZ) (lo hi : V3) : Option (Rat × Rat) := if permZ r = true then boxE (boxS r lo hi) else none
noncomputable def wiB (w s d lo hi : Int) (t : Rat) : Bool := opq (decide ((lo : Rat) ≤ (s : Rat) / (w : Rat) + t * (d : Rat)) && decide ((s : Rat) / (w : Rat) + t * (d : Rat) ≤ (hi : Rat)))
noncomputable def inBx (r : RZ) (lo hi : V3) (t : Rat) : Bool := wiB r.w r.x r.d.x lo.x hi.x t && (wiB r.w r.y r.d.y lo.y hi.y t && wiB r.w r.z r.d.z lo.z hi.z t)
def cands (r : RZ) (lo hi : V3) : List Rat := [0] ++ cnd r.w r.d.x (r.at lo).x (r.at hi).x ++ cnd r.w r.d.y (r.at lo).y (r.at hi).y ++ cnd r.w r.d.z (r.at lo).z (r.at hi).z
theorem wiB_iff {w : Int} (hw : 0 < w) (s d lo hi : Int) (t : Rat) : wiB w s d lo hi t = true ↔ ((lo * w - s : Int) : Rat) ≤ t * ((w * d : Int) : Rat) ∧ t * ((w * d : Int) : Rat) ≤ ((hi * w - s : Int) : Rat) := by
  unfold wiB
  rw [opq_eq, Bool.and_eq_true, decide_eq_true_eq, decide_eq_true_eq, in_lo hw, in_hi hw]
theorem inBx_iff {r : RZ} (hw : 0 < r.w) (lo hi : V3) (t : Rat) : inBx r lo hi t = true ↔ (((r.at lo).x : Rat) ≤ t * ((r.w * r.d.x : Int) : Rat) ∧ t * ((r.w * r.d.x : Int) : Rat) ≤ ((r.at hi).x : Rat)) ∧
    (((r.at lo).y : Rat) ≤ t * ((r.w * r.d.y : Int) : Rat) ∧ t * ((r.w * r.d.y : Int) : Rat) ≤ ((r.at hi).y : Rat)) ∧ (((r.at lo).z : Rat) ≤ t * ((r.w * r.d.z : Int) : Rat) ∧ t * ((r.w * r.d.z : Int) : Rat) ≤ ((r.at hi).z : Rat)) := by
  unfold inBx
  rw [Bool.and_eq_true, Bool.and_eq_true, wiB_iff hw, wiB_iff hw, wiB_iff hw]
  exact Iff.rfl
theorem good0 : Good (fun _ => True) (0, none) [0] := ⟨Rat.le_refl, by simp, fun u h => by (cases h), fun t ht => by simp [ht]⟩
theorem boxS_ends {r : RZ} (h : permZ r = true) (lo hi : V3) : Ends (fun t => t ∈ cands r lo hi ∧ 0 ≤ t ∧ inBx r lo hi t = true) (boxE (boxS r lo hi)) := by
  unfold permZ at h
  rw [Bool.and_eq_true, decide_eq_true_eq, Bool.not_eq_true'] at h
  obtain ⟨hw, hz⟩ := h
  simp only [inBx_iff hw]
  unfold boxS
  cases h1 : bst r.w r.d.x (r.at lo).x (r.at hi).x (0, none) with
  | none => exact fun t ht => bst_none h1 t ht.2.2.1
  | some s1 =>
    rw [Option.bind_some]
    cases h2 : bst r.w r.d.y (r.at lo).y (r.at hi).y s1 with
    | none => exact fun t ht => bst_none h2 t ht.2.2.2.1
    | some s2 =>
      rw [Option.bind_some]
      cases h3 : bst r.w r.d.z (r.at lo).z (r.at hi).z s2 with
      | none => exact fun t ht => bst_none h3 t ht.2.2.2.2
      | some s3 =>
        have g := good_step (good_step (good_step good0 hw h1) hw h2) hw h3
        have o1 := bst_out h1
        have o2 := bst_out h2
        have o3 := bst_out h3
        obtain ⟨i, o⟩ := s3
        cases o with
        | none =>
          exfalso
          have h4 := o3.1 rfl
          have h5 := o2.1 h4.1
          have h6 := o1.1 h5.1
          unfold V3.isZ at hz
          rw [h6.2, h5.2, h4.2] at hz
          simp at hz
        | some u =>
          have g4 := g.char
          simp only [Option.some.injEq, forall_eq', true_and] at g4
          have g1 := g.pos
          have g2 := g.mem
          have g3 := g.mem2 u rfl
          simp only at g1 g2 g3
          show Ends _ (if u < i then none else some (i, u))
          by_cases hlt : u < i
          · rw [if_pos hlt]
            intro t ht
            have := (g4 t ht.2.1).1 ⟨⟨ht.2.2.1, ht.2.2.2.1⟩, ht.2.2.2.2⟩
            grind
          · rw [if_neg hlt]
            have hiu : i ≤ u := Rat.not_lt.1 hlt
            have hu0 : 0 ≤ u := Rat.le_trans g1 hiu
            refine ⟨⟨g2, g1, ?_⟩, ⟨g3, hu0, ?_⟩, fun t ht => (g4 t ht.2.1).1 ⟨⟨ht.2.2.1, ht.2.2.2.1⟩, ht.2.2.2.2⟩⟩
            · have := (g4 i g1).2 ⟨Rat.le_refl, hiu⟩
              exact ⟨this.1.1, this.1.2, this.2⟩
            · have := (g4 u hu0).2 ⟨hiu, Rat.le_refl⟩
              exact ⟨this.1.1, this.1.2, this.2⟩
/-- both ways to a part of a ray come to one -/
theorem box_ref {r : RZ} (h : permZ r = true) (lo hi : V3) : rfold (inBx r lo hi) (cands r lo hi) none = boxR r lo hi := by
  unfold boxR
  rw [if_pos h]
  refine Ends.uniq ?_ (boxS_ends h lo hi)
  have := rfold_ends (inBx r lo hi) (cands r lo hi) [] none (by intro t ht; cases ht.1)
  rwa [List.nil_append] at this
/-- a rational with few bits -/
def QB (q : Rat) : Prop := Sm 300 q.num ∧ Sm 300 (q.den : Int)
theorem qb0 : QB 0 := ⟨sm_zero 300, by have : Sm 1 1 := (by unfold Sm; decide); exact this.mono (by decide)⟩
theorem qb_div {a c : Int} (ha : Sm 300 a) (hc : Sm 300 c) : QB ((a : Rat) / (c : Rat)) := by
  by_cases h : c = 0
  · subst h
    have : (a : Rat) / ((0 : Int) : Rat) = 0 := by rw [Rat.div_def]; show (a : Rat) * (0 : Rat)⁻¹ = 0; simp
    rw [this]; exact qb0
  · obtain ⟨h1, h2⟩ := frac_rat (n := a) h
    exact ⟨h1 ▸ sm_fracN ha c, h2 ▸ sm_fracD hc a⟩
theorem bst_qb {w d a b : Int} {s s' : Rat × Option Rat} (h1 : QB s.1) (h2 : ∀ u, s.2 = some u → QB u) (ha : Sm 300 a) (hb : Sm 300 b) (hc : Sm 300 (w * d)) (hs : bst w d a b s = some s') : QB s'.1 ∧ ∀ u, s'.2 = some u → QB u := by
  unfold bst at hs
  split at hs
  · cases hs
  split at hs
  · split at hs
    · cases hs
    · cases hs; exact ⟨h1, h2⟩
  · cases hs
    have qa := qb_div ha hc
    have qb := qb_div hb hc
    have q1 : QB (if d < 0 then (b : Rat) / ((w * d : Int) : Rat) else (a : Rat) / ((w * d : Int) : Rat)) := by split <;> assumption
    have q2 : QB (if d < 0 then (a : Rat) / ((w * d : Int) : Rat) else (b : Rat) / ((w * d : Int) : Rat)) := by split <;> assumption
    generalize (if d < 0 then (b : Rat) / ((w * d : Int) : Rat) else (a : Rat) / ((w * d : Int) : Rat)) = f at q1 ⊢
    generalize (if d < 0 then (a : Rat) / ((w * d : Int) : Rat) else (b : Rat) / ((w * d : Int) : Rat)) = g at q2 ⊢
    refine ⟨?_, fun u hu => ?_⟩
    · show QB (if s.1 < f then f else s.1)
      split <;> assumption
    · cases hs2 : s.2 with
      | none => rw [hs2] at hu; cases hu; exact q2
      | some v =>
        rw [hs2] at hu
        have hu : (if g < v then some g else some v) = some u := hu
        split at hu
        · cases hu; exact q2
        · cases hu; exact h2 _ hs2
/-- the part of a ray, axis by axis -/
def boxK (r : RZ) (lo hi : V3) : Nat → Option (Rat × Option Rat)
  | 0 => some (0, none)
  | 1 => bst r.w r.d.x (r.at lo).x (r.at hi).x (0, none)
  | 2 => (bst r.w r.d.x (r.at lo).x (r.at hi).x (0, none)).bind fun s => bst r.w r.d.y (r.at lo).y (r.at hi).y s
  | _ => boxS r lo hi
noncomputable def bI (r : RZ) (lo hi : V3) : Rat := opq (match boxR r lo hi with | some p => p.1 | none => 0)
noncomputable def bO (r : RZ) (lo hi : V3) : Rat := opq (match boxR r lo hi with | some p => p.2 | none => 0)
noncomputable def bB (r : RZ) (lo hi : V3) : Bool := opq (boxR r lo hi).isSome
def oN : Option Rat → Int
  | none => 0
  | some u => u.num
def oD : Option Rat → Int
  | none => 0
  | some u => (u.den : Int)
theorem sm_oN {o : Option Rat} (h : ∀ u, o = some u → QB u) : Sm 300 (oN o) := by
  cases o with
  | none => exact sm_zero 300
  | some u => exact (h u rfl).1
theorem sm_oD {o : Option Rat} (h : ∀ u, o = some u → QB u) : Sm 300 (oD o) := by
  cases o with
  | none => exact sm_zero 300
  | some u => exact (h u rfl).2
/-- what is asked of the numbers -/
structure BoxB (r : RZ) (lo hi : V3) : Prop where
  ax : Sm 300 (r.at lo).x
  ay : Sm 300 (r.at lo).y
  az : Sm 300 (r.at lo).z
  bx : Sm 300 (r.at hi).x
  by_ : Sm 300 (r.at hi).y
  bz : Sm 300 (r.at hi).z
  cx : Sm 300 (r.w * r.d.x)
  cy : Sm 300 (r.w * r.d.y)
  cz : Sm 300 (r.w * r.d.z)
theorem boxK_qb {r : RZ} {lo hi : V3} (h : BoxB r lo hi) : ∀ k s, boxK r lo hi k = some s → QB s.1 ∧ ∀ u, s.2 = some u → QB u := by
  have k0 : QB ((0, none) : Rat × Option Rat).1 ∧ ∀ u, ((0, none) : Rat × Option Rat).2 = some u → QB u := ⟨qb0, fun u hu => nomatch hu⟩
  have k1 : ∀ s, bst r.w r.d.x (r.at lo).x (r.at hi).x (0, none) = some s → QB s.1 ∧ ∀ u, s.2 = some u → QB u := fun s hs => bst_qb k0.1 k0.2 h.ax h.bx h.cx hs
  have k2 : ∀ s, ((bst r.w r.d.x (r.at lo).x (r.at hi).x (0, none)).bind fun s => bst r.w r.d.y (r.at lo).y (r.at hi).y s) = some s → QB s.1 ∧ ∀ u, s.2 = some u → QB u := fun s hs => by
    obtain ⟨s1, h1, h2⟩ := Option.bind_eq_some_iff.1 hs
    exact bst_qb (k1 s1 h1).1 (k1 s1 h1).2 h.ay h.by_ h.cy h2
  have k3 : ∀ s, boxS r lo hi = some s → QB s.1 ∧ ∀ u, s.2 = some u → QB u := fun s hs => by
    unfold boxS at hs
    rw [← Option.bind_assoc] at hs
    obtain ⟨s1, h1, h2⟩ := Option.bind_eq_some_iff.1 hs
    exact bst_qb (k2 s1 h1).1 (k2 s1 h1).2 h.az h.bz h.cz h2
  intro k s hs
  match k with
  | 0 => cases hs; exact k0
  | 1 => exact k1 s hs
  | 2 => exact k2 s hs
  | n + 3 => exact k3 s hs
theorem boxR_qb {r : RZ} {lo hi : V3} (h : BoxB r lo hi) : QB (bI r lo hi) ∧ QB (bO r lo hi) := by
  unfold bI bO
  rw [opq_eq, opq_eq]
  cases hb : boxR r lo hi with
  | none => exact ⟨qb0, qb0⟩
  | some p =>
    unfold boxR at hb
    split at hb
    · unfold boxE at hb
      split at hb
      · rename_i i o hs
        split at hb
        · cases hb
        · cases hb
          have := boxK_qb h 3 _ hs
          exact ⟨this.1, this.2 _ rfl⟩
      · cases hb
    · cases hb
end Go.Proofs.YtefgchmbdijjdaaGreatDoor
