/- Cross, of ray and of the reference, by the reckoner: one value. Plain laws: fractions are rationals. Plain laws: fractions as rationals; sums, products, comparisons. law 22: frac, crosses, sanity. law 22: Box at the document's example, by the reckoner. -/
import Derived.Test.YtocbklodkcdhkaaGreatDoorRya
namespace Go.Proofs.YtocbklodkcdhkaaGreatDoor
open Go.RowKit
set_option maxRecDepth 100000

theorem cb1 {r : RZ} {p q s : V3} (h : permZ r = false) : crossB r p q s = false := by unfold crossB; rw [h]; rfl
theorem cb2 {r : RZ} {p q s : V3} (h : (normZ p q s).isZ = true) : crossB r p q s = false := by unfold crossB; rw [h]; simp
theorem cb3 {r : RZ} {p q s : V3} (h : passZ r.d (r.at p) (r.at q) (r.at s) = false) : crossB r p q s = false := by unfold crossB; rw [h]; simp
theorem cb4 {r : RZ} {p q s : V3} (h : decide (sgV (highZ r p q s) (normZ p q s).neg = (slopeZ r p q s).sign) = false) : crossB r p q s = false := by unfold crossB; rw [h]; simp
theorem cb5 {r : RZ} {p q s : V3} (h1 : permZ r = true) (h2 : (normZ p q s).isZ = false) (h3 : passZ r.d (r.at p) (r.at q) (r.at s) = true) (h4 : decide (sgV (highZ r p q s) (normZ p q s).neg = (slopeZ r p q s).sign) = true) : crossB r p q s = true := by unfold crossB; rw [h1, h2, h3, h4]; rfl
section
variable {rx ry rz rw d0 d1 d2 x1 y1 z1 x2 y2 z2 x3 y3 z3 : Int} (hrx : IR rx) (hry : IR ry) (hrz : IR rz) (hrw : IR rw) (hd0 : IR d0) (hd1 : IR d1) (hd2 : IR d2) (hx1 : IR x1) (hy1 : IR y1) (hz1 : IR z1) (hx2 : IR x2) (hy2 : IR y2) (hz2 : IR z2) (hx3 : IR x3) (hy3 : IR y3) (hz3 : IR z3)
include hx1 hy1 hz1 hx2 hy2 hz2 hx3 hy3 hz3
theorem sm_nx : Sm 517 (normZ ⟨x1, y1, z1⟩ ⟨x2, y2, z2⟩ ⟨x3, y3, z3⟩).x := by
 have _ := hx1; have _ := hx2; have _ := hx3
 exact sm_subj (Sm.mul (sm_subj (smI hy2) (smI hy1)) (sm_subj (smI hz3) (smI hz1))) (Sm.mul (sm_subj (smI hz2) (smI hz1)) (sm_subj (smI hy3) (smI hy1)))
theorem sm_ny : Sm 517 (normZ ⟨x1, y1, z1⟩ ⟨x2, y2, z2⟩ ⟨x3, y3, z3⟩).y := by
 have _ := hy1; have _ := hy2; have _ := hy3
 exact sm_subj (Sm.mul (sm_subj (smI hz2) (smI hz1)) (sm_subj (smI hx3) (smI hx1))) (Sm.mul (sm_subj (smI hx2) (smI hx1)) (sm_subj (smI hz3) (smI hz1)))
theorem sm_nz : Sm 517 (normZ ⟨x1, y1, z1⟩ ⟨x2, y2, z2⟩ ⟨x3, y3, z3⟩).z := by
 have _ := hz1; have _ := hz2; have _ := hz3
 exact sm_subj (Sm.mul (sm_subj (smI hx2) (smI hx1)) (sm_subj (smI hy3) (smI hy1))) (Sm.mul (sm_subj (smI hy2) (smI hy1)) (sm_subj (smI hx3) (smI hx1)))
include hrx hry hrz hrw
theorem sm_high : Sm 3000 (highZ ⟨rx, ry, rz, rw, ⟨d0, d1, d2⟩⟩ ⟨x1, y1, z1⟩ ⟨x2, y2, z2⟩ ⟨x3, y3, z3⟩) := by
 have h := sm_dot (sm_nx hx1 hy1 hz1 hx2 hy2 hz2 hx3 hy3 hz3) (sm_ny hx1 hy1 hz1 hx2 hy2 hz2 hx3 hy3 hz3) (sm_nz hx1 hy1 hz1 hx2 hy2 hz2 hx3 hy3 hz3) (sm_subj (Sm.mul (smI hx1) (smI hrw)) (smI hrx)) (sm_subj (Sm.mul (smI hy1) (smI hrw)) (smI hry)) (sm_subj (Sm.mul (smI hz1) (smI hrw)) (smI hrz))
 exact h.mono (by decide)
omit hrx hry hrz
include hd0 hd1 hd2
theorem sm_wslope : Sm 3000 (rw * slopeZ ⟨rx, ry, rz, rw, ⟨d0, d1, d2⟩⟩ ⟨x1, y1, z1⟩ ⟨x2, y2, z2⟩ ⟨x3, y3, z3⟩) := by
 have h := Sm.mul (smI hrw) (sm_dot (sm_nx hx1 hy1 hz1 hx2 hy2 hz2 hx3 hy3 hz3) (sm_ny hx1 hy1 hz1 hx2 hy2 hz2 hx3 hy3 hz3) (sm_nz hx1 hy1 hz1 hx2 hy2 hz2 hx3 hy3 hz3) (smI hd0) (smI hd1) (smI hd2))
 exact h.mono (by decide)
include hrx hry hrz
theorem sm_crossN : Sm 3000 (crossN ⟨rx, ry, rz, rw, ⟨d0, d1, d2⟩⟩ ⟨x1, y1, z1⟩ ⟨x2, y2, z2⟩ ⟨x3, y3, z3⟩) := by
 have _ := hd0; have _ := hd1; have _ := hd2
 unfold crossN; split
 ·exact sm_fracN (sm_high hrx hry hrz hrw hx1 hy1 hz1 hx2 hy2 hz2 hx3 hy3 hz3) _
 ·exact sm_zero _
theorem sm_crossD : Sm 3000 (crossD ⟨rx, ry, rz, rw, ⟨d0, d1, d2⟩⟩ ⟨x1, y1, z1⟩ ⟨x2, y2, z2⟩ ⟨x3, y3, z3⟩) := by
 have _ := hrx; have _ := hry; have _ := hrz
 unfold crossD; split
 ·exact sm_fracD (sm_wslope hrw hd0 hd1 hd2 hx1 hy1 hz1 hx2 hy2 hz2 hx3 hy3 hz3) _
 ·have : Sm 1 1 := by unfold Sm; decide
  exact this.mono (by decide)
end
theorem cr_no {k j k' j' : Nat} {r : RZ} {p q s : V3} (h : crossB r p q s = false) (hk : Sm k 0) (hj : Sm j 1) (hn : Sm k' (crossN r p q s)) (hd : Sm j' (crossD r p q s)) (ρ : Rho) : (SV.tup [.agg [.wid k 0 hk, .wid j 1 hj], .c (.val (.bool false))]).den ρ = (SV.tup [.agg [.wid k' (crossN r p q s) hn, .wid j' (crossD r p q s) hd], .c (.val (.bool (crossB r p q s)))]).den ρ :=
 tup2_sv (wid2_agg _ _ _ _ (by unfold crossN; rw [h]; rfl) (by unfold crossD; rw [h]; rfl) ρ) (bool_t1 h.symm ρ)
theorem cr_yes {k j k' j' : Nat} {r : RZ} {p q s : V3} {b : Bool} (h : crossB r p q s = true) (hb : b = true) (hk : Sm k (fracN (highZ r p q s) (r.w * slopeZ r p q s))) (hj : Sm j (fracD (highZ r p q s) (r.w * slopeZ r p q s))) (hn : Sm k' (crossN r p q s)) (hd : Sm j' (crossD r p q s)) (ρ : Rho) : (SV.tup [.agg [.wid k _ hk, .wid j _ hj], .c (.val (.bool b))]).den ρ = (SV.tup [.agg [.wid k' (crossN r p q s) hn, .wid j' (crossD r p q s) hd], .c (.val (.bool (crossB r p q s)))]).den ρ :=
 tup2_sv (wid2_agg _ _ _ _ (by unfold crossN; rw [h]; rfl) (by unfold crossD; rw [h]; rfl) ρ) (bool_t1 (hb.trans h.symm) ρ)
theorem not_t {b : Bool} (h : (!b) = true) : b = false := by simpa using h
theorem not_f {b : Bool} (h : (!b) = false) : b = true := by simpa using h
def rdSg : List (FuncId × Dr) := [(48, dSgn1)]
theorem rdSg_ok : AllR rdSg := .cons spSgn1 .nil
def dCrossY : Dn
 | [.agg [.int rx hrx, .int ry hry, .int rz hrz, .int rw hrw, .int d0 hd0, .int d1 hd1, .int d2 hd2], .agg [.int x1 hx1, .int y1 hy1, .int z1 hz1, .int x2 hx2, .int y2 hy2, .int z2 hz2, .int x3 hx3, .int y3 hy3, .int z3 hz3]] =>
  some (none, .tup [.agg [.wid 3000 (crossN ⟨rx, ry, rz, rw, ⟨d0, d1, d2⟩⟩ ⟨x1, y1, z1⟩ ⟨x2, y2, z2⟩ ⟨x3, y3, z3⟩) (sm_crossN hrx hry hrz hrw hd0 hd1 hd2 hx1 hy1 hz1 hx2 hy2 hz2 hx3 hy3 hz3), .wid 3000 (crossD ⟨rx, ry, rz, rw, ⟨d0, d1, d2⟩⟩ ⟨x1, y1, z1⟩ ⟨x2, y2, z2⟩ ⟨x3, y3, z3⟩) (sm_crossD hrx hry hrz hrw hd0 hd1 hd2 hx1 hy1 hz1 hx2 hy2 hz2 hx3 hy3 hz3)], .c (.val (.bool (crossB ⟨rx, ry, rz, rw, ⟨d0, d1, d2⟩⟩ ⟨x1, y1, z1⟩ ⟨x2, y2, z2⟩ ⟨x3, y3, z3⟩)))])
 | _ => none
set_option maxHeartbeats 8000000 in
theorem spCrossY : SpOk Tryz.prog 20 dCrossY := sp_of3 (un := 20) (n := 0) ⟨Tryz.func20, by kernel_rfl, by kernel_rfl⟩ baseG2_ok rdSg_ok noF_ok fun args p v hd => by
 unfold dCrossY at hd
 split at hd
 ·rename_i rx hrx ry hry rz hrz rw hrw d0 hd0 d1 hd1 d2 hd2 x1 hx1 y1 hy1 z1 hz1 x2 hx2 y2 hy2 z2 hz2 x3 hx3 y3 hy3 z3 hz3
  cases hd
  refine ⟨[.agg [.int rx hrx, .int ry hry, .int rz hrz, .int rw hrw, .int d0 hd0, .int d1 hd1, .int d2 hd2], .agg [.int x1 hx1, .int y1 hy1, .int z1 hz1, .int x2 hx2, .int y2 hy2, .int z2 hz2, .int x3 hx3, .int y3 hy3, .int z3 hz3]], fun _=>rfl,fun _ _=>rfl,fun _ _=>rfl,fun _ => ?_⟩
  conv => whnf
  refine bcase_intro (fun h1 => ?_) (fun h1 => ?_)
  ·have h1 : permZ (⟨rx, ry, rz, rw, ⟨d0, d1, d2⟩⟩ : RZ) = false := not_t h1
   conv => whnf
   exact fun ρ => cr_no (cb1 h1) _ _ _ _ ρ
  have h1 : permZ (⟨rx, ry, rz, rw, ⟨d0, d1, d2⟩⟩ : RZ) = true := not_f h1
  conv => whnf
  refine bcase_intro (fun h2 => ?_) (fun h2 => ?_)
  ·have h2 : (normZ ⟨x1, y1, z1⟩ ⟨x2, y2, z2⟩ ⟨x3, y3, z3⟩).isZ = true := h2
   conv => whnf
   exact fun ρ => cr_no (cb2 h2) _ _ _ _ ρ
  have h2 : (normZ ⟨x1, y1, z1⟩ ⟨x2, y2, z2⟩ ⟨x3, y3, z3⟩).isZ = false := h2
  conv => whnf
  refine bcase_intro (fun h3 => ?_) (fun h3 => ?_)
  ·have h3 : passZ (⟨rx, ry, rz, rw, ⟨d0, d1, d2⟩⟩ : RZ).d (RZ.at (⟨rx, ry, rz, rw, ⟨d0, d1, d2⟩⟩ : RZ) ⟨x1, y1, z1⟩) (RZ.at (⟨rx, ry, rz, rw, ⟨d0, d1, d2⟩⟩ : RZ) ⟨x2, y2, z2⟩) (RZ.at (⟨rx, ry, rz, rw, ⟨d0, d1, d2⟩⟩ : RZ) ⟨x3, y3, z3⟩) = false := not_t h3
   conv => whnf
   exact fun ρ => cr_no (cb3 h3) _ _ _ _ ρ
  have h3 : passZ (⟨rx, ry, rz, rw, ⟨d0, d1, d2⟩⟩ : RZ).d (RZ.at (⟨rx, ry, rz, rw, ⟨d0, d1, d2⟩⟩ : RZ) ⟨x1, y1, z1⟩) (RZ.at (⟨rx, ry, rz, rw, ⟨d0, d1, d2⟩⟩ : RZ) ⟨x2, y2, z2⟩) (RZ.at (⟨rx, ry, rz, rw, ⟨d0, d1, d2⟩⟩ : RZ) ⟨x3, y3, z3⟩) = true := not_f h3
  conv => whnf
  refine bcase_intro (fun h4 => ?_) (fun h4 => ?_)
  ·have h4 : decide (sgV (highZ (⟨rx, ry, rz, rw, ⟨d0, d1, d2⟩⟩ : RZ) ⟨x1, y1, z1⟩ ⟨x2, y2, z2⟩ ⟨x3, y3, z3⟩) (normZ ⟨x1, y1, z1⟩ ⟨x2, y2, z2⟩ ⟨x3, y3, z3⟩).neg = (slopeZ (⟨rx, ry, rz, rw, ⟨d0, d1, d2⟩⟩ : RZ) ⟨x1, y1, z1⟩ ⟨x2, y2, z2⟩ ⟨x3, y3, z3⟩).sign) = false := not_t h4
   conv => whnf
   exact fun ρ => cr_no (cb4 h4) _ _ _ _ ρ
  have h4 : decide (sgV (highZ (⟨rx, ry, rz, rw, ⟨d0, d1, d2⟩⟩ : RZ) ⟨x1, y1, z1⟩ ⟨x2, y2, z2⟩ ⟨x3, y3, z3⟩) (normZ ⟨x1, y1, z1⟩ ⟨x2, y2, z2⟩ ⟨x3, y3, z3⟩).neg = (slopeZ (⟨rx, ry, rz, rw, ⟨d0, d1, d2⟩⟩ : RZ) ⟨x1, y1, z1⟩ ⟨x2, y2, z2⟩ ⟨x3, y3, z3⟩).sign) = true := not_f h4
  have h5 := cb5 h1 h2 h3 h4
  conv => whnf
  exact fun ρ => cr_yes h5 rfl _ _ _ _ ρ
 ·cases hd
def baseC : List (FuncId × Dn) := (20, dCrossY) :: baseG2
theorem baseC_ok : AllOk baseC := .cons spCrossY <| baseG2_ok
end Go.Proofs.YtocbklodkcdhkaaGreatDoor

namespace Go.Proofs.YtocbklodkcdhkaaGreatDoor
open Go.RowKit
set_option maxRecDepth 100000

/-- a value that no reckoning opens -/
noncomputable def opq {α : Type} (a : α) : α := Classical.choose (⟨a, rfl⟩ : ∃ x, x = a)
end Go.Proofs.YtocbklodkcdhkaaGreatDoor

namespace Go.Proofs.YtocbklodkcdhkaaGreatDoor
open Go.RowKit
set_option maxRecDepth 100000

theorem tup3_sv {a b c d e f : T1} {ρ : Rho} (h1 : a.den ρ = d.den ρ) (h2 : b.den ρ = e.den ρ) (h3 : c.den ρ = f.den ρ) : (SV.tup [a, b, c]).den ρ = (SV.tup [d, e, f]).den ρ := by
  simp only [SV.den, List.map_cons, List.map_nil, h1, h2, h3]
/-- what a fraction is -/
def ratOf (n d : Int) : Rat := ((pN n d : Int) : Rat) / ((pD d : Int) : Rat)
end Go.Proofs.YtocbklodkcdhkaaGreatDoor

namespace Go.Proofs.YtocbklodkcdhkaaGreatDoor
open Go.RowKit
set_option maxRecDepth 100000

def dFrac22 : Dn
 | [.c (.int n hn), .c (.int m hm)] =>
  some (none, .agg [.wid 64 (fracN n m) (sm_fracN (smI hn) m), .wid 64 (fracD n m) (sm_fracD (smI hm) n)])
 | _ => none
theorem spFrac22 : SpOk Tryz.prog 13 dFrac22 := sp_of2 (un := 20) (n := 0) ⟨Tryz.func13, by kernel_rfl, by kernel_rfl⟩ baseC_ok noF_ok fun args p v hd => by
 unfold dFrac22 at hd
 split at hd
 ·rename_i n hn m hm
  cases hd
  refine ⟨[.c (.int n hn), .c (.int m hm)], fun _=>rfl,fun _ _=>rfl,fun _ _=>rfl,fun _ => ?_⟩
  conv => whnf
  exact fun _=>rfl
 ·cases hd
def baseS : List (FuncId × Dn) := (13, dFrac22) :: baseC
theorem baseS_ok : AllOk baseS := .cons spFrac22 <| baseC_ok
theorem and_t {a b : Bool} (h : a = true) : (a && b) = b := by rw [h]; rfl
theorem and_f {a b : Bool} (h : a = false) : (a && b) = false := by rw [h]; rfl
def dCrs22 : Dn
 | [.agg [.int rx _, .int ry _, .int rz _, .int rw _, .int d0 _, .int d1 _, .int d2 _], .agg [.int x1 _, .int y1 _, .int z1 _, .int x2 _, .int y2 _, .int z2 _, .int x3 _, .int y3 _, .int z3 _], .c (.int n _), .c (.int m _), .c (.val (.bool want))] =>
  some (none, .c (.val (.bool ((decide (crossN ⟨rx, ry, rz, rw, ⟨d0, d1, d2⟩⟩ ⟨x1, y1, z1⟩ ⟨x2, y2, z2⟩ ⟨x3, y3, z3⟩ = fracN n m) && decide (crossD ⟨rx, ry, rz, rw, ⟨d0, d1, d2⟩⟩ ⟨x1, y1, z1⟩ ⟨x2, y2, z2⟩ ⟨x3, y3, z3⟩ = fracD n m)) && (crossB ⟨rx, ry, rz, rw, ⟨d0, d1, d2⟩⟩ ⟨x1, y1, z1⟩ ⟨x2, y2, z2⟩ ⟨x3, y3, z3⟩ == want)))))
 | _ => none
set_option maxHeartbeats 4000000 in
theorem spCrs22 : SpOk Tryz.prog 12 dCrs22 := sp_of2 (un := 20) (n := 0) ⟨Tryz.func12, by kernel_rfl, by kernel_rfl⟩ baseS_ok noF_ok fun args p v hd => by
 unfold dCrs22 at hd
 split at hd
 ·rename_i rx hrx ry hry rz hrz rw hrw d0 hd0 d1 hd1 d2 hd2 x1 hx1 y1 hy1 z1 hz1 x2 hx2 y2 hy2 z2 hz2 x3 hx3 y3 hy3 z3 hz3 n hn m hm want
  cases hd
  refine ⟨[.agg [.int rx hrx, .int ry hry, .int rz hrz, .int rw hrw, .int d0 hd0, .int d1 hd1, .int d2 hd2], .agg [.int x1 hx1, .int y1 hy1, .int z1 hz1, .int x2 hx2, .int y2 hy2, .int z2 hz2, .int x3 hx3, .int y3 hy3, .int z3 hz3], .c (.int n hn), .c (.int m hm), .c (.val (.bool want))], fun _=>rfl,fun _ _=>rfl,fun _ _=>rfl,fun _ => ?_⟩
  conv => whnf
  refine bcase_intro (fun h1 => ?_) (fun h1 => ?_)
  ·have h1 : (decide (crossN ⟨rx, ry, rz, rw, ⟨d0, d1, d2⟩⟩ ⟨x1, y1, z1⟩ ⟨x2, y2, z2⟩ ⟨x3, y3, z3⟩ = fracN n m) && decide (crossD ⟨rx, ry, rz, rw, ⟨d0, d1, d2⟩⟩ ⟨x1, y1, z1⟩ ⟨x2, y2, z2⟩ ⟨x3, y3, z3⟩ = fracD n m)) = true := h1
   conv => whnf
   exact fun ρ => sbool_e (Eq.symm (and_t h1)) ρ
  ·have h1 : (decide (crossN ⟨rx, ry, rz, rw, ⟨d0, d1, d2⟩⟩ ⟨x1, y1, z1⟩ ⟨x2, y2, z2⟩ ⟨x3, y3, z3⟩ = fracN n m) && decide (crossD ⟨rx, ry, rz, rw, ⟨d0, d1, d2⟩⟩ ⟨x1, y1, z1⟩ ⟨x2, y2, z2⟩ ⟨x3, y3, z3⟩ = fracD n m)) = false := h1
   conv => whnf
   exact fun ρ => sbool_e (Eq.symm (and_f h1)) ρ
 ·cases hd
def dOver (c : List SV → Option SV) (d : Dn) : Dn := fun args => match c args with
 | some v => (match d args with | some (p, _) => some (p, v) | none => none)
 | none => d args
theorem spOver {f : FuncId} {d : Dn} (h : SpOk Tryz.prog f d) {c : List SV → Option SV} (hc : ∀ args v p u, c args = some v → d args = some (p, u) → ∀ ρ, u.den ρ = v.den ρ) : SpOk Tryz.prog f (dOver c d) := by
 refine ⟨h.1, fun args p v hd => ?_⟩
 unfold dOver at hd
 split at hd
 ·rename_i v' hv
  split at hd
  ·rename_i p' u hu
   cases hd
   have e := hc args v p u hv hu
   refine ⟨fun ρ ρ' => by rw [← e ρ, ← e ρ']; exact (h.2 args p u hu).1 ρ ρ', fun ho ρ w => ?_⟩
   have := (h.2 args p u hu).2 ho ρ w
   rw [e ρ] at this
   exact this
  ·cases hd
 ·exact h.2 args p v hd
theorem ex0 : ((decide (crossN ⟨1, 1, 5, 1, ⟨0, 0, -2⟩⟩ ⟨0, 0, 0⟩ ⟨4, 0, 0⟩ ⟨0, 4, 0⟩ = fracN 5 2) && decide (crossD ⟨1, 1, 5, 1, ⟨0, 0, -2⟩⟩ ⟨0, 0, 0⟩ ⟨4, 0, 0⟩ ⟨0, 4, 0⟩ = fracD 5 2)) && (crossB ⟨1, 1, 5, 1, ⟨0, 0, -2⟩⟩ ⟨0, 0, 0⟩ ⟨4, 0, 0⟩ ⟨0, 4, 0⟩ == true)) = true := by decide +kernel
theorem ex1 : ((decide (crossN ⟨1, 1, 5, 1, ⟨0, 0, 2⟩⟩ ⟨0, 0, 0⟩ ⟨4, 0, 0⟩ ⟨0, 4, 0⟩ = fracN 0 1) && decide (crossD ⟨1, 1, 5, 1, ⟨0, 0, 2⟩⟩ ⟨0, 0, 0⟩ ⟨4, 0, 0⟩ ⟨0, 4, 0⟩ = fracD 0 1)) && (crossB ⟨1, 1, 5, 1, ⟨0, 0, 2⟩⟩ ⟨0, 0, 0⟩ ⟨4, 0, 0⟩ ⟨0, 4, 0⟩ == false)) = true := by decide +kernel
theorem ex2 : ((decide (crossN ⟨0, 0, 5, 1, ⟨0, 0, -1⟩⟩ ⟨0, 0, 0⟩ ⟨4, 0, 0⟩ ⟨0, 4, 0⟩ = fracN 5 1) && decide (crossD ⟨0, 0, 5, 1, ⟨0, 0, -1⟩⟩ ⟨0, 0, 0⟩ ⟨4, 0, 0⟩ ⟨0, 4, 0⟩ = fracD 5 1)) && (crossB ⟨0, 0, 5, 1, ⟨0, 0, -1⟩⟩ ⟨0, 0, 0⟩ ⟨4, 0, 0⟩ ⟨0, 4, 0⟩ == true)) = true := by decide +kernel
theorem ex3 : ((decide (crossN ⟨2, 2, 5, 1, ⟨0, 0, -1⟩⟩ ⟨0, 0, 0⟩ ⟨4, 0, 0⟩ ⟨0, 4, 0⟩ = fracN 0 1) && decide (crossD ⟨2, 2, 5, 1, ⟨0, 0, -1⟩⟩ ⟨0, 0, 0⟩ ⟨4, 0, 0⟩ ⟨0, 4, 0⟩ = fracD 0 1)) && (crossB ⟨2, 2, 5, 1, ⟨0, 0, -1⟩⟩ ⟨0, 0, 0⟩ ⟨4, 0, 0⟩ ⟨0, 4, 0⟩ == false)) = true := by decide +kernel
theorem ex4 : ((decide (crossN ⟨1, 1, 0, 1, ⟨0, 0, -1⟩⟩ ⟨0, 0, 0⟩ ⟨4, 0, 0⟩ ⟨0, 4, 0⟩ = fracN 0 1) && decide (crossD ⟨1, 1, 0, 1, ⟨0, 0, -1⟩⟩ ⟨0, 0, 0⟩ ⟨4, 0, 0⟩ ⟨0, 4, 0⟩ = fracD 0 1)) && (crossB ⟨1, 1, 0, 1, ⟨0, 0, -1⟩⟩ ⟨0, 0, 0⟩ ⟨4, 0, 0⟩ ⟨0, 4, 0⟩ == true)) = true := by decide +kernel
theorem ex5 : ((decide (crossN ⟨3, 3, 2, 6, ⟨0, 0, -1⟩⟩ ⟨0, 0, 0⟩ ⟨4, 0, 0⟩ ⟨0, 4, 0⟩ = fracN 1 3) && decide (crossD ⟨3, 3, 2, 6, ⟨0, 0, -1⟩⟩ ⟨0, 0, 0⟩ ⟨4, 0, 0⟩ ⟨0, 4, 0⟩ = fracD 1 3)) && (crossB ⟨3, 3, 2, 6, ⟨0, 0, -1⟩⟩ ⟨0, 0, 0⟩ ⟨4, 0, 0⟩ ⟨0, 4, 0⟩ == true)) = true := by decide +kernel
def cCrs : List SV → Option SV
 | [.agg [.int rx _, .int ry _, .int rz _, .int rw _, .int d0 _, .int d1 _, .int d2 _], .agg [.int x1 _, .int y1 _, .int z1 _, .int x2 _, .int y2 _, .int z2 _, .int x3 _, .int y3 _, .int z3 _], .c (.int n _), .c (.int m _), .c (.val (.bool want))] =>
  if rx = 1 ∧ ry = 1 ∧ rz = 5 ∧ rw = 1 ∧ d0 = 0 ∧ d1 = 0 ∧ d2 = (-2) ∧ x1 = 0 ∧ y1 = 0 ∧ z1 = 0 ∧ x2 = 4 ∧ y2 = 0 ∧ z2 = 0 ∧ x3 = 0 ∧ y3 = 4 ∧ z3 = 0 ∧ n = 5 ∧ m = 2 ∧ want = true then some (.c (.val (.bool true))) else
  if rx = 1 ∧ ry = 1 ∧ rz = 5 ∧ rw = 1 ∧ d0 = 0 ∧ d1 = 0 ∧ d2 = 2 ∧ x1 = 0 ∧ y1 = 0 ∧ z1 = 0 ∧ x2 = 4 ∧ y2 = 0 ∧ z2 = 0 ∧ x3 = 0 ∧ y3 = 4 ∧ z3 = 0 ∧ n = 0 ∧ m = 1 ∧ want = false then some (.c (.val (.bool true))) else
  if rx = 0 ∧ ry = 0 ∧ rz = 5 ∧ rw = 1 ∧ d0 = 0 ∧ d1 = 0 ∧ d2 = (-1) ∧ x1 = 0 ∧ y1 = 0 ∧ z1 = 0 ∧ x2 = 4 ∧ y2 = 0 ∧ z2 = 0 ∧ x3 = 0 ∧ y3 = 4 ∧ z3 = 0 ∧ n = 5 ∧ m = 1 ∧ want = true then some (.c (.val (.bool true))) else
  if rx = 2 ∧ ry = 2 ∧ rz = 5 ∧ rw = 1 ∧ d0 = 0 ∧ d1 = 0 ∧ d2 = (-1) ∧ x1 = 0 ∧ y1 = 0 ∧ z1 = 0 ∧ x2 = 4 ∧ y2 = 0 ∧ z2 = 0 ∧ x3 = 0 ∧ y3 = 4 ∧ z3 = 0 ∧ n = 0 ∧ m = 1 ∧ want = false then some (.c (.val (.bool true))) else
  if rx = 1 ∧ ry = 1 ∧ rz = 0 ∧ rw = 1 ∧ d0 = 0 ∧ d1 = 0 ∧ d2 = (-1) ∧ x1 = 0 ∧ y1 = 0 ∧ z1 = 0 ∧ x2 = 4 ∧ y2 = 0 ∧ z2 = 0 ∧ x3 = 0 ∧ y3 = 4 ∧ z3 = 0 ∧ n = 0 ∧ m = 1 ∧ want = true then some (.c (.val (.bool true))) else
  if rx = 3 ∧ ry = 3 ∧ rz = 2 ∧ rw = 6 ∧ d0 = 0 ∧ d1 = 0 ∧ d2 = (-1) ∧ x1 = 0 ∧ y1 = 0 ∧ z1 = 0 ∧ x2 = 4 ∧ y2 = 0 ∧ z2 = 0 ∧ x3 = 0 ∧ y3 = 4 ∧ z3 = 0 ∧ n = 1 ∧ m = 3 ∧ want = true then some (.c (.val (.bool true))) else
  none
 | _ => none
def dCrsS : Dn := dOver cCrs dCrs22
set_option maxHeartbeats 4000000 in
theorem spCrsS : SpOk Tryz.prog 12 dCrsS := spOver spCrs22 fun args v p u h1 h2 ρ => by
 unfold cCrs at h1
 split at h1
 ·split at h1
  ·rename_i e
   obtain ⟨rfl,rfl,rfl,rfl,rfl,rfl,rfl,rfl,rfl,rfl,rfl,rfl,rfl,rfl,rfl,rfl,rfl,rfl,rfl⟩ := e
   cases h1; cases h2
   exact sbool_e ex0 ρ
  split at h1
  ·rename_i e
   obtain ⟨rfl,rfl,rfl,rfl,rfl,rfl,rfl,rfl,rfl,rfl,rfl,rfl,rfl,rfl,rfl,rfl,rfl,rfl,rfl⟩ := e
   cases h1; cases h2
   exact sbool_e ex1 ρ
  split at h1
  ·rename_i e
   obtain ⟨rfl,rfl,rfl,rfl,rfl,rfl,rfl,rfl,rfl,rfl,rfl,rfl,rfl,rfl,rfl,rfl,rfl,rfl,rfl⟩ := e
   cases h1; cases h2
   exact sbool_e ex2 ρ
  split at h1
  ·rename_i e
   obtain ⟨rfl,rfl,rfl,rfl,rfl,rfl,rfl,rfl,rfl,rfl,rfl,rfl,rfl,rfl,rfl,rfl,rfl,rfl,rfl⟩ := e
   cases h1; cases h2
   exact sbool_e ex3 ρ
  split at h1
  ·rename_i e
   obtain ⟨rfl,rfl,rfl,rfl,rfl,rfl,rfl,rfl,rfl,rfl,rfl,rfl,rfl,rfl,rfl,rfl,rfl,rfl,rfl⟩ := e
   cases h1; cases h2
   exact sbool_e ex4 ρ
  split at h1
  ·rename_i e
   obtain ⟨rfl,rfl,rfl,rfl,rfl,rfl,rfl,rfl,rfl,rfl,rfl,rfl,rfl,rfl,rfl,rfl,rfl,rfl,rfl⟩ := e
   cases h1; cases h2
   exact sbool_e ex5 ρ
  cases h1
 ·cases h1
end Go.Proofs.YtocbklodkcdhkaaGreatDoor

namespace Go.Proofs.YtocbklodkcdhkaaGreatDoor
open Go.RowKit
set_option maxRecDepth 100000

def boxS0 : SV := .tup [.agg [.wid 64 1 (by unfold Sm; decide), .wid 64 1 (by unfold Sm; decide)], .agg [.wid 64 3 (by unfold Sm; decide), .wid 64 2 (by unfold Sm; decide)], .c (.val (.bool true))]
set_option maxHeartbeats 8000000 in
theorem vcBoxS0 : vcF (envN 20 baseC [] fun i => i == 25) (mix [] (envN 20 baseC [] fun i => i == 25) noF 0) Tryz.f11 [.agg [.int 0 (by decide), .int 0 (by decide), .int 0 (by decide), .int 1 (by decide), .int 1 (by decide), .int 2 (by decide), .int 0 (by decide)], .agg [.int 1 (by decide), .int 1 (by decide), .int 0 (by decide)], .agg [.int 2 (by decide), .int 3 (by decide), .int 0 (by decide)]] [] fun u _ => ∀ ρ, u.den ρ = boxS0.den ρ := by
 conv => whnf
 refine ⟨?_, ?_, trivial⟩
 ·conv => whnf
  refine ⟨?_, ?_, trivial⟩
  ·conv => whnf
   refine ⟨?_, trivial⟩
   ·conv => whnf
    refine ⟨?_, trivial⟩
    ·conv => whnf
     refine ⟨?_, trivial⟩
     ·conv => whnf
      conv => whnf
      exact fun ρ => tup3_sv (wid2_agg _ _ _ _ (by decide +kernel) (by decide +kernel) ρ) (wid2_agg _ _ _ _ (by decide +kernel) (by decide +kernel) ρ) rfl
  ·conv => whnf
   refine ⟨?_, trivial⟩
   ·conv => whnf
    refine ⟨?_, trivial⟩
    ·conv => whnf
     refine ⟨?_, trivial⟩
     ·conv => whnf
      conv => whnf
      exact fun ρ => tup3_sv (wid2_agg _ _ _ _ (by decide +kernel) (by decide +kernel) ρ) (wid2_agg _ _ _ _ (by decide +kernel) (by decide +kernel) ρ) rfl
 ·conv => whnf
  refine ⟨?_, trivial⟩
  ·conv => whnf
   refine ⟨?_, trivial⟩
   ·conv => whnf
    refine ⟨?_, trivial⟩
    ·conv => whnf
     refine ⟨?_, trivial⟩
     ·conv => whnf
      conv => whnf
      exact fun ρ => tup3_sv (wid2_agg _ _ _ _ (by decide +kernel) (by decide +kernel) ρ) (wid2_agg _ _ _ _ (by decide +kernel) (by decide +kernel) ρ) rfl
def dBoxS0 : Dn
 | [.agg [.int rx _, .int ry _, .int rz _, .int rw _, .int d0 _, .int d1 _, .int d2 _], .agg [.int x1 _, .int y1 _, .int z1 _], .agg [.int x2 _, .int y2 _, .int z2 _]] => if rx = 0 ∧ ry = 0 ∧ rz = 0 ∧ rw = 1 ∧ d0 = 1 ∧ d1 = 2 ∧ d2 = 0 ∧ x1 = 1 ∧ y1 = 1 ∧ z1 = 0 ∧ x2 = 2 ∧ y2 = 3 ∧ z2 = 0 then some (none, boxS0) else none
 | _ => none
theorem spBoxS0 : SpOk Tryz.prog 11 dBoxS0 := ⟨⟨_, Tryz.func11, by kernel_rfl, by kernel_rfl⟩, fun args p v hd => by
 unfold dBoxS0 at hd
 split at hd
 ·split at hd
  ·rename_i e
   obtain ⟨rfl,rfl,rfl,rfl,rfl,rfl,rfl,rfl,rfl,rfl,rfl,rfl,rfl⟩ := e
   cases hd
   exact ⟨fun _ _=>rfl,fun _ ρ w => pure_okH (envN_ok baseC_ok .nil 20 fun i => i == 25) mixed (mix_ok .nil (envN_ok baseC_ok .nil 20 fun i => i == 25) mixed noF_ok 0) ⟨Tryz.func11, by kernel_rfl, by kernel_rfl⟩ (fun _ _=>rfl) (fun _ _=>rfl) vcBoxS0 ρ w⟩
  ·cases hd
 ·cases hd⟩
end Go.Proofs.YtocbklodkcdhkaaGreatDoor
