/- How far, and whether it fits: both packages. -/
import Derived.Test.YthmdmbpecgakkaaDoorNab
import Derived.Test.YthmdmbpecgakkaaDoorExact3
namespace Go.Proofs.YthmdmbpecgakkaaDoor
open Go.RowKit
set_option maxRecDepth 100000

def num2w (cap : Nat) (g : NA → NA → SV) : Dn
 | [.agg [.wid k z h], .agg [.wid j y h1]] => if k ≤ cap ∧ j ≤ cap then some (none, g ⟨k, z, h⟩ ⟨j, y, h1⟩) else none
 | _ => none
theorem spn2w {f : FuncId} {cap : Nat} {g : NA → NA → SV} (h : SpOk Tryd.prog f (num2c cap g)) : SpOk Tryd.prog f (num2w cap g) := ⟨h.1, fun args p v hd => by
 unfold num2w at hd
 split at hd
 ·rename_i k z hz j y hy
  split at hd
  ·rename_i hk
   cases hd
   have := h.2 _ _ _ (show num2c cap g [.agg [.wid k z hz], .agg [.wid j y hy]] = some (some (k ≤ cap ∧ j ≤ cap), g ⟨k, z, hz⟩ ⟨j, y, hy⟩) from rfl)
   exact ⟨this.1, fun _ => this.2 (fun q hq => by cases hq; exact hk)⟩
  ·cases hd
 ·cases hd⟩
def cmpV (X Y : NA) : SV := .c (.int (X.z - Y.z).sign (ir_sign _))
def dCmpY : Dn := num2w 80000000 cmpV
theorem sint_e {a b : Int} {ha : IR a} {hb : IR b} (e : a = b) (ρ : Rho) : (SV.c (.int a ha)).den ρ = (SV.c (.int b hb)).den ρ := by subst e; rfl
theorem sbool_e {a b : Bool} (e : a = b) (ρ : Rho) : (SV.c (.val (.bool a))).den ρ = (SV.c (.val (.bool b))).den ρ := by subst e; rfl
theorem wid1_sv {k j : Nat} {z y : Int} (h : Sm k z) (h' : Sm j y) (e : z = y) (ρ : Rho) : (SV.agg [.wid k z h]).den ρ = (SV.agg [.wid j y h']).den ρ := by subst e; rfl
def baseW : List (FuncId × Dn) := (26, dCmpY) :: (33, dCmpY) :: base
theorem baseW_ok : AllOk baseW := .cons (spn2w spCmpA) <| .cons (spn2w spRCmpA) base_ok
/-! the plain words -/
def gapZ (x lo hi : Int) : Int := if x < lo then lo - x else if hi < x then x - hi else 0
def axV (p q g x : Int) : Int := gapZ x (minI p q - maxI g 0) (maxI p q + maxI g 0)
def d2V (lx ly lz hx hy hz g ex ey ez : Int) : Int := axV lx hx g ex * axV lx hx g ex + axV ly hy g ey * axV ly hy g ey + axV lz hz g ez * axV lz hz g ez
def wthB (f p d2 err : Int) : Bool := (decide (err ≤ 0) || decide (f ≤ 0)) || (!decide (p < 0) && decide (err * f * (err * f) ≤ p * p * d2))
theorem gap_lo {x lo hi : Int} (h : x < lo) : gapZ x lo hi = lo - x := if_pos h
theorem gap_hi {x lo hi : Int} (h : ¬ x < lo) (h2 : hi < x) : gapZ x lo hi = x - hi := by unfold gapZ; rw [if_neg h, if_pos h2]
theorem gap_in {x lo hi : Int} (h : ¬ x < lo) (h2 : ¬ hi < x) : gapZ x lo hi = 0 := by unfold gapZ; rw [if_neg h, if_neg h2]
theorem sgn_lt {a b : Int} : (a - b).sign < 0 ↔ a < b := by rw [Int.sign_neg_iff]; omega
theorem sgn_gt {a b : Int} : 0 < (a - b).sign ↔ b < a := by rw [Int.sign_pos_iff]; omega
theorem sgn_le {a b : Int} : (a - b).sign ≤ 0 ↔ a ≤ b := by
 have := @sgn_gt a b
 omega
theorem sm_axV {p q g x : Int} (hp : IR p) (hq : IR q) (hg : IR g) (hx : IR x) : Sm 200 (axV p q g x) := by
 have h1 : IR (minI p q) := hp.minI hq
 have h2 : IR (maxI p q) := hp.maxI hq
 have h3 : IR (maxI g 0) := hg.maxI (by decide)
 unfold axV gapZ Sm
 unfold IR at *
 split
 ·omega
 ·split <;> omega
theorem sm_d2V {lx ly lz hx hy hz g ex ey ez : Int} (a : IR lx) (b : IR ly) (c : IR lz) (d : IR hx) (e : IR hy) (f : IR hz) (i : IR g) (j : IR ex) (k : IR ey) (l : IR ez) : Sm 402 (d2V lx ly lz hx hy hz g ex ey ez) :=
 (((sm_axV a d i j).mul (sm_axV a d i j)).add ((sm_axV b e i k).mul (sm_axV b e i k))).add (((sm_axV c f i l).mul (sm_axV c f i l)).mono (by decide))
def dAx0 : Dn
 | [.agg [.int px hpx, .int _ _, .int _ _]] =>
  some (none, .c (.int px hpx))
 | _ => none
theorem spAx0 : SpOk Tryd.prog 45 dAx0 := sp_of2 (un := 20) (n := 0) ⟨Tryd.func45, by kernel_rfl, by kernel_rfl⟩ baseW_ok noF_ok fun args p v hd => by
 unfold dAx0 at hd
 split at hd
 ·rename_i px hpx py hpy pz hpz
  cases hd
  refine ⟨[.agg [.int px hpx, .int py hpy, .int pz hpz]], fun _=>rfl,fun _ _=>rfl,fun _ _=>rfl,fun _ => ?_⟩
  conv => whnf
  exact fun _=>rfl
 ·cases hd
def dAx1 : Dn
 | [.agg [.int _ _, .int py hpy, .int _ _]] =>
  some (none, .c (.int py hpy))
 | _ => none
theorem spAx1 : SpOk Tryd.prog 46 dAx1 := sp_of2 (un := 20) (n := 0) ⟨Tryd.func46, by kernel_rfl, by kernel_rfl⟩ baseW_ok noF_ok fun args p v hd => by
 unfold dAx1 at hd
 split at hd
 ·rename_i px hpx py hpy pz hpz
  cases hd
  refine ⟨[.agg [.int px hpx, .int py hpy, .int pz hpz]], fun _=>rfl,fun _ _=>rfl,fun _ _=>rfl,fun _ => ?_⟩
  conv => whnf
  exact fun _=>rfl
 ·cases hd
def dAx2 : Dn
 | [.agg [.int _ _, .int _ _, .int pz hpz]] =>
  some (none, .c (.int pz hpz))
 | _ => none
theorem spAx2 : SpOk Tryd.prog 47 dAx2 := sp_of2 (un := 20) (n := 0) ⟨Tryd.func47, by kernel_rfl, by kernel_rfl⟩ baseW_ok noF_ok fun args p v hd => by
 unfold dAx2 at hd
 split at hd
 ·rename_i px hpx py hpy pz hpz
  cases hd
  refine ⟨[.agg [.int px hpx, .int py hpy, .int pz hpz]], fun _=>rfl,fun _ _=>rfl,fun _ _=>rfl,fun _ => ?_⟩
  conv => whnf
  exact fun _=>rfl
 ·cases hd
def dSqV : Dn
 | [.agg [.wid jz z hz]] =>
  if jz ≤ 40000000 then some (none, .agg [.wid (jz + jz) (z * z) (Sm.mul hz hz)]) else none
 | _ => none
theorem spSqV : SpOk Tryd.prog 23 dSqV := sp_of2 (un := 20) (n := 0) ⟨Tryd.func23, by kernel_rfl, by kernel_rfl⟩ baseW_ok noF_ok fun args p v hd => by
 unfold dSqV at hd
 split at hd
 ·rename_i jz z hz
  split at hd
  ·rename_i hcon
   cases hd
   refine ⟨[.agg [.wid 40000000 z (hz.mono hcon)]], fun _=>rfl,fun _ _=>rfl,fun _ _=>rfl,fun _ => ?_⟩
   conv => whnf
   exact fun _=>rfl
  ·cases hd
 ·cases hd
def dSqR : Dn
 | [.agg [.wid jz z hz]] =>
  if jz ≤ 40000000 then some (none, .agg [.wid (jz + jz) (z * z) (Sm.mul hz hz)]) else none
 | _ => none
theorem spSqR : SpOk Tryd.prog 30 dSqR := sp_of2 (un := 20) (n := 0) ⟨Tryd.func30, by kernel_rfl, by kernel_rfl⟩ baseW_ok noF_ok fun args p v hd => by
 unfold dSqR at hd
 split at hd
 ·rename_i jz z hz
  split at hd
  ·rename_i hcon
   cases hd
   refine ⟨[.agg [.wid 40000000 z (hz.mono hcon)]], fun _=>rfl,fun _ _=>rfl,fun _ _=>rfl,fun _ => ?_⟩
   conv => whnf
   exact fun _=>rfl
  ·cases hd
 ·cases hd
theorem sm_gap {c a b : Int} {j k : Nat} (hc : IR c) (ha : Sm j a) (hb : Sm k b) (hjk : j ≤ 200 ∧ k ≤ 200) : Sm 201 (gapZ c a b) := by
 have h1 : Sm 200 c := (smI hc).mono (by decide)
 have h2 := ha.mono hjk.1
 have h3 := hb.mono hjk.2
 unfold gapZ
 split
 ·exact h2.sub h1
 ·split
  ·exact h1.sub h3
  ·exact (show Sm 201 0 by unfold Sm; decide)
def dGap : Dn
 | [.c (.int c hc), .agg [.wid ja a ha], .agg [.wid jb b hb]] =>
  if hcon : ja ≤ 200 ∧ jb ≤ 200 then some (none, .agg [.wid 201 (gapZ c a b) (sm_gap hc ha hb hcon)]) else none
 | _ => none
theorem spGap : SpOk Tryd.prog 34 dGap := sp_of2 (un := 20) (n := 0) ⟨Tryd.func34, by kernel_rfl, by kernel_rfl⟩ baseW_ok noF_ok fun args p v hd => by
 unfold dGap at hd
 split at hd
 ·rename_i c hc ja a ha jb b hb
  split at hd
  ·rename_i hcon
   cases hd
   refine ⟨[.c (.int c hc), .agg [.wid 200 a (ha.mono hcon.1)], .agg [.wid 200 b (hb.mono hcon.2)]], fun _=>rfl,fun _ _=>rfl,fun _ _=>rfl,fun _ => ?_⟩
   conv => whnf
   refine bcase_intro (fun h1 => ?_) (fun h1 => ?_)
   ·have h1 := sgn_lt.1 (of_decide_eq_true h1)
    conv => whnf
    exact fun ρ => wid1_sv _ _ (gap_lo h1).symm ρ
   ·have h1 := fun h => of_decide_eq_false h1 (sgn_lt.2 h)
    conv => whnf
    refine bcase_intro (fun h2 => ?_) (fun h2 => ?_)
    ·have h2 := sgn_gt.1 (of_decide_eq_true h2)
     conv => whnf
     exact fun ρ => wid1_sv _ _ (gap_hi h1 h2).symm ρ
    ·have h2 := fun h => of_decide_eq_false h2 (sgn_gt.2 h)
     conv => whnf
     exact fun ρ => wid1_sv _ _ (gap_in h1 h2).symm ρ
  ·cases hd
 ·cases hd
def baseW1 : List (FuncId × Dn) := (45, dAx0) :: (46, dAx1) :: (47, dAx2) :: (23, dSqV) :: (30, dSqR) :: (34, dGap) :: baseW
theorem baseW1_ok : AllOk baseW1 := .cons spAx0 <| .cons spAx1 <| .cons spAx2 <| .cons spSqV <| .cons spSqR <| .cons spGap <| baseW_ok
noncomputable def fxW : FuncId → Option Func := lk [(27, Tryd.f27)]
theorem fxW_ok : ∀ f fn, fxW f = some fn → FnOk Tryd.prog f fn := lkF_ok fun x hx => by
 simp only [List.mem_cons, List.not_mem_nil, or_false] at hx
 subst hx
 ·exact ⟨Tryd.func27, by kernel_rfl, by kernel_rfl⟩
def dDist2 : Dn
 | [.agg [.int lx hlx, .int ly hly, .int lz hlz, .int hx hhx, .int hy hhy, .int hz hhz, .int g hg], .agg [.int ex hex, .int ey hey, .int ez hez]] =>
  some (none, .agg [.wid 402 (d2V lx ly lz hx hy hz g ex ey ez) (sm_d2V hlx hly hlz hhx hhy hhz hg hex hey hez)])
 | _ => none
set_option maxHeartbeats 4000000 in
theorem spDist2 : SpOk Tryd.prog 14 dDist2 := sp_of2 (un := 20) (n := 3) ⟨Tryd.func14, by kernel_rfl, by kernel_rfl⟩ baseW1_ok fxW_ok fun args p v hd => by
 unfold dDist2 at hd
 split at hd
 ·rename_i lx hlx ly hly lz hlz hx hhx hy hhy hz hhz g hg ex hex ey hey ez hez
  cases hd
  refine ⟨[.agg [.int lx hlx, .int ly hly, .int lz hlz, .int hx hhx, .int hy hhy, .int hz hhz, .int g hg], .agg [.int ex hex, .int ey hey, .int ez hez]], fun _=>rfl,fun _ _=>rfl,fun _ _=>rfl,fun _ => ?_⟩
  conv => whnf
  refine bcase_intro (fun a0 => ?_) (fun a0 => ?_)
  ·have a0 := sgn_lt.1 (of_decide_eq_true a0)
   conv => whnf
   refine bcase_intro (fun a1 => ?_) (fun a1 => ?_)
   ·have a1 := sgn_lt.1 (of_decide_eq_true a1)
    conv => whnf
    refine bcase_intro (fun a2 => ?_) (fun a2 => ?_)
    ·have a2 := sgn_lt.1 (of_decide_eq_true a2)
     conv => whnf
     exact fun ρ => wid1_sv _ _ (by unfold d2V; rw [show axV lx hx g ex = _ from gap_lo a0, show axV ly hy g ey = _ from gap_lo a1, show axV lz hz g ez = _ from gap_lo a2]; omega) ρ
    ·have a2 := fun h => of_decide_eq_false a2 (sgn_lt.2 h)
     conv => whnf
     refine bcase_intro (fun b2 => ?_) (fun b2 => ?_)
     ·have b2 := sgn_gt.1 (of_decide_eq_true b2)
      conv => whnf
      exact fun ρ => wid1_sv _ _ (by unfold d2V; rw [show axV lx hx g ex = _ from gap_lo a0, show axV ly hy g ey = _ from gap_lo a1, show axV lz hz g ez = _ from gap_hi a2 b2]; omega) ρ
     ·have b2 := fun h => of_decide_eq_false b2 (sgn_gt.2 h)
      conv => whnf
      exact fun ρ => wid1_sv _ _ (by unfold d2V; rw [show axV lx hx g ex = _ from gap_lo a0, show axV ly hy g ey = _ from gap_lo a1, show axV lz hz g ez = _ from gap_in a2 b2]; omega) ρ
   ·have a1 := fun h => of_decide_eq_false a1 (sgn_lt.2 h)
    conv => whnf
    refine bcase_intro (fun b1 => ?_) (fun b1 => ?_)
    ·have b1 := sgn_gt.1 (of_decide_eq_true b1)
     conv => whnf
     refine bcase_intro (fun a2 => ?_) (fun a2 => ?_)
     ·have a2 := sgn_lt.1 (of_decide_eq_true a2)
      conv => whnf
      exact fun ρ => wid1_sv _ _ (by unfold d2V; rw [show axV lx hx g ex = _ from gap_lo a0, show axV ly hy g ey = _ from gap_hi a1 b1, show axV lz hz g ez = _ from gap_lo a2]; omega) ρ
     ·have a2 := fun h => of_decide_eq_false a2 (sgn_lt.2 h)
      conv => whnf
      refine bcase_intro (fun b2 => ?_) (fun b2 => ?_)
      ·have b2 := sgn_gt.1 (of_decide_eq_true b2)
       conv => whnf
       exact fun ρ => wid1_sv _ _ (by unfold d2V; rw [show axV lx hx g ex = _ from gap_lo a0, show axV ly hy g ey = _ from gap_hi a1 b1, show axV lz hz g ez = _ from gap_hi a2 b2]; omega) ρ
      ·have b2 := fun h => of_decide_eq_false b2 (sgn_gt.2 h)
       conv => whnf
       exact fun ρ => wid1_sv _ _ (by unfold d2V; rw [show axV lx hx g ex = _ from gap_lo a0, show axV ly hy g ey = _ from gap_hi a1 b1, show axV lz hz g ez = _ from gap_in a2 b2]; omega) ρ
    ·have b1 := fun h => of_decide_eq_false b1 (sgn_gt.2 h)
     conv => whnf
     refine bcase_intro (fun a2 => ?_) (fun a2 => ?_)
     ·have a2 := sgn_lt.1 (of_decide_eq_true a2)
      conv => whnf
      exact fun ρ => wid1_sv _ _ (by unfold d2V; rw [show axV lx hx g ex = _ from gap_lo a0, show axV ly hy g ey = _ from gap_in a1 b1, show axV lz hz g ez = _ from gap_lo a2]; omega) ρ
     ·have a2 := fun h => of_decide_eq_false a2 (sgn_lt.2 h)
      conv => whnf
      refine bcase_intro (fun b2 => ?_) (fun b2 => ?_)
      ·have b2 := sgn_gt.1 (of_decide_eq_true b2)
       conv => whnf
       exact fun ρ => wid1_sv _ _ (by unfold d2V; rw [show axV lx hx g ex = _ from gap_lo a0, show axV ly hy g ey = _ from gap_in a1 b1, show axV lz hz g ez = _ from gap_hi a2 b2]; omega) ρ
      ·have b2 := fun h => of_decide_eq_false b2 (sgn_gt.2 h)
       conv => whnf
       exact fun ρ => wid1_sv _ _ (by unfold d2V; rw [show axV lx hx g ex = _ from gap_lo a0, show axV ly hy g ey = _ from gap_in a1 b1, show axV lz hz g ez = _ from gap_in a2 b2]; omega) ρ
  ·have a0 := fun h => of_decide_eq_false a0 (sgn_lt.2 h)
   conv => whnf
   refine bcase_intro (fun b0 => ?_) (fun b0 => ?_)
   ·have b0 := sgn_gt.1 (of_decide_eq_true b0)
    conv => whnf
    refine bcase_intro (fun a1 => ?_) (fun a1 => ?_)
    ·have a1 := sgn_lt.1 (of_decide_eq_true a1)
     conv => whnf
     refine bcase_intro (fun a2 => ?_) (fun a2 => ?_)
     ·have a2 := sgn_lt.1 (of_decide_eq_true a2)
      conv => whnf
      exact fun ρ => wid1_sv _ _ (by unfold d2V; rw [show axV lx hx g ex = _ from gap_hi a0 b0, show axV ly hy g ey = _ from gap_lo a1, show axV lz hz g ez = _ from gap_lo a2]; omega) ρ
     ·have a2 := fun h => of_decide_eq_false a2 (sgn_lt.2 h)
      conv => whnf
      refine bcase_intro (fun b2 => ?_) (fun b2 => ?_)
      ·have b2 := sgn_gt.1 (of_decide_eq_true b2)
       conv => whnf
       exact fun ρ => wid1_sv _ _ (by unfold d2V; rw [show axV lx hx g ex = _ from gap_hi a0 b0, show axV ly hy g ey = _ from gap_lo a1, show axV lz hz g ez = _ from gap_hi a2 b2]; omega) ρ
      ·have b2 := fun h => of_decide_eq_false b2 (sgn_gt.2 h)
       conv => whnf
       exact fun ρ => wid1_sv _ _ (by unfold d2V; rw [show axV lx hx g ex = _ from gap_hi a0 b0, show axV ly hy g ey = _ from gap_lo a1, show axV lz hz g ez = _ from gap_in a2 b2]; omega) ρ
    ·have a1 := fun h => of_decide_eq_false a1 (sgn_lt.2 h)
     conv => whnf
     refine bcase_intro (fun b1 => ?_) (fun b1 => ?_)
     ·have b1 := sgn_gt.1 (of_decide_eq_true b1)
      conv => whnf
      refine bcase_intro (fun a2 => ?_) (fun a2 => ?_)
      ·have a2 := sgn_lt.1 (of_decide_eq_true a2)
       conv => whnf
       exact fun ρ => wid1_sv _ _ (by unfold d2V; rw [show axV lx hx g ex = _ from gap_hi a0 b0, show axV ly hy g ey = _ from gap_hi a1 b1, show axV lz hz g ez = _ from gap_lo a2]; omega) ρ
      ·have a2 := fun h => of_decide_eq_false a2 (sgn_lt.2 h)
       conv => whnf
       refine bcase_intro (fun b2 => ?_) (fun b2 => ?_)
       ·have b2 := sgn_gt.1 (of_decide_eq_true b2)
        conv => whnf
        exact fun ρ => wid1_sv _ _ (by unfold d2V; rw [show axV lx hx g ex = _ from gap_hi a0 b0, show axV ly hy g ey = _ from gap_hi a1 b1, show axV lz hz g ez = _ from gap_hi a2 b2]; omega) ρ
       ·have b2 := fun h => of_decide_eq_false b2 (sgn_gt.2 h)
        conv => whnf
        exact fun ρ => wid1_sv _ _ (by unfold d2V; rw [show axV lx hx g ex = _ from gap_hi a0 b0, show axV ly hy g ey = _ from gap_hi a1 b1, show axV lz hz g ez = _ from gap_in a2 b2]; omega) ρ
     ·have b1 := fun h => of_decide_eq_false b1 (sgn_gt.2 h)
      conv => whnf
      refine bcase_intro (fun a2 => ?_) (fun a2 => ?_)
      ·have a2 := sgn_lt.1 (of_decide_eq_true a2)
       conv => whnf
       exact fun ρ => wid1_sv _ _ (by unfold d2V; rw [show axV lx hx g ex = _ from gap_hi a0 b0, show axV ly hy g ey = _ from gap_in a1 b1, show axV lz hz g ez = _ from gap_lo a2]; omega) ρ
      ·have a2 := fun h => of_decide_eq_false a2 (sgn_lt.2 h)
       conv => whnf
       refine bcase_intro (fun b2 => ?_) (fun b2 => ?_)
       ·have b2 := sgn_gt.1 (of_decide_eq_true b2)
        conv => whnf
        exact fun ρ => wid1_sv _ _ (by unfold d2V; rw [show axV lx hx g ex = _ from gap_hi a0 b0, show axV ly hy g ey = _ from gap_in a1 b1, show axV lz hz g ez = _ from gap_hi a2 b2]; omega) ρ
       ·have b2 := fun h => of_decide_eq_false b2 (sgn_gt.2 h)
        conv => whnf
        exact fun ρ => wid1_sv _ _ (by unfold d2V; rw [show axV lx hx g ex = _ from gap_hi a0 b0, show axV ly hy g ey = _ from gap_in a1 b1, show axV lz hz g ez = _ from gap_in a2 b2]; omega) ρ
   ·have b0 := fun h => of_decide_eq_false b0 (sgn_gt.2 h)
    conv => whnf
    refine bcase_intro (fun a1 => ?_) (fun a1 => ?_)
    ·have a1 := sgn_lt.1 (of_decide_eq_true a1)
     conv => whnf
     refine bcase_intro (fun a2 => ?_) (fun a2 => ?_)
     ·have a2 := sgn_lt.1 (of_decide_eq_true a2)
      conv => whnf
      exact fun ρ => wid1_sv _ _ (by unfold d2V; rw [show axV lx hx g ex = _ from gap_in a0 b0, show axV ly hy g ey = _ from gap_lo a1, show axV lz hz g ez = _ from gap_lo a2]; omega) ρ
     ·have a2 := fun h => of_decide_eq_false a2 (sgn_lt.2 h)
      conv => whnf
      refine bcase_intro (fun b2 => ?_) (fun b2 => ?_)
      ·have b2 := sgn_gt.1 (of_decide_eq_true b2)
       conv => whnf
       exact fun ρ => wid1_sv _ _ (by unfold d2V; rw [show axV lx hx g ex = _ from gap_in a0 b0, show axV ly hy g ey = _ from gap_lo a1, show axV lz hz g ez = _ from gap_hi a2 b2]; omega) ρ
      ·have b2 := fun h => of_decide_eq_false b2 (sgn_gt.2 h)
       conv => whnf
       exact fun ρ => wid1_sv _ _ (by unfold d2V; rw [show axV lx hx g ex = _ from gap_in a0 b0, show axV ly hy g ey = _ from gap_lo a1, show axV lz hz g ez = _ from gap_in a2 b2]; omega) ρ
    ·have a1 := fun h => of_decide_eq_false a1 (sgn_lt.2 h)
     conv => whnf
     refine bcase_intro (fun b1 => ?_) (fun b1 => ?_)
     ·have b1 := sgn_gt.1 (of_decide_eq_true b1)
      conv => whnf
      refine bcase_intro (fun a2 => ?_) (fun a2 => ?_)
      ·have a2 := sgn_lt.1 (of_decide_eq_true a2)
       conv => whnf
       exact fun ρ => wid1_sv _ _ (by unfold d2V; rw [show axV lx hx g ex = _ from gap_in a0 b0, show axV ly hy g ey = _ from gap_hi a1 b1, show axV lz hz g ez = _ from gap_lo a2]; omega) ρ
      ·have a2 := fun h => of_decide_eq_false a2 (sgn_lt.2 h)
       conv => whnf
       refine bcase_intro (fun b2 => ?_) (fun b2 => ?_)
       ·have b2 := sgn_gt.1 (of_decide_eq_true b2)
        conv => whnf
        exact fun ρ => wid1_sv _ _ (by unfold d2V; rw [show axV lx hx g ex = _ from gap_in a0 b0, show axV ly hy g ey = _ from gap_hi a1 b1, show axV lz hz g ez = _ from gap_hi a2 b2]; omega) ρ
       ·have b2 := fun h => of_decide_eq_false b2 (sgn_gt.2 h)
        conv => whnf
        exact fun ρ => wid1_sv _ _ (by unfold d2V; rw [show axV lx hx g ex = _ from gap_in a0 b0, show axV ly hy g ey = _ from gap_hi a1 b1, show axV lz hz g ez = _ from gap_in a2 b2]; omega) ρ
     ·have b1 := fun h => of_decide_eq_false b1 (sgn_gt.2 h)
      conv => whnf
      refine bcase_intro (fun a2 => ?_) (fun a2 => ?_)
      ·have a2 := sgn_lt.1 (of_decide_eq_true a2)
       conv => whnf
       exact fun ρ => wid1_sv _ _ (by unfold d2V; rw [show axV lx hx g ex = _ from gap_in a0 b0, show axV ly hy g ey = _ from gap_in a1 b1, show axV lz hz g ez = _ from gap_lo a2]; omega) ρ
      ·have a2 := fun h => of_decide_eq_false a2 (sgn_lt.2 h)
       conv => whnf
       refine bcase_intro (fun b2 => ?_) (fun b2 => ?_)
       ·have b2 := sgn_gt.1 (of_decide_eq_true b2)
        conv => whnf
        exact fun ρ => wid1_sv _ _ (by unfold d2V; rw [show axV lx hx g ex = _ from gap_in a0 b0, show axV ly hy g ey = _ from gap_in a1 b1, show axV lz hz g ez = _ from gap_hi a2 b2]; omega) ρ
       ·have b2 := fun h => of_decide_eq_false b2 (sgn_gt.2 h)
        conv => whnf
        exact fun ρ => wid1_sv _ _ (by unfold d2V; rw [show axV lx hx g ex = _ from gap_in a0 b0, show axV ly hy g ey = _ from gap_in a1 b1, show axV lz hz g ez = _ from gap_in a2 b2]; omega) ρ
 ·cases hd
def dDist24 : Dn
 | [.agg [.int ex hex, .int ey hey, .int ez hez, .int _ _, .int _ _], .agg [.int lx hlx, .int ly hly, .int lz hlz], .agg [.int hx hhx, .int hy hhy, .int hz hhz], .c (.int g hg)] =>
  some (none, .agg [.wid 402 (d2V lx ly lz hx hy hz g ex ey ez) (sm_d2V hlx hly hlz hhx hhy hhz hg hex hey hez)])
 | _ => none
set_option maxHeartbeats 4000000 in
theorem spDist24 : SpOk Tryd.prog 16 dDist24 := sp_of2 (un := 20) (n := 0) ⟨Tryd.func16, by kernel_rfl, by kernel_rfl⟩ baseW1_ok noF_ok fun args p v hd => by
 unfold dDist24 at hd
 split at hd
 ·rename_i ex hex ey hey ez hez f hf q hq lx hlx ly hly lz hlz hx hhx hy hhy hz hhz g hg
  cases hd
  refine ⟨[.agg [.int ex hex, .int ey hey, .int ez hez, .int f hf, .int q hq], .agg [.int lx hlx, .int ly hly, .int lz hlz], .agg [.int hx hhx, .int hy hhy, .int hz hhz], .c (.int g hg)], fun _=>rfl,fun _ _=>rfl,fun _ _=>rfl,fun _ => ?_⟩
  conv => whnf
  exact fun ρ => wid1_sv _ _ (by unfold d2V axV; omega) ρ
 ·cases hd
def baseW2 : List (FuncId × Dn) := (14, dDist2) :: (16, dDist24) :: baseW1
theorem baseW2_ok : AllOk baseW2 := .cons spDist2 <| .cons spDist24 <| baseW1_ok
def dWthV : Dn
 | [.agg [.int _ _, .int _ _, .int _ _, .int f _, .int p _], .agg [.wid jd d _], .c (.int err _)] =>
  if jd ≤ 500 then some (none, .c (.val (.bool (wthB f p d err)))) else none
 | _ => none
set_option maxHeartbeats 4000000 in
theorem spWthV : SpOk Tryd.prog 13 dWthV := sp_of2 (un := 20) (n := 0) ⟨Tryd.func13, by kernel_rfl, by kernel_rfl⟩ baseW2_ok noF_ok fun args p v hd => by
 unfold dWthV at hd
 split at hd
 ·rename_i ex hex ey hey ez hez f hf p hp jd d hd err herr
  split at hd
  ·rename_i hcon
   cases hd
   refine ⟨[.agg [.int ex hex, .int ey hey, .int ez hez, .int f hf, .int p hp], .agg [.wid 500 d (hd.mono hcon)], .c (.int err herr)], fun _=>rfl,fun _ _=>rfl,fun _ _=>rfl,fun _ => ?_⟩
   conv => whnf
   refine bcase_intro (fun h1 => ?_) (fun h1 => ?_)
   ·have h1 : decide (err ≤ 0) = true := h1
    conv => whnf
    exact fun ρ => sbool_e (by unfold wthB; rw [h1]; rfl) ρ
   ·have h1 : decide (err ≤ 0) = false := h1
    conv => whnf
    refine bcase_intro (fun h2 => ?_) (fun h2 => ?_)
    ·have h2 : decide (f ≤ 0) = true := h2
     conv => whnf
     exact fun ρ => sbool_e (by unfold wthB; rw [h1, h2]; rfl) ρ
    ·have h2 : decide (f ≤ 0) = false := h2
     conv => whnf
     refine bcase_intro (fun h3 => ?_) (fun h3 => ?_)
     ·have h3 : decide (p < 0) = true := h3
      conv => whnf
      exact fun ρ => sbool_e (by unfold wthB; rw [h1, h2, h3]; rfl) ρ
     ·have h3 : decide (p < 0) = false := h3
      conv => whnf
      exact fun ρ => sbool_e (by unfold wthB; rw [h1, h2, h3]; exact decide_eq_decide.2 sgn_le) ρ
  ·cases hd
 ·cases hd
def dWthR : Dn
 | [.agg [.int _ _, .int _ _, .int _ _, .int f _, .int p _], .agg [.wid jd d _], .c (.int err _)] =>
  if jd ≤ 500 then some (none, .c (.val (.bool (wthB f p d err)))) else none
 | _ => none
set_option maxHeartbeats 4000000 in
theorem spWthR : SpOk Tryd.prog 15 dWthR := sp_of2 (un := 20) (n := 0) ⟨Tryd.func15, by kernel_rfl, by kernel_rfl⟩ baseW2_ok noF_ok fun args p v hd => by
 unfold dWthR at hd
 split at hd
 ·rename_i ex hex ey hey ez hez f hf p hp jd d hd err herr
  split at hd
  ·rename_i hcon
   cases hd
   refine ⟨[.agg [.int ex hex, .int ey hey, .int ez hez, .int f hf, .int p hp], .agg [.wid 500 d (hd.mono hcon)], .c (.int err herr)], fun _=>rfl,fun _ _=>rfl,fun _ _=>rfl,fun _ => ?_⟩
   conv => whnf
   refine bcase_intro (fun h1 => ?_) (fun h1 => ?_)
   ·have h1 : decide (err ≤ 0) = true := h1
    conv => whnf
    exact fun ρ => sbool_e (by unfold wthB; rw [h1]; rfl) ρ
   ·have h1 : decide (err ≤ 0) = false := h1
    conv => whnf
    refine bcase_intro (fun h2 => ?_) (fun h2 => ?_)
    ·have h2 : decide (f ≤ 0) = true := h2
     conv => whnf
     exact fun ρ => sbool_e (by unfold wthB; rw [h1, h2]; rfl) ρ
    ·have h2 : decide (f ≤ 0) = false := h2
     conv => whnf
     refine bcase_intro (fun h3 => ?_) (fun h3 => ?_)
     ·have h3 : decide (p < 0) = true := h3
      conv => whnf
      exact fun ρ => sbool_e (by unfold wthB; rw [h1, h2, h3]; rfl) ρ
     ·have h3 : decide (p < 0) = false := h3
      conv => whnf
      exact fun ρ => sbool_e (by unfold wthB; rw [h1, h2, h3]; exact decide_eq_decide.2 sgn_le) ρ
  ·cases hd
 ·cases hd
def baseW3 : List (FuncId × Dn) := (13, dWthV) :: (15, dWthR) :: baseW2
theorem baseW3_ok : AllOk baseW3 := .cons spWthV <| .cons spWthR <| baseW2_ok
def dFitV : Dn
 | [.agg [.int ex _, .int ey _, .int ez _, .int f _, .int p _], .agg [.int lx _, .int ly _, .int lz _], .agg [.int hx _, .int hy _, .int hz _], .c (.int err _)] =>
  some (none, .c (.val (.bool (wthB f p (d2V lx ly lz hx hy hz 0 ex ey ez) err))))
 | _ => none
set_option maxHeartbeats 4000000 in
theorem spFitV : SpOk Tryd.prog 7 dFitV := sp_of2 (un := 20) (n := 0) ⟨Tryd.func7, by kernel_rfl, by kernel_rfl⟩ baseW3_ok noF_ok fun args p v hd => by
 unfold dFitV at hd
 split at hd
 ·rename_i ex hex ey hey ez hez f hf p hp lx hlx ly hly lz hlz hx hhx hy hhy hz hhz err herr
  cases hd
  refine ⟨[.agg [.int ex hex, .int ey hey, .int ez hez, .int f hf, .int p hp], .agg [.int lx hlx, .int ly hly, .int lz hlz], .agg [.int hx hhx, .int hy hhy, .int hz hhz], .c (.int err herr)], fun _=>rfl,fun _ _=>rfl,fun _ _=>rfl,fun _ => ?_⟩
  conv => whnf
  exact fun _=>rfl
 ·cases hd
def dFitR : Dn
 | [.agg [.int ex _, .int ey _, .int ez _, .int f _, .int p _], .agg [.int lx _, .int ly _, .int lz _], .agg [.int hx _, .int hy _, .int hz _], .c (.int err _)] =>
  some (none, .c (.val (.bool (wthB f p (d2V lx ly lz hx hy hz 0 ex ey ez) err))))
 | _ => none
set_option maxHeartbeats 4000000 in
theorem spFitR : SpOk Tryd.prog 8 dFitR := sp_of2 (un := 20) (n := 0) ⟨Tryd.func8, by kernel_rfl, by kernel_rfl⟩ baseW3_ok noF_ok fun args p v hd => by
 unfold dFitR at hd
 split at hd
 ·rename_i ex hex ey hey ez hez f hf p hp lx hlx ly hly lz hlz hx hhx hy hhy hz hhz err herr
  cases hd
  refine ⟨[.agg [.int ex hex, .int ey hey, .int ez hez, .int f hf, .int p hp], .agg [.int lx hlx, .int ly hly, .int lz hlz], .agg [.int hx hhx, .int hy hhy, .int hz hhz], .c (.int err herr)], fun _=>rfl,fun _ _=>rfl,fun _ _=>rfl,fun _ => ?_⟩
  conv => whnf
  exact fun _=>rfl
 ·cases hd
def dView24 : Dn
 | [.agg [.int q0 hq0, .int q1 hq1, .int q2 hq2, .int q3 hq3, .int q4 hq4]] =>
  some (none, .agg [.int (q0.tmod 524288) (hq0.tmod _), .int (q1.tmod 524288) (hq1.tmod _), .int (q2.tmod 524288) (hq2.tmod _), .int (q3.tmod 5000) (hq3.tmod _), .int (q4.tmod 50) (hq4.tmod _)])
 | _ => none
theorem spView24 : SpOk Tryd.prog 9 dView24 := sp_of2 (un := 20) (n := 0) ⟨Tryd.func9, by kernel_rfl, by kernel_rfl⟩ baseW3_ok noF_ok fun args p v hd => by
 unfold dView24 at hd
 split at hd
 ·rename_i q0 hq0 q1 hq1 q2 hq2 q3 hq3 q4 hq4
  cases hd
  refine ⟨[.agg [.int q0 hq0, .int q1 hq1, .int q2 hq2, .int q3 hq3, .int q4 hq4]], fun _=>rfl,fun _ _=>rfl,fun _ _=>rfl,fun _ => ?_⟩
  conv => whnf
  exact fun _=>rfl
 ·cases hd
def dBox24 : Dn
 | [] =>
  some (none, .tup [.agg [.int 50 (by decide), .int 0 (by decide), .int 0 (by decide)], .agg [.int 60 (by decide), .int 10 (by decide), .int 10 (by decide)]])
 | _ => none
theorem spBox24 : SpOk Tryd.prog 10 dBox24 := sp_of2 (un := 20) (n := 0) ⟨Tryd.func10, by kernel_rfl, by kernel_rfl⟩ baseW3_ok noF_ok fun args p v hd => by
 unfold dBox24 at hd
 split at hd
 ·cases hd
  refine ⟨[], fun _=>rfl,fun _ _=>rfl,fun _ _=>rfl,fun _ => ?_⟩
  conv => whnf
  exact fun _=>rfl
 ·cases hd
def baseW4 : List (FuncId × Dn) := (7, dFitV) :: (8, dFitR) :: (9, dView24) :: (10, dBox24) :: baseW3
theorem baseW4_ok : AllOk baseW4 := .cons spFitV <| .cons spFitR <| .cons spView24 <| .cons spBox24 <| baseW3_ok
end Go.Proofs.YthmdmbpecgakkaaDoor
