/- Rays: plain definitions. Numbers as arguments, canonical alone; vectors of ray, by the reckoner. bits.Len64, off the kit's shelf, for the reckoner. Flat triangles and normals, by the reckoner. Signs of products, flat triangles, normals, by the reckoner. ray.Cross, by the reckoner: its parts. -/
import Derived.Test.YtocbklodkcdhkaaGreatDoorNac
import Derived.Test.YtocbklodkcdhkaaGreatDoorBas
import Derived.Test.YtocbklodkcdhkaaGreatDoorIab
import Derived.Shelf.Lay
import Derived.Shelf.Strconv.Itoa0
namespace Go.Proofs.YtocbklodkcdhkaaGreatDoor
open Go.RowKit
set_option maxRecDepth 100000

def sgL : List Int → Int
 | [] => 0
 | x :: l => if x.sign = 0 then sgL l else x.sign
theorem ir_sgL : ∀ l : List Int, IR (sgL l)
 | [] => by decide
 | x :: l => by unfold sgL; split; exact ir_sgL l; exact ir_sign x
theorem sgL_z {x : Int} {l : List Int} (h : x.sign = 0) : sgL (x :: l) = sgL l := by
 conv => lhs; unfold sgL
 rw [if_pos h]
theorem sgL_n {x : Int} {l : List Int} (h : x.sign ≠ 0) : sgL (x :: l) = x.sign := by
 conv => lhs; unfold sgL
 rw [if_neg h]
structure V3 where
 x : Int
 y : Int
 z : Int
def V3.sub (a b : V3) : V3 := ⟨a.x - b.x, a.y - b.y, a.z - b.z⟩
def V3.dot (a b : V3) : Int := a.x * b.x + a.y * b.y + a.z * b.z
def V3.cross (a b : V3) : V3 := ⟨a.y * b.z - a.z * b.y, a.z * b.x - a.x * b.z, a.x * b.y - a.y * b.x⟩
def sgV (n : Int) (v : V3) : Int := sgL [n, v.x, v.y, v.z]
def sideZ (d a b : V3) : Int := sgV (d.dot (a.cross b)) (d.cross (b.sub a))
def passZ (d a b c : V3) : Bool := decide (sideZ d a b ≠ 0) && (decide (sideZ d b c = sideZ d a b) && decide (sideZ d c a = sideZ d a b))
structure RZ where
 x : Int
 y : Int
 z : Int
 w : Int
 d : V3
def RZ.at (r : RZ) (p : V3) : V3 := ⟨p.x * r.w - r.x, p.y * r.w - r.y, p.z * r.w - r.z⟩
def normZ (p q s : V3) : V3 := (q.sub p).cross (s.sub p)
def V3.isZ (v : V3) : Bool := decide (v.x = 0) && (decide (v.y = 0) && decide (v.z = 0))
def permZ (r : RZ) : Bool := decide (0 < r.w) && !r.d.isZ
def highZ (r : RZ) (p q s : V3) : Int := (normZ p q s).dot (r.at p)
def slopeZ (r : RZ) (p q s : V3) : Int := (normZ p q s).dot r.d
def V3.neg (v : V3) : V3 := ⟨0 - v.x, 0 - v.y, 0 - v.z⟩
def crossB (r : RZ) (p q s : V3) : Bool := permZ r && (!(normZ p q s).isZ && (passZ r.d (r.at p) (r.at q) (r.at s) && decide (sgV (highZ r p q s) (normZ p q s).neg = (slopeZ r p q s).sign)))
def crossN (r : RZ) (p q s : V3) : Int := if crossB r p q s then fracN (highZ r p q s) (r.w * slopeZ r p q s) else 0
def crossD (r : RZ) (p q s : V3) : Int := if crossB r p q s then fracD (highZ r p q s) (r.w * slopeZ r p q s) else 1
theorem sgL_zero : ∀ {l : List Int}, sgL l = 0 → ∀ x ∈ l, x = 0
 | [], _, x, hx => by cases hx
 | y :: l, h, x, hx => by
  unfold sgL at h
  split at h
  ·rename_i hy
   rcases List.mem_cons.1 hx with rfl | hx
   ·exact Int.sign_eq_zero_iff_zero.1 hy
   ·exact sgL_zero h x hx
  ·rename_i hy; exact absurd h hy
end Go.Proofs.YtocbklodkcdhkaaGreatDoor

namespace Go.Proofs.YtocbklodkcdhkaaGreatDoor
open Go.RowKit
set_option maxRecDepth 100000

def num1w (cap : Nat) (g : NA → SV) : Dn
 | [.agg [.wid k z h]] => if k ≤ cap then some (none, g ⟨k, z, h⟩) else none
 | _ => none
theorem spn1w {f : FuncId} {cap : Nat} {g : NA → SV} (h : SpOk Tryz.prog f (num1c cap g)) : SpOk Tryz.prog f (num1w cap g) := ⟨h.1, fun args p v hd => by
 unfold num1w at hd
 split at hd
 ·rename_i k z hz
  split at hd
  ·rename_i hk
   cases hd
   have := h.2 _ _ _ (show num1c cap g [.agg [.wid k z hz]] = some (some (k ≤ cap), g ⟨k, z, hz⟩) from rfl)
   exact ⟨this.1, fun _ => this.2 (fun q hq => by cases hq; exact hk)⟩
  ·cases hd
 ·cases hd⟩
def num2w (cap : Nat) (g : NA → NA → SV) : Dn
 | [.agg [.wid k z h], .agg [.wid j y h1]] => if k ≤ cap ∧ j ≤ cap then some (none, g ⟨k, z, h⟩ ⟨j, y, h1⟩) else none
 | _ => none
theorem spn2w {f : FuncId} {cap : Nat} {g : NA → NA → SV} (h : SpOk Tryz.prog f (num2c cap g)) : SpOk Tryz.prog f (num2w cap g) := ⟨h.1, fun args p v hd => by
 unfold num2w at hd
 split at hd
 ·rename_i k z hz j y hy
  split at hd
  ·rename_i hk
   cases hd
   have := h.2 _ _ _ (show num2c cap g [.agg [.wid k z hz], .agg [.wid j y hy]] = some (some (k ≤ cap ∧ j ≤ cap), g ⟨k, z, hz⟩ ⟨j, y, hy⟩) from rfl)
   exact ⟨this.1, fun _ => this.2 (fun q hq => by cases hq; exact hk)⟩
  ·cases hd
 ·cases hd⟩
def fa4 (k j : Nat) (z y : Int) (h : Sm k z) (h1 : Sm j y) : FA := ⟨k, j + 1, pN z y, pD y, sm_pN h y, sm_pD h1⟩
def fra2w (cap : Nat) (g : FA → FA → SV) : Dn
 | [.agg [.wid k z h, .wid j y h1], .agg [.wid k2 z2 h2, .wid j2 y2 h3]] => if (k ≤ cap ∧ j + 1 ≤ cap) ∧ k2 ≤ cap ∧ j2 + 1 ≤ cap then some (none, g (fa4 k j z y h h1) (fa4 k2 j2 z2 y2 h2 h3)) else none
 | _ => none
theorem spf2w {f : FuncId} {cap : Nat} {g : FA → FA → SV} (h : SpOk Tryz.prog f (fra2c cap g)) : SpOk Tryz.prog f (fra2w cap g) := ⟨h.1, fun args p v hd => by
 unfold fra2w at hd
 split at hd
 ·rename_i k z hz j y hy k2 z2 hz2 j2 y2 hy2
  split at hd
  ·rename_i hk
   cases hd
   have := h.2 _ _ _ (show fra2c cap g [.agg [.wid k z hz, .wid j y hy], .agg [.wid k2 z2 hz2, .wid j2 y2 hy2]] = some (some ((k ≤ cap ∧ j + 1 ≤ cap) ∧ k2 ≤ cap ∧ j2 + 1 ≤ cap), g (fa4 k j z y hz hy) (fa4 k2 j2 z2 y2 hz2 hy2)) from rfl)
   exact ⟨this.1, fun _ => this.2 (fun q hq => by cases hq; exact hk)⟩
  ·cases hd
 ·cases hd⟩
def signV (X : NA) : SV := .c (.int X.z.sign (ir_sign _))
def cmpV (X Y : NA) : SV := .c (.int (X.z - Y.z).sign (ir_sign _))
def dSignY : Dn := num1w 80000000 signV
def dCmpY : Dn := num2w 80000000 cmpV
def dFracY : Dn := num2w 10000000 fracV
def dCmpFY : Dn := fra2w 2000000 cmpFV
def baseY : List (FuncId × Dn) := (29, dSignY) :: (28, dCmpY) :: (53, dFracY) :: (32, dCmpFY) :: (55, dSignY) :: (33, dFracY) :: base1
theorem baseY_ok : AllOk baseY := .cons (spn1w spSignA) <| .cons (spn2w spCmpA) <| .cons (spn2w spFracA) <| .cons (spf2w spCmpFrac) <| .cons (spn1w spRSignA) <| .cons (spn2w spRFracA) <| base1_ok
theorem sint_e {a b : Int} {ha : IR a} {hb : IR b} (e : a = b) (ρ : Rho) : (SV.c (.int a ha)).den ρ = (SV.c (.int b hb)).den ρ := by subst e; rfl
theorem sbool_e {a b : Bool} (e : a = b) (ρ : Rho) : (SV.c (.val (.bool a))).den ρ = (SV.c (.val (.bool b))).den ρ := by subst e; rfl
theorem wid1_sv {k j : Nat} {z y : Int} (h : Sm k z) (h' : Sm j y) (e : z = y) (ρ : Rho) : (SV.agg [.wid k z h]).den ρ = (SV.agg [.wid j y h']).den ρ := by subst e; rfl
theorem sg1 {x : Int} {l : List Int} (h : (!decide (x.sign = 0)) = true) : sgL (x :: l) = x.sign := sgL_n (of_decide_eq_false (by simpa using h))
theorem sg0 {x : Int} {l : List Int} (h : (!decide (x.sign = 0)) = false) : sgL (x :: l) = sgL l := sgL_z (of_decide_eq_true (by simpa using h))
def dROf : Dn
 | [.c (.int x hx), .c (.int y hy), .c (.int z hz)] =>
  some (none, .agg [.wid 64 (x) (smI hx), .wid 64 (y) (smI hy), .wid 64 (z) (smI hz)])
 | _ => none
theorem spROf : SpOk Tryz.prog 23 dROf := sp_of2 (un := 20) (n := 0) ⟨Tryz.func23, by kernel_rfl, by kernel_rfl⟩ baseY_ok noF_ok fun args p v hd => by
 unfold dROf at hd
 split at hd
 ·rename_i x hx y hy z hz
  cases hd
  refine ⟨[.c (.int x hx), .c (.int y hy), .c (.int z hz)], fun _=>rfl,fun _ _=>rfl,fun _ _=>rfl,fun _ => ?_⟩
  conv => whnf
  exact fun _=>rfl
 ·cases hd
def baseY1 : List (FuncId × Dn) := (23, dROf) :: baseY
theorem baseY1_ok : AllOk baseY1 := .cons spROf <| baseY_ok
def dRPt : Dn
 | [.agg [.int x hx, .int y hy, .int z hz]] =>
  some (none, .agg [.wid 64 (x) (smI hx), .wid 64 (y) (smI hy), .wid 64 (z) (smI hz)])
 | _ => none
theorem spRPt : SpOk Tryz.prog 25 dRPt := sp_of2 (un := 20) (n := 0) ⟨Tryz.func25, by kernel_rfl, by kernel_rfl⟩ baseY1_ok noF_ok fun args p v hd => by
 unfold dRPt at hd
 split at hd
 ·rename_i x hx y hy z hz
  cases hd
  refine ⟨[.agg [.int x hx, .int y hy, .int z hz]], fun _=>rfl,fun _ _=>rfl,fun _ _=>rfl,fun _ => ?_⟩
  conv => whnf
  exact fun _=>rfl
 ·cases hd
def dRMinus : Dn
 | [.agg [.wid ju0 u0 hu0, .wid ju1 u1 hu1, .wid ju2 u2 hu2], .agg [.wid jv0 v0 hv0, .wid jv1 v1 hv1, .wid jv2 v2 hv2]] =>
  if ju0 ≤ 1000000 ∧ ju1 ≤ 1000000 ∧ ju2 ≤ 1000000 ∧ jv0 ≤ 1000000 ∧ jv1 ≤ 1000000 ∧ jv2 ≤ 1000000 then some (none, .agg [.wid (ju0 + jv0 + 1) ((V3.sub ⟨u0, u1, u2⟩ ⟨v0, v1, v2⟩ : V3).x) (sm_subj hu0 hv0), .wid (ju1 + jv1 + 1) ((V3.sub ⟨u0, u1, u2⟩ ⟨v0, v1, v2⟩ : V3).y) (sm_subj hu1 hv1), .wid (ju2 + jv2 + 1) ((V3.sub ⟨u0, u1, u2⟩ ⟨v0, v1, v2⟩ : V3).z) (sm_subj hu2 hv2)]) else none
 | _ => none
theorem spRMinus : SpOk Tryz.prog 27 dRMinus := sp_of2 (un := 20) (n := 0) ⟨Tryz.func27, by kernel_rfl, by kernel_rfl⟩ baseY1_ok noF_ok fun args p v hd => by
 unfold dRMinus at hd
 split at hd
 ·rename_i ju0 u0 hu0 ju1 u1 hu1 ju2 u2 hu2 jv0 v0 hv0 jv1 v1 hv1 jv2 v2 hv2
  split at hd
  ·rename_i hcon
   cases hd
   refine ⟨[.agg [.wid 1000000 u0 (hu0.mono hcon.1), .wid 1000000 u1 (hu1.mono hcon.2.1), .wid 1000000 u2 (hu2.mono hcon.2.2.1)], .agg [.wid 1000000 v0 (hv0.mono hcon.2.2.2.1), .wid 1000000 v1 (hv1.mono hcon.2.2.2.2.1), .wid 1000000 v2 (hv2.mono hcon.2.2.2.2.2)]], fun _=>rfl,fun _ _=>rfl,fun _ _=>rfl,fun _ => ?_⟩
   conv => whnf
   exact fun _=>rfl
  ·cases hd
 ·cases hd
def dRTimes : Dn
 | [.agg [.wid ju0 u0 hu0, .wid ju1 u1 hu1, .wid ju2 u2 hu2], .agg [.wid jn n hn]] =>
  if ju0 ≤ 1000000 ∧ ju1 ≤ 1000000 ∧ ju2 ≤ 1000000 ∧ jn ≤ 1000000 then some (none, .agg [.wid (ju0 + jn) (u0 * n) (Sm.mul hu0 hn), .wid (ju1 + jn) (u1 * n) (Sm.mul hu1 hn), .wid (ju2 + jn) (u2 * n) (Sm.mul hu2 hn)]) else none
 | _ => none
theorem spRTimes : SpOk Tryz.prog 26 dRTimes := sp_of2 (un := 20) (n := 0) ⟨Tryz.func26, by kernel_rfl, by kernel_rfl⟩ baseY1_ok noF_ok fun args p v hd => by
 unfold dRTimes at hd
 split at hd
 ·rename_i ju0 u0 hu0 ju1 u1 hu1 ju2 u2 hu2 jn n hn
  split at hd
  ·rename_i hcon
   cases hd
   refine ⟨[.agg [.wid 1000000 u0 (hu0.mono hcon.1), .wid 1000000 u1 (hu1.mono hcon.2.1), .wid 1000000 u2 (hu2.mono hcon.2.2.1)], .agg [.wid 1000000 n (hn.mono hcon.2.2.2)]], fun _=>rfl,fun _ _=>rfl,fun _ _=>rfl,fun _ => ?_⟩
   conv => whnf
   exact fun _=>rfl
  ·cases hd
 ·cases hd
theorem sm_dot {k0 k1 k2 j0 j1 j2 : Nat} {u0 u1 u2 v0 v1 v2 : Int} (h0 : Sm k0 u0) (h1 : Sm k1 u1) (h2 : Sm k2 u2) (i0 : Sm j0 v0) (i1 : Sm j1 v1) (i2 : Sm j2 v2) : Sm (k0 + j0 + (k1 + j1) + 1 + (k2 + j2) + 1) (V3.dot ⟨u0, u1, u2⟩ ⟨v0, v1, v2⟩) :=
 sm_addj (sm_addj (h0.mul i0) (h1.mul i1)) (h2.mul i2)
theorem dot_zero (u0 u1 u2 v0 v1 v2 : Int) : 0 + u0 * v0 + u1 * v1 + u2 * v2 = V3.dot ⟨u0, u1, u2⟩ ⟨v0, v1, v2⟩ := by rw [Int.zero_add]; rfl
def dRDot : Dn
 | [.agg [.wid ju0 u0 hu0, .wid ju1 u1 hu1, .wid ju2 u2 hu2], .agg [.wid jv0 v0 hv0, .wid jv1 v1 hv1, .wid jv2 v2 hv2]] =>
  if ju0 ≤ 1000000 ∧ ju1 ≤ 1000000 ∧ ju2 ≤ 1000000 ∧ jv0 ≤ 1000000 ∧ jv1 ≤ 1000000 ∧ jv2 ≤ 1000000 then some (none, .agg [.wid (ju0 + jv0 + (ju1 + jv1) + 1 + (ju2 + jv2) + 1) (V3.dot ⟨u0, u1, u2⟩ ⟨v0, v1, v2⟩) (sm_dot hu0 hu1 hu2 hv0 hv1 hv2)]) else none
 | _ => none
theorem spRDot : SpOk Tryz.prog 46 dRDot := sp_of2 (un := 20) (n := 0) ⟨Tryz.func46, by kernel_rfl, by kernel_rfl⟩ baseY1_ok noF_ok fun args p v hd => by
 unfold dRDot at hd
 split at hd
 ·rename_i ju0 u0 hu0 ju1 u1 hu1 ju2 u2 hu2 jv0 v0 hv0 jv1 v1 hv1 jv2 v2 hv2
  split at hd
  ·rename_i hcon
   cases hd
   refine ⟨[.agg [.wid 1000000 u0 (hu0.mono hcon.1), .wid 1000000 u1 (hu1.mono hcon.2.1), .wid 1000000 u2 (hu2.mono hcon.2.2.1)], .agg [.wid 1000000 v0 (hv0.mono hcon.2.2.2.1), .wid 1000000 v1 (hv1.mono hcon.2.2.2.2.1), .wid 1000000 v2 (hv2.mono hcon.2.2.2.2.2)]], fun _=>rfl,fun _ _=>rfl,fun _ _=>rfl,fun _ => ?_⟩
   conv => whnf
   exact fun ρ => wid1_sv _ _ (dot_zero ..) ρ
  ·cases hd
 ·cases hd
def dRCross : Dn
 | [.agg [.wid ju0 u0 hu0, .wid ju1 u1 hu1, .wid ju2 u2 hu2], .agg [.wid jv0 v0 hv0, .wid jv1 v1 hv1, .wid jv2 v2 hv2]] =>
  if ju0 ≤ 1000000 ∧ ju1 ≤ 1000000 ∧ ju2 ≤ 1000000 ∧ jv0 ≤ 1000000 ∧ jv1 ≤ 1000000 ∧ jv2 ≤ 1000000 then some (none, .agg [.wid ((ju1 + jv2) + (ju2 + jv1) + 1) ((V3.cross ⟨u0, u1, u2⟩ ⟨v0, v1, v2⟩ : V3).x) (sm_subj (Sm.mul hu1 hv2) (Sm.mul hu2 hv1)), .wid ((ju2 + jv0) + (ju0 + jv2) + 1) ((V3.cross ⟨u0, u1, u2⟩ ⟨v0, v1, v2⟩ : V3).y) (sm_subj (Sm.mul hu2 hv0) (Sm.mul hu0 hv2)), .wid ((ju0 + jv1) + (ju1 + jv0) + 1) ((V3.cross ⟨u0, u1, u2⟩ ⟨v0, v1, v2⟩ : V3).z) (sm_subj (Sm.mul hu0 hv1) (Sm.mul hu1 hv0))]) else none
 | _ => none
theorem spRCross : SpOk Tryz.prog 64 dRCross := sp_of2 (un := 20) (n := 0) ⟨Tryz.func64, by kernel_rfl, by kernel_rfl⟩ baseY1_ok noF_ok fun args p v hd => by
 unfold dRCross at hd
 split at hd
 ·rename_i ju0 u0 hu0 ju1 u1 hu1 ju2 u2 hu2 jv0 v0 hv0 jv1 v1 hv1 jv2 v2 hv2
  split at hd
  ·rename_i hcon
   cases hd
   refine ⟨[.agg [.wid 1000000 u0 (hu0.mono hcon.1), .wid 1000000 u1 (hu1.mono hcon.2.1), .wid 1000000 u2 (hu2.mono hcon.2.2.1)], .agg [.wid 1000000 v0 (hv0.mono hcon.2.2.2.1), .wid 1000000 v1 (hv1.mono hcon.2.2.2.2.1), .wid 1000000 v2 (hv2.mono hcon.2.2.2.2.2)]], fun _=>rfl,fun _ _=>rfl,fun _ _=>rfl,fun _ => ?_⟩
   conv => whnf
   exact fun _=>rfl
  ·cases hd
 ·cases hd
def baseY2 : List (FuncId × Dn) := (25, dRPt) :: (27, dRMinus) :: (26, dRTimes) :: (46, dRDot) :: (64, dRCross) :: baseY1
theorem baseY2_ok : AllOk baseY2 := .cons spRPt <| .cons spRMinus <| .cons spRTimes <| .cons spRDot <| .cons spRCross <| baseY1_ok
noncomputable def fxSg : FuncId → Option Func := lk [(48, Tryz.f48)]
theorem fxSg_ok : ∀ f fn, fxSg f = some fn → FnOk Tryz.prog f fn := lkF_ok fun x hx => by
 simp only [List.mem_cons, List.not_mem_nil, or_false] at hx
 subst hx
 ·exact ⟨Tryz.func48, by kernel_rfl, by kernel_rfl⟩
def dRSigns : Dn
 | [.agg [.wid jn n _], .agg [.wid jv0 v0 _, .wid jv1 v1 _, .wid jv2 v2 _]] =>
  if jn ≤ 10000000 ∧ jv0 ≤ 10000000 ∧ jv1 ≤ 10000000 ∧ jv2 ≤ 10000000 then some (none, .c (.int (sgV n ⟨v0, v1, v2⟩) (ir_sgL _))) else none
 | _ => none
theorem spRSigns : SpOk Tryz.prog 47 dRSigns := sp_of2 (un := 20) (n := 3) ⟨Tryz.func47, by kernel_rfl, by kernel_rfl⟩ baseY2_ok fxSg_ok fun args p v hd => by
 unfold dRSigns at hd
 split at hd
 ·rename_i jn n hn jv0 v0 hv0 jv1 v1 hv1 jv2 v2 hv2
  split at hd
  ·rename_i hcon
   cases hd
   refine ⟨[.agg [.wid 10000000 n (hn.mono hcon.1)], .agg [.wid 10000000 v0 (hv0.mono hcon.2.1), .wid 10000000 v1 (hv1.mono hcon.2.2.1), .wid 10000000 v2 (hv2.mono hcon.2.2.2)]], fun _=>rfl,fun _ _=>rfl,fun _ _=>rfl,fun _ => ?_⟩
   conv => whnf
   refine bcase_intro (fun h0 => ?_) (fun h0 => ?_)
   ·conv => whnf
    exact fun ρ => sint_e (Eq.symm (sg1 h0)) ρ
   conv => whnf
   refine bcase_intro (fun h1 => ?_) (fun h1 => ?_)
   ·conv => whnf
    exact fun ρ => sint_e (Eq.symm ((sg0 h0).trans (sg1 h1))) ρ
   conv => whnf
   refine bcase_intro (fun h2 => ?_) (fun h2 => ?_)
   ·conv => whnf
    exact fun ρ => sint_e (Eq.symm ((sg0 h0).trans ((sg0 h1).trans (sg1 h2)))) ρ
   conv => whnf
   refine bcase_intro (fun h3 => ?_) (fun h3 => ?_)
   ·conv => whnf
    exact fun ρ => sint_e (Eq.symm ((sg0 h0).trans ((sg0 h1).trans ((sg0 h2).trans (sg1 h3))))) ρ
   conv => whnf
   exact fun ρ => sint_e (Eq.symm ((sg0 h0).trans ((sg0 h1).trans ((sg0 h2).trans ((sg0 h3).trans ((rfl : sgL [] = 0))))))) ρ
  ·cases hd
 ·cases hd
def dSgn1 : Dr
 | [.c (.sli false b 0 1 _ _)], hf => (match hf b with
  | some ⟨_, _, [.wid k z _], _⟩ => if k ≤ 10000000 then some (none, .c (.int z.sign (ir_sign z))) else none
  | _ => none)
 | _, _ => none
theorem vcSgn1 (k : Nat) (z : Int) (hz : Sm k z) (hk : k ≤ 10000000) (ty cap : Nat) (hs : SliOk false 1 cap) : vcF (env 20 baseY2) (inl (env 20 baseY2) noF 0) Tryz.f48 [.c (.sli false 0 0 1 cap hs)] [⟨ty, true, [.wid 10000000 z (hz.mono hk)], 0⟩] fun u _ => ∀ ρ, u.den ρ = (SV.c (.int z.sign (ir_sign z))).den ρ := by
 conv => whnf
 refine bcase_intro (fun h0 => ?_) (fun h0 => ?_)
 ·conv => whnf
  exact fun ρ => sint_e rfl ρ
 conv => whnf
 exact fun ρ => sint_e (Eq.symm (by simpa using h0)) ρ
theorem spSgn1 : SpR Tryz.prog 48 dSgn1 := by
 refine ⟨(⟨Tryz.func48, by kernel_rfl, by kernel_rfl⟩ : FnOk Tryz.prog 48 Tryz.f48).callable, fun args hf p v hd => ?_⟩
 unfold dSgn1 at hd
 split at hd
 ·rename_i b cap hs
  split at hd
  ·rename_i ty ro k z hz tl hb
   split at hd
   ·rename_i hk
    cases hd
    refine ⟨fun _ _=>rfl,fun _ ρ w hh => ?_⟩
    have hH := (hh b _ hb).1
    refine read_ok (P := Tryz.prog) (env_ok baseY2_ok 20) mixed noF_ok ⟨Tryz.func48, by kernel_rfl, by kernel_rfl⟩ (fun _ _=>rfl) (fun i c hi => ?_) (fun _ => ρ b) (fun ρ' hρ => ?_) (vcSgn1 k z hz hk ty cap hs) w (fun i c hi => ?_)
    ·cases i with
     | zero => simp [nthO] at hi; subst hi; exact ⟨rfl, fun _ _=>rfl⟩
     | succ i => simp [nthO] at hi
    ·have := hρ 0 rfl
     simp only [List.map_cons, List.map_nil, SV.den, C.den, C.cells, this]
    ·cases i with
     | zero => simp [nthO] at hi; subst hi; exact hH
     | succ i => simp [nthO] at hi
   ·cases hd
  ·cases hd
 ·cases hd
def dRFrn : Dn
 | [.agg [.wid jn n hn], .agg [.wid jd d hd]] =>
  if jn ≤ 9000000 ∧ jd ≤ 9000000 then some (none, .agg [.wid (jn) (fracN n d) (sm_fracN hn d), .wid (jd) (fracD n d) (sm_fracD hd n)]) else none
 | _ => none
theorem spRFrn : SpOk Tryz.prog 31 dRFrn := sp_of2 (un := 20) (n := 0) ⟨Tryz.func31, by kernel_rfl, by kernel_rfl⟩ baseY2_ok noF_ok fun args p v hq => by
 unfold dRFrn at hq
 split at hq
 ·rename_i jn n hn jd d hd
  split at hq
  ·rename_i hcon
   cases hq
   refine ⟨[.agg [.wid 9000000 n (hn.mono hcon.1)], .agg [.wid 9000000 d (hd.mono hcon.2)]], fun _=>rfl,fun _ _=>rfl,fun _ _=>rfl,fun _ => ?_⟩
   conv => whnf
   exact fun _=>rfl
  ·cases hq
 ·cases hq
def baseY3 : List (FuncId × Dn) := (31, dRFrn) :: (47, dRSigns) :: baseY2
theorem baseY3_ok : AllOk baseY3 := .cons spRFrn <| .cons spRSigns <| baseY2_ok
def noneV : SV := .agg [.wid 64 0 (sm_zero 64), .wid 64 1 (by unfold Sm; decide)]
def dRNone : Dn
 | [] => some (none, noneV)
 | _ => none
theorem fr01 : fracN 0 1 = 0 ∧ fracD 0 1 = 1 := by decide
theorem spRNone : SpOk Tryz.prog 22 dRNone := sp_of2 (un := 20) (n := 0) ⟨Tryz.func22, by kernel_rfl, by kernel_rfl⟩ baseY3_ok noF_ok fun args p v hd => by
 unfold dRNone at hd
 split at hd
 ·cases hd
  refine ⟨[], fun _=>rfl,fun _ _=>rfl,fun _ _=>rfl,fun _ => ?_⟩
  conv => whnf
  exact fun ρ => wid2_sv _ _ _ _ fr01.1 fr01.2 ρ
 ·cases hd
theorem perm_no {r : RZ} (h : decide (0 < r.w) = false) : permZ r = false := by unfold permZ; rw [h]; rfl
theorem perm_yes {r : RZ} (h : decide (0 < r.w) = true) : permZ r = !r.d.isZ := by unfold permZ; rw [h]; rfl
def dRPerm : Dn
 | [.agg [.int rx _, .int ry _, .int rz _, .int rw _, .int d0 _, .int d1 _, .int d2 _]] =>
  some (none, .c (.val (.bool (permZ ⟨rx, ry, rz, rw, ⟨d0, d1, d2⟩⟩))))
 | _ => none
theorem spRPerm : SpOk Tryz.prog 21 dRPerm := sp_of2 (un := 20) (n := 0) ⟨Tryz.func21, by kernel_rfl, by kernel_rfl⟩ baseY3_ok noF_ok fun args p v hd => by
 unfold dRPerm at hd
 split at hd
 ·rename_i rx hrx ry hry rz hrz rw hrw d0 hd0 d1 hd1 d2 hd2
  cases hd
  refine ⟨[.agg [.int rx hrx, .int ry hry, .int rz hrz, .int rw hrw, .int d0 hd0, .int d1 hd1, .int d2 hd2]], fun _=>rfl,fun _ _=>rfl,fun _ _=>rfl,fun _ => ?_⟩
  conv => whnf
  refine bcase_intro (fun h0 => ?_) (fun h0 => ?_)
  ·conv => whnf
   exact fun ρ => sbool_e (Eq.symm (perm_yes (r := ⟨rx, ry, rz, rw, ⟨d0, d1, d2⟩⟩) h0)) ρ
  ·conv => whnf
   exact fun ρ => sbool_e (Eq.symm (perm_no (r := ⟨rx, ry, rz, rw, ⟨d0, d1, d2⟩⟩) h0)) ρ
 ·cases hd
def baseY4 : List (FuncId × Dn) := (22, dRNone) :: (21, dRPerm) :: baseY3
theorem baseY4_ok : AllOk baseY4 := .cons spRNone <| .cons spRPerm <| baseY3_ok
end Go.Proofs.YtocbklodkcdhkaaGreatDoor

namespace Go.Proofs
open Go.Shelf
shelf_lay Lays.n129 Nm 129 at Tryz as Tryz.lays129
end Go.Proofs
namespace Go.Proofs.YtocbklodkcdhkaaGreatDoor
open Go.RowKit Go.Shelf
set_option maxRecDepth 100000

theorem len64_calls (x : Int) (w : World) (h0 : 0 ≤ x) (h1 : x ≤ 18446744073709551615) :
    Calls Tryz.prog 95 #[.int .u64 x] w fun e w' => e = .returned (.int .i64 (Lib.bitLen x.toNat)) ∧ w' = w := Any.bits_Len64 Tryz.lays129 x w h0 h1
theorem bitLenAux_le : ∀ f x, Lib.bitLenAux f x ≤ f
  | 0, _ => Nat.le_refl _
  | f + 1, x => by
    unfold Lib.bitLenAux
    split
    · omega
    · have := bitLenAux_le f (x / 2); omega
theorem bitLenAux_small : ∀ {f k x : Nat}, k ≤ f → (Lib.bitLenAux f x ≤ k ↔ x < 2 ^ k ∨ f = k)
  | 0, k, x, h => ⟨fun _ => .inr (by omega), fun _ => Nat.zero_le _⟩
  | f + 1, 0, x, _ => by
    unfold Lib.bitLenAux
    split
    · rename_i h; subst h; exact ⟨fun _ => .inl (by decide), fun _ => Nat.le_refl _⟩
    · exact ⟨fun h => by omega, fun h => by rcases h with h | h <;> omega⟩
  | f + 1, k + 1, x, h => by
    unfold Lib.bitLenAux
    split
    · rename_i h; subst h; exact ⟨fun _ => .inl (Nat.two_pow_pos _), fun _ => Nat.zero_le _⟩
    · have ih := bitLenAux_small (f := f) (k := k) (x := x / 2) (by omega)
      rw [Nat.pow_succ]
      constructor
      · intro h2
        rcases ih.1 (by omega) with h3 | h3
        · exact .inl (by omega)
        · exact .inr (by omega)
      · intro h2
        have := ih.2 (by rcases h2 with h2 | h2; exact .inl (by omega); exact .inr (by omega))
        omega
theorem ir_len (x : Nat) : IR (Lib.bitLen x : Nat) := by
  have := bitLenAux_le 64 x
  unfold IR; show (_ : Int) ≤ ((Lib.bitLenAux 64 x : Nat) : Int) ∧ ((Lib.bitLenAux 64 x : Nat) : Int) ≤ _
  omega
theorem len_18 (x : Nat) : decide ((18 : Int) < (Lib.bitLen x : Nat)) = decide (262144 ≤ x) := by
  have := bitLenAux_small (f := 64) (k := 18) (x := x) (by decide)
  apply decide_eq_decide.2
  show (18 : Int) < ((Lib.bitLenAux 64 x : Nat) : Int) ↔ _
  constructor
  · intro h
    by_cases h2 : x < 262144
    · have := this.2 (.inl h2); omega
    · omega
  · intro h
    by_cases h2 : Lib.bitLenAux 64 x ≤ 18
    · rcases this.1 h2 with h3 | h3
      · have : (2 : Nat) ^ 18 = 262144 := by decide
        omega
      · omega
    · omega
def dLen64 : Dn
  | [.c (.val (.int .u64 x))] => some (some (0 ≤ x ∧ x ≤ 18446744073709551615), .c (.int (Lib.bitLen x.toNat : Nat) (ir_len _)))
  | _ => none
theorem spLen64 : SpOk Tryz.prog 95 dLen64 := by
  refine ⟨⟨_, Tryz.func95, by kernel_rfl, by kernel_rfl⟩, fun args p v hd => ?_⟩
  unfold dLen64 at hd
  split at hd
  · rename_i x
    cases hd
    refine ⟨fun _ _ => rfl, fun hp ρ w => ?_⟩
    obtain ⟨h0, h1⟩ := hp _ rfl
    exact (len64_calls x w h0 h1).mono fun e w' he => ⟨he.1, by rw [he.2]; exact Below.refl _ _⟩
  · cases hd
end Go.Proofs.YtocbklodkcdhkaaGreatDoor

namespace Go.Proofs.YtocbklodkcdhkaaGreatDoor
open Go.RowKit
set_option maxRecDepth 100000

def bigB (n : Int) : Bool := decide ((18 : Int) < (Lib.bitLen (IntKind.u64.wrap (maxI n (IntKind.i64.wrap (0 - n)))).toNat : Nat))
def smB : List Int → Bool
 | [] => true
 | n :: l => cond (bigB n) false (smB l)
theorem smB_t {n : Int} {l : List Int} (h : bigB n = true) : smB (n :: l) = false := by unfold smB; rw [h]; rfl
theorem smB_f {n : Int} {l : List Int} (h : bigB n = false) : smB (n :: l) = smB l := by rw [show smB (n :: l) = cond (bigB n) false (smB l) from rfl, h]; rfl
theorem u64_ok (n : Int) : 0 ≤ IntKind.u64.wrap n ∧ IntKind.u64.wrap n ≤ 18446744073709551615 := by
 unfold IntKind.wrap; simp [IntKind.bits, IntKind.signed]; omega
theorem big_bd {n : Int} (hn : IR n) (h : bigB n = false) : n.natAbs ≤ 262144 := by
 unfold bigB at h
 rw [len_18] at h
 have h := of_decide_eq_false h
 unfold IR at hn
 unfold maxI at h
 have hw : IntKind.i64.wrap (0 - n) = if n = -9223372036854775808 then n else -n := by
  unfold IntKind.wrap; simp [IntKind.bits, IntKind.signed]; (repeat' split) <;> omega
 rw [hw] at h
 have hu : ∀ m : Int, 0 ≤ m → m ≤ 9223372036854775807 → IntKind.u64.wrap m = m := fun m h0 h1 => by unfold IntKind.wrap; simp [IntKind.bits, IntKind.signed]; omega
 by_cases he : n = -9223372036854775808
 ·subst he
  exfalso; apply h; decide
 ·rw [if_neg he] at h
  split at h
  ·rw [hu _ (by omega) (by omega)] at h; omega
  ·rw [hu _ (by omega) (by omega)] at h; omega
theorem smB_bd : ∀ {l : List Int}, smB l = true → (∀ x ∈ l, IR x) → ∀ x ∈ l, x.natAbs ≤ 262144
 | [], _, _, x, hx => by cases hx
 | n :: l, h, hi, x, hx => by
  cases h1 : bigB n with
  | true => rw [smB_t h1] at h; cases h
  | false =>
   rw [smB_f h1] at h
   rcases List.mem_cons.1 hx with rfl | hx
   ·exact big_bd (hi _ List.mem_cons_self) h1
   ·exact smB_bd h (fun y hy => hi y (List.mem_cons_of_mem _ hy)) x hx
theorem wrap_i {n : Int} (h : n.natAbs ≤ 4611686018427387904) : IntKind.i64.wrap n = n := wrap_id (by unfold IR; omega)
theorem mul_bd {a b : Int} {m n : Nat} (ha : a.natAbs ≤ m) (hb : b.natAbs ≤ n) : (a * b).natAbs ≤ m * n := by rw [Int.natAbs_mul]; exact Nat.mul_le_mul ha hb
theorem near_eq {a b c d e f g k : Int} (ha : a.natAbs ≤ 262144) (hb : b.natAbs ≤ 262144) (hc : c.natAbs ≤ 262144) (hd : d.natAbs ≤ 262144) (he : e.natAbs ≤ 262144) (hf : f.natAbs ≤ 262144) (hg : g.natAbs ≤ 262144) (hk : k.natAbs ≤ 262144) :
  IntKind.i64.wrap (IntKind.i64.wrap (IntKind.i64.wrap (a - b) * IntKind.i64.wrap (c - d)) - IntKind.i64.wrap (IntKind.i64.wrap (e - f) * IntKind.i64.wrap (g - k))) = (a - b) * (c - d) - (e - f) * (g - k) := by
 have h1 : (a - b).natAbs ≤ 524288 := by omega
 have h2 : (c - d).natAbs ≤ 524288 := by omega
 have h3 : (e - f).natAbs ≤ 524288 := by omega
 have h4 : (g - k).natAbs ≤ 524288 := by omega
 have h5 := mul_bd h1 h2
 have h6 := mul_bd h3 h4
 rw [wrap_i (n := a - b) (by omega), wrap_i (n := c - d) (by omega), wrap_i (n := e - f) (by omega), wrap_i (n := g - k) (by omega), wrap_i (n := (a - b) * (c - d)) (by omega), wrap_i (n := (e - f) * (g - k)) (by omega)]
 exact wrap_i (by omega)
def lenE : List (FuncId × Dn) := (95, dLen64) :: baseY4
theorem lenE_ok : AllOk lenE := .cons spLen64 baseY4_ok
def dSmall : Dr
 | [.c (.sli false b 0 4 _ _)], hf => (match hf b with
  | some ⟨_, _, [.int x1 _, .int y1 _, .int z1 _, .int x2 _, .int y2 _, .int z2 _, .int x3 _, .int y3 _, .int z3 _, .int x4 _, .int y4 _, .int z4 _], _⟩ => some (none, .c (.val (.bool (smB [x1, y1, z1, x2, y2, z2, x3, y3, z3, x4, y4, z4]))))
  | _ => none)
 | _, _ => none
set_option maxHeartbeats 4000000 in
theorem vcSmall {x1 y1 z1 x2 y2 z2 x3 y3 z3 x4 y4 z4 : Int} (hx1 : IR x1) (hy1 : IR y1) (hz1 : IR z1) (hx2 : IR x2) (hy2 : IR y2) (hz2 : IR z2) (hx3 : IR x3) (hy3 : IR y3) (hz3 : IR z3) (hx4 : IR x4) (hy4 : IR y4) (hz4 : IR z4) (ty cap : Nat) (hs : SliOk false 4 cap) : vcF (env 20 lenE) (inl (env 20 lenE) noF 0) Tryz.f77 [.c (.sli false 0 0 4 cap hs)] [⟨ty, true, [.int x1 hx1, .int y1 hy1, .int z1 hz1, .int x2 hx2, .int y2 hy2, .int z2 hz2, .int x3 hx3, .int y3 hy3, .int z3 hz3, .int x4 hx4, .int y4 hy4, .int z4 hz4], 0⟩] fun u _ => ∀ ρ, u.den ρ = (SV.c (.val (.bool (smB [x1, y1, z1, x2, y2, z2, x3, y3, z3, x4, y4, z4])))).den ρ := by
 conv => whnf
 refine ⟨u64_ok _, ?_⟩
 conv => whnf
 refine bcase_intro (fun h0 => ?_) (fun h0 => ?_)
 ·conv => whnf
  exact fun ρ => sbool_e (Eq.symm (smB_t h0)) ρ
 conv => whnf
 refine ⟨u64_ok _, ?_⟩
 conv => whnf
 refine bcase_intro (fun h1 => ?_) (fun h1 => ?_)
 ·conv => whnf
  exact fun ρ => sbool_e (Eq.symm ((smB_f h0).trans (smB_t h1))) ρ
 conv => whnf
 refine ⟨u64_ok _, ?_⟩
 conv => whnf
 refine bcase_intro (fun h2 => ?_) (fun h2 => ?_)
 ·conv => whnf
  exact fun ρ => sbool_e (Eq.symm ((smB_f h0).trans ((smB_f h1).trans (smB_t h2)))) ρ
 conv => whnf
 refine ⟨u64_ok _, ?_⟩
 conv => whnf
 refine bcase_intro (fun h3 => ?_) (fun h3 => ?_)
 ·conv => whnf
  exact fun ρ => sbool_e (Eq.symm ((smB_f h0).trans ((smB_f h1).trans ((smB_f h2).trans (smB_t h3))))) ρ
 conv => whnf
 refine ⟨u64_ok _, ?_⟩
 conv => whnf
 refine bcase_intro (fun h4 => ?_) (fun h4 => ?_)
 ·conv => whnf
  exact fun ρ => sbool_e (Eq.symm ((smB_f h0).trans ((smB_f h1).trans ((smB_f h2).trans ((smB_f h3).trans (smB_t h4)))))) ρ
 conv => whnf
 refine ⟨u64_ok _, ?_⟩
 conv => whnf
 refine bcase_intro (fun h5 => ?_) (fun h5 => ?_)
 ·conv => whnf
  exact fun ρ => sbool_e (Eq.symm ((smB_f h0).trans ((smB_f h1).trans ((smB_f h2).trans ((smB_f h3).trans ((smB_f h4).trans (smB_t h5))))))) ρ
 conv => whnf
 refine ⟨u64_ok _, ?_⟩
 conv => whnf
 refine bcase_intro (fun h6 => ?_) (fun h6 => ?_)
 ·conv => whnf
  exact fun ρ => sbool_e (Eq.symm ((smB_f h0).trans ((smB_f h1).trans ((smB_f h2).trans ((smB_f h3).trans ((smB_f h4).trans ((smB_f h5).trans (smB_t h6)))))))) ρ
 conv => whnf
 refine ⟨u64_ok _, ?_⟩
 conv => whnf
 refine bcase_intro (fun h7 => ?_) (fun h7 => ?_)
 ·conv => whnf
  exact fun ρ => sbool_e (Eq.symm ((smB_f h0).trans ((smB_f h1).trans ((smB_f h2).trans ((smB_f h3).trans ((smB_f h4).trans ((smB_f h5).trans ((smB_f h6).trans (smB_t h7))))))))) ρ
 conv => whnf
 refine ⟨u64_ok _, ?_⟩
 conv => whnf
 refine bcase_intro (fun h8 => ?_) (fun h8 => ?_)
 ·conv => whnf
  exact fun ρ => sbool_e (Eq.symm ((smB_f h0).trans ((smB_f h1).trans ((smB_f h2).trans ((smB_f h3).trans ((smB_f h4).trans ((smB_f h5).trans ((smB_f h6).trans ((smB_f h7).trans (smB_t h8)))))))))) ρ
 conv => whnf
 refine ⟨u64_ok _, ?_⟩
 conv => whnf
 refine bcase_intro (fun h9 => ?_) (fun h9 => ?_)
 ·conv => whnf
  exact fun ρ => sbool_e (Eq.symm ((smB_f h0).trans ((smB_f h1).trans ((smB_f h2).trans ((smB_f h3).trans ((smB_f h4).trans ((smB_f h5).trans ((smB_f h6).trans ((smB_f h7).trans ((smB_f h8).trans (smB_t h9))))))))))) ρ
 conv => whnf
 refine ⟨u64_ok _, ?_⟩
 conv => whnf
 refine bcase_intro (fun h10 => ?_) (fun h10 => ?_)
 ·conv => whnf
  exact fun ρ => sbool_e (Eq.symm ((smB_f h0).trans ((smB_f h1).trans ((smB_f h2).trans ((smB_f h3).trans ((smB_f h4).trans ((smB_f h5).trans ((smB_f h6).trans ((smB_f h7).trans ((smB_f h8).trans ((smB_f h9).trans (smB_t h10)))))))))))) ρ
 conv => whnf
 refine ⟨u64_ok _, ?_⟩
 conv => whnf
 refine bcase_intro (fun h11 => ?_) (fun h11 => ?_)
 ·conv => whnf
  exact fun ρ => sbool_e (Eq.symm ((smB_f h0).trans ((smB_f h1).trans ((smB_f h2).trans ((smB_f h3).trans ((smB_f h4).trans ((smB_f h5).trans ((smB_f h6).trans ((smB_f h7).trans ((smB_f h8).trans ((smB_f h9).trans ((smB_f h10).trans (smB_t h11))))))))))))) ρ
 conv => whnf
 exact fun ρ => sbool_e (Eq.symm ((smB_f h0).trans ((smB_f h1).trans ((smB_f h2).trans ((smB_f h3).trans ((smB_f h4).trans ((smB_f h5).trans ((smB_f h6).trans ((smB_f h7).trans ((smB_f h8).trans ((smB_f h9).trans ((smB_f h10).trans ((smB_f h11).trans ((rfl : smB [] = true))))))))))))))) ρ
theorem spSmall : SpR Tryz.prog 77 dSmall := by
 refine ⟨(⟨Tryz.func77, by kernel_rfl, by kernel_rfl⟩ : FnOk Tryz.prog 77 Tryz.f77).callable, fun args hf p v hd => ?_⟩
 unfold dSmall at hd
 split at hd
 ·rename_i b cap hs
  split at hd
  ·rename_i ty ro x1 hx1 y1 hy1 z1 hz1 x2 hx2 y2 hy2 z2 hz2 x3 hx3 y3 hy3 z3 hz3 x4 hx4 y4 hy4 z4 hz4 tl hb
   cases hd
   refine ⟨fun _ _=>rfl,fun _ ρ w hh => ?_⟩
   have hH := (hh b _ hb).1
   refine read_ok (P := Tryz.prog) (env_ok lenE_ok 20) mixed noF_ok ⟨Tryz.func77, by kernel_rfl, by kernel_rfl⟩ (fun _ _=>rfl) (fun i c hi => ?_) (fun _ => ρ b) (fun ρ' hρ => ?_) (vcSmall hx1 hy1 hz1 hx2 hy2 hz2 hx3 hy3 hz3 hx4 hy4 hz4 ty cap hs) w (fun i c hi => ?_)
   ·cases i with
    | zero => simp [nthO] at hi; subst hi; exact ⟨rfl, fun _ _=>rfl⟩
    | succ i => simp [nthO] at hi
   ·have := hρ 0 rfl
    simp only [List.map_cons, List.map_nil, SV.den, C.den, C.cells, this]
   ·cases i with
    | zero => simp [nthO] at hi; subst hi; exact hH
    | succ i => simp [nthO] at hi
  ·cases hd
 ·cases hd
def dNear : Dn
 | [.agg [.int x1 _, .int y1 _, .int z1 _], .agg [.int x2 _, .int y2 _, .int z2 _]] =>
  some (none, .agg [.int (IntKind.i64.wrap (x2 - x1)) (IR.wrap _), .int (IntKind.i64.wrap (y2 - y1)) (IR.wrap _), .int (IntKind.i64.wrap (z2 - z1)) (IR.wrap _)])
 | _ => none
theorem spNear : SpOk Tryz.prog 78 dNear := sp_of2 (un := 20) (n := 0) ⟨Tryz.func78, by kernel_rfl, by kernel_rfl⟩ baseY4_ok noF_ok fun args p v hd => by
 unfold dNear at hd
 split at hd
 ·rename_i x1 hx1 y1 hy1 z1 hz1 x2 hx2 y2 hy2 z2 hz2
  cases hd
  refine ⟨[.agg [.int x1 hx1, .int y1 hy1, .int z1 hz1], .agg [.int x2 hx2, .int y2 hy2, .int z2 hz2]], fun _=>rfl,fun _ _=>rfl,fun _ _=>rfl,fun _ => ?_⟩
  conv => whnf
  exact fun _=>rfl
 ·cases hd
noncomputable def fxTurn : FuncId → Option Func := lk [(82, Tryz.f82)]
theorem fxTurn_ok : ∀ f fn, fxTurn f = some fn → FnOk Tryz.prog f fn := lkF_ok fun x hx => by
 simp only [List.mem_cons, List.not_mem_nil, or_false] at hx
 subst hx
 ·exact ⟨Tryz.func82, by kernel_rfl, by kernel_rfl⟩
def dNProd : Dn
 | [.agg [.int u0 _, .int u1 _, .int u2 _], .agg [.int v0 _, .int v1 _, .int v2 _]] =>
  some (none, .agg [.int (IntKind.i64.wrap (IntKind.i64.wrap (u1 * v2) - IntKind.i64.wrap (u2 * v1))) (IR.wrap _), .int (IntKind.i64.wrap (IntKind.i64.wrap (u2 * v0) - IntKind.i64.wrap (u0 * v2))) (IR.wrap _), .int (IntKind.i64.wrap (IntKind.i64.wrap (u0 * v1) - IntKind.i64.wrap (u1 * v0))) (IR.wrap _)])
 | _ => none
theorem spNProd : SpOk Tryz.prog 79 dNProd := sp_of2 (un := 20) (n := 3) ⟨Tryz.func79, by kernel_rfl, by kernel_rfl⟩ baseY4_ok fxTurn_ok fun args p v hd => by
 unfold dNProd at hd
 split at hd
 ·rename_i u0 hu0 u1 hu1 u2 hu2 v0 hv0 v1 hv1 v2 hv2
  cases hd
  refine ⟨[.agg [.int u0 hu0, .int u1 hu1, .int u2 hu2], .agg [.int v0 hv0, .int v1 hv1, .int v2 hv2]], fun _=>rfl,fun _ _=>rfl,fun _ _=>rfl,fun _ => ?_⟩
  conv => whnf
  exact fun _=>rfl
 ·cases hd
theorem sgn_neg {n : Int} (h : decide (n < 0) = true) : n.sign = -1 := Int.sign_eq_neg_one_of_neg (of_decide_eq_true h)
theorem sgn_pos {n : Int} (h : decide (0 < n) = true) : n.sign = 1 := Int.sign_eq_one_of_pos (of_decide_eq_true h)
theorem sgn_0 {n : Int} (h : decide (n < 0) = false) (h1 : decide (0 < n) = false) : n.sign = 0 := by
 have h := of_decide_eq_false h; have h1 := of_decide_eq_false h1
 have : n = 0 := by omega
 subst this; rfl
def dISign : Dn
 | [.c (.int n _)] =>
  some (none, .c (.int n.sign (ir_sign n)))
 | _ => none
theorem spISign : SpOk Tryz.prog 80 dISign := sp_of2 (un := 20) (n := 0) ⟨Tryz.func80, by kernel_rfl, by kernel_rfl⟩ baseY4_ok noF_ok fun args p v hd => by
 unfold dISign at hd
 split at hd
 ·rename_i n hn
  cases hd
  refine ⟨[.c (.int n hn)], fun _=>rfl,fun _ _=>rfl,fun _ _=>rfl,fun _ => ?_⟩
  conv => whnf
  refine bcase_intro (fun h0 => ?_) (fun h0 => ?_)
  ·conv => whnf
   exact fun ρ => sint_e (Eq.symm (sgn_neg h0)) ρ
  conv => whnf
  refine bcase_intro (fun h1 => ?_) (fun h1 => ?_)
  ·conv => whnf
   exact fun ρ => sint_e (Eq.symm (sgn_pos h1)) ρ
  conv => whnf
  exact fun ρ => sint_e (Eq.symm (sgn_0 h0 h1)) ρ
 ·cases hd
noncomputable def fxTurn2 : FuncId → Option Func := lk [(82, Tryz.f82)]
theorem fxTurn2_ok : ∀ f fn, fxTurn2 f = some fn → FnOk Tryz.prog f fn := lkF_ok fun x hx => by
 simp only [List.mem_cons, List.not_mem_nil, or_false] at hx
 subst hx
 ·exact ⟨Tryz.func82, by kernel_rfl, by kernel_rfl⟩
def dFProd : Dn
 | [.agg [.wid ju0 u0 hu0, .wid ju1 u1 hu1, .wid ju2 u2 hu2], .agg [.wid jv0 v0 hv0, .wid jv1 v1 hv1, .wid jv2 v2 hv2]] =>
  if ju0 ≤ 1000000 ∧ ju1 ≤ 1000000 ∧ ju2 ≤ 1000000 ∧ jv0 ≤ 1000000 ∧ jv1 ≤ 1000000 ∧ jv2 ≤ 1000000 then some (none, .agg [.wid ((ju1 + jv2) + (ju2 + jv1) + 1) ((V3.cross ⟨u0, u1, u2⟩ ⟨v0, v1, v2⟩ : V3).x) (sm_subj (Sm.mul hu1 hv2) (Sm.mul hu2 hv1)), .wid ((ju2 + jv0) + (ju0 + jv2) + 1) ((V3.cross ⟨u0, u1, u2⟩ ⟨v0, v1, v2⟩ : V3).y) (sm_subj (Sm.mul hu2 hv0) (Sm.mul hu0 hv2)), .wid ((ju0 + jv1) + (ju1 + jv0) + 1) ((V3.cross ⟨u0, u1, u2⟩ ⟨v0, v1, v2⟩ : V3).z) (sm_subj (Sm.mul hu0 hv1) (Sm.mul hu1 hv0))]) else none
 | _ => none
theorem spFProd : SpOk Tryz.prog 66 dFProd := sp_of2 (un := 20) (n := 3) ⟨Tryz.func66, by kernel_rfl, by kernel_rfl⟩ baseY4_ok fxTurn2_ok fun args p v hd => by
 unfold dFProd at hd
 split at hd
 ·rename_i ju0 u0 hu0 ju1 u1 hu1 ju2 u2 hu2 jv0 v0 hv0 jv1 v1 hv1 jv2 v2 hv2
  split at hd
  ·rename_i hcon
   cases hd
   refine ⟨[.agg [.wid 1000000 u0 (hu0.mono hcon.1), .wid 1000000 u1 (hu1.mono hcon.2.1), .wid 1000000 u2 (hu2.mono hcon.2.2.1)], .agg [.wid 1000000 v0 (hv0.mono hcon.2.2.2.1), .wid 1000000 v1 (hv1.mono hcon.2.2.2.2.1), .wid 1000000 v2 (hv2.mono hcon.2.2.2.2.2)]], fun _=>rfl,fun _ _=>rfl,fun _ _=>rfl,fun _ => ?_⟩
   conv => whnf
   exact fun _=>rfl
  ·cases hd
 ·cases hd
def baseF : List (FuncId × Dn) := baseY4
theorem baseF_ok : AllOk baseF := baseY4_ok
def baseF1 : List (FuncId × Dn) := (78, dNear) :: (79, dNProd) :: (80, dISign) :: (65, dFar) :: (66, dFProd) :: baseF
theorem baseF1_ok : AllOk baseF1 := .cons spNear <| .cons spNProd <| .cons spISign <| .cons spFar <| .cons spFProd <| baseF_ok
end Go.Proofs.YtocbklodkcdhkaaGreatDoor

namespace Go.Proofs.YtocbklodkcdhkaaGreatDoor
open Go.RowKit
set_option maxRecDepth 100000

theorem ints3_sv {a b c a' b' c' : Int} {ha : IR a} {hb : IR b} {hc : IR c} {ha' : IR a'} {hb' : IR b'} {hc' : IR c'} (e1 : a = a') (e2 : b = b') (e3 : c = c') (ρ : Rho) : (SV.agg [.int a ha, .int b hb, .int c hc]).den ρ = (SV.agg [.int a' ha', .int b' hb', .int c' hc']).den ρ := by subst e1 e2 e3; rfl
def rdSigns : List (FuncId × Dr) := [(77, dSmall)]
theorem rdSigns_ok : AllR rdSigns := .cons spSmall .nil
def dSigns : Dn
 | [.agg [.int x1 _, .int y1 _, .int z1 _], .agg [.int x2 _, .int y2 _, .int z2 _], .agg [.int x3 _, .int y3 _, .int z3 _], .agg [.int x4 _, .int y4 _, .int z4 _]] =>
  some (none, .agg [.int (V3.cross (V3.sub ⟨x2, y2, z2⟩ ⟨x1, y1, z1⟩) (V3.sub ⟨x4, y4, z4⟩ ⟨x3, y3, z3⟩)).x.sign (ir_sign _), .int (V3.cross (V3.sub ⟨x2, y2, z2⟩ ⟨x1, y1, z1⟩) (V3.sub ⟨x4, y4, z4⟩ ⟨x3, y3, z3⟩)).y.sign (ir_sign _), .int (V3.cross (V3.sub ⟨x2, y2, z2⟩ ⟨x1, y1, z1⟩) (V3.sub ⟨x4, y4, z4⟩ ⟨x3, y3, z3⟩)).z.sign (ir_sign _)])
 | _ => none
set_option maxHeartbeats 4000000 in
theorem spSigns : SpOk Tryz.prog 62 dSigns := sp_of3 (un := 20) (n := 0) ⟨Tryz.func62, by kernel_rfl, by kernel_rfl⟩ baseF1_ok rdSigns_ok noF_ok fun args p v hd => by
 unfold dSigns at hd
 split at hd
 ·rename_i x1 hx1 y1 hy1 z1 hz1 x2 hx2 y2 hy2 z2 hz2 x3 hx3 y3 hy3 z3 hz3 x4 hx4 y4 hy4 z4 hz4
  cases hd
  refine ⟨[.agg [.int x1 hx1, .int y1 hy1, .int z1 hz1], .agg [.int x2 hx2, .int y2 hy2, .int z2 hz2], .agg [.int x3 hx3, .int y3 hy3, .int z3 hz3], .agg [.int x4 hx4, .int y4 hy4, .int z4 hz4]], fun _=>rfl,fun _ _=>rfl,fun _ _=>rfl,fun _ => ?_⟩
  conv => whnf
  refine bcase_intro (fun hs => ?_) (fun _ => ?_)
  ·have hb := smB_bd (l := [x1, y1, z1, x2, y2, z2, x3, y3, z3, x4, y4, z4]) hs (by simp only [List.mem_cons, List.not_mem_nil, or_false]; rintro q (rfl | rfl | rfl | rfl | rfl | rfl | rfl | rfl | rfl | rfl | rfl | rfl) <;> assumption)
   conv => whnf
   exact fun ρ => ints3_sv (congrArg Int.sign (near_eq (hb _ (by simp)) (hb _ (by simp)) (hb _ (by simp)) (hb _ (by simp)) (hb _ (by simp)) (hb _ (by simp)) (hb _ (by simp)) (hb _ (by simp)))) (congrArg Int.sign (near_eq (hb _ (by simp)) (hb _ (by simp)) (hb _ (by simp)) (hb _ (by simp)) (hb _ (by simp)) (hb _ (by simp)) (hb _ (by simp)) (hb _ (by simp)))) (congrArg Int.sign (near_eq (hb _ (by simp)) (hb _ (by simp)) (hb _ (by simp)) (hb _ (by simp)) (hb _ (by simp)) (hb _ (by simp)) (hb _ (by simp)) (hb _ (by simp)))) ρ
  conv => whnf
  exact fun ρ => ints3_sv rfl rfl rfl ρ
 ·cases hd
def baseF2 : List (FuncId × Dn) := (62, dSigns) :: baseF1
theorem baseF2_ok : AllOk baseF2 := .cons spSigns <| baseF1_ok
theorem flat_eq (v : V3) : (decide (v.x.sign = 0) && (decide (v.y.sign = 0) && decide (v.z.sign = 0))) = v.isZ := by
 have e : ∀ x : Int, decide (x.sign = 0) = decide (x = 0) := fun x => decide_eq_decide.2 Int.sign_eq_zero_iff_zero
 unfold V3.isZ
 rw [e, e, e]
def dFlat : Dn
 | [.agg [.int x1 _, .int y1 _, .int z1 _, .int x2 _, .int y2 _, .int z2 _, .int x3 _, .int y3 _, .int z3 _]] =>
  some (none, .c (.val (.bool (normZ ⟨x1, y1, z1⟩ ⟨x2, y2, z2⟩ ⟨x3, y3, z3⟩).isZ)))
 | _ => none
theorem spFlat : SpOk Tryz.prog 43 dFlat := sp_of2 (un := 20) (n := 0) ⟨Tryz.func43, by kernel_rfl, by kernel_rfl⟩ baseF2_ok noF_ok fun args p v hd => by
 unfold dFlat at hd
 split at hd
 ·rename_i x1 hx1 y1 hy1 z1 hz1 x2 hx2 y2 hy2 z2 hz2 x3 hx3 y3 hy3 z3 hz3
  cases hd
  refine ⟨[.agg [.int x1 hx1, .int y1 hy1, .int z1 hz1, .int x2 hx2, .int y2 hy2, .int z2 hz2, .int x3 hx3, .int y3 hy3, .int z3 hz3]], fun _=>rfl,fun _ _=>rfl,fun _ _=>rfl,fun _ => ?_⟩
  conv => whnf
  exact fun ρ => sbool_e (flat_eq (normZ ⟨x1, y1, z1⟩ ⟨x2, y2, z2⟩ ⟨x3, y3, z3⟩)) ρ
 ·cases hd
def dNormal : Dn
 | [.agg [.int x1 hx1, .int y1 hy1, .int z1 hz1, .int x2 hx2, .int y2 hy2, .int z2 hz2, .int x3 hx3, .int y3 hy3, .int z3 hz3]] =>
  some (none, .agg [.wid 517 ((normZ ⟨x1, y1, z1⟩ ⟨x2, y2, z2⟩ ⟨x3, y3, z3⟩).x) (sm_subj (Sm.mul (sm_subj (smI hy2) (smI hy1)) (sm_subj (smI hz3) (smI hz1))) (Sm.mul (sm_subj (smI hz2) (smI hz1)) (sm_subj (smI hy3) (smI hy1)))), .wid 517 ((normZ ⟨x1, y1, z1⟩ ⟨x2, y2, z2⟩ ⟨x3, y3, z3⟩).y) (sm_subj (Sm.mul (sm_subj (smI hz2) (smI hz1)) (sm_subj (smI hx3) (smI hx1))) (Sm.mul (sm_subj (smI hx2) (smI hx1)) (sm_subj (smI hz3) (smI hz1)))), .wid 517 ((normZ ⟨x1, y1, z1⟩ ⟨x2, y2, z2⟩ ⟨x3, y3, z3⟩).z) (sm_subj (Sm.mul (sm_subj (smI hx2) (smI hx1)) (sm_subj (smI hy3) (smI hy1))) (Sm.mul (sm_subj (smI hy2) (smI hy1)) (sm_subj (smI hx3) (smI hx1))))])
 | _ => none
theorem spNormal : SpOk Tryz.prog 45 dNormal := sp_of2 (un := 20) (n := 0) ⟨Tryz.func45, by kernel_rfl, by kernel_rfl⟩ baseF2_ok noF_ok fun args p v hd => by
 unfold dNormal at hd
 split at hd
 ·rename_i x1 hx1 y1 hy1 z1 hz1 x2 hx2 y2 hy2 z2 hz2 x3 hx3 y3 hy3 z3 hz3
  cases hd
  refine ⟨[.agg [.int x1 hx1, .int y1 hy1, .int z1 hz1, .int x2 hx2, .int y2 hy2, .int z2 hz2, .int x3 hx3, .int y3 hy3, .int z3 hz3]], fun _=>rfl,fun _ _=>rfl,fun _ _=>rfl,fun _ => ?_⟩
  conv => whnf
  exact fun _=>rfl
 ·cases hd
def baseF3 : List (FuncId × Dn) := (43, dFlat) :: (45, dNormal) :: baseF2
theorem baseF3_ok : AllOk baseF3 := .cons spFlat <| .cons spNormal <| baseF2_ok
end Go.Proofs.YtocbklodkcdhkaaGreatDoor

namespace Go.Proofs.YtocbklodkcdhkaaGreatDoor
open Go.RowKit
set_option maxRecDepth 100000

theorem pass1 {d a b c : V3} (h : (!decide (sideZ d a b = 0)) = false) : passZ d a b c = false := by
 unfold passZ; rw [decide_not, h]; rfl
theorem pass2 {d a b c : V3} (h1 : decide (sideZ d b c = sideZ d a b) = false) : passZ d a b c = false := by
 unfold passZ; rw [h1, Bool.false_and, Bool.and_false]
theorem pass3 {d a b c : V3} (h : (!decide (sideZ d a b = 0)) = true) (h1 : decide (sideZ d b c = sideZ d a b) = true) : passZ d a b c = decide (sideZ d c a = sideZ d a b) := by
 unfold passZ; rw [decide_not, h, h1]; rfl
noncomputable def fxPs : FuncId → Option Func := lk [(63, Tryz.f63)]
theorem fxPs_ok : ∀ f fn, fxPs f = some fn → FnOk Tryz.prog f fn := lkF_ok fun x hx => by
 simp only [List.mem_cons, List.not_mem_nil, or_false] at hx
 subst hx
 ·exact ⟨Tryz.func63, by kernel_rfl, by kernel_rfl⟩
def dRPass : Dn
 | [.agg [.wid jd0 d0 _, .wid jd1 d1 _, .wid jd2 d2 _], .agg [.wid ja0 a0 _, .wid ja1 a1 _, .wid ja2 a2 _, .wid jb0 b0 _, .wid jb1 b1 _, .wid jb2 b2 _, .wid jc0 c0 _, .wid jc1 c1 _, .wid jc2 c2 _]] =>
  if jd0 ≤ 100000 ∧ jd1 ≤ 100000 ∧ jd2 ≤ 100000 ∧ ja0 ≤ 100000 ∧ ja1 ≤ 100000 ∧ ja2 ≤ 100000 ∧ jb0 ≤ 100000 ∧ jb1 ≤ 100000 ∧ jb2 ≤ 100000 ∧ jc0 ≤ 100000 ∧ jc1 ≤ 100000 ∧ jc2 ≤ 100000 then some (none, .c (.val (.bool (passZ (⟨d0, d1, d2⟩ : V3) (⟨a0, a1, a2⟩ : V3) (⟨b0, b1, b2⟩ : V3) (⟨c0, c1, c2⟩ : V3))))) else none
 | _ => none
set_option maxHeartbeats 4000000 in
theorem spRPass : SpOk Tryz.prog 44 dRPass := sp_of2 (un := 20) (n := 3) ⟨Tryz.func44, by kernel_rfl, by kernel_rfl⟩ baseF3_ok fxPs_ok fun args p v hd => by
 unfold dRPass at hd
 split at hd
 ·rename_i jd0 d0 hd0 jd1 d1 hd1 jd2 d2 hd2 ja0 a0 ha0 ja1 a1 ha1 ja2 a2 ha2 jb0 b0 hb0 jb1 b1 hb1 jb2 b2 hb2 jc0 c0 hc0 jc1 c1 hc1 jc2 c2 hc2
  split at hd
  ·rename_i hcon
   cases hd
   refine ⟨[.agg [.wid 100000 d0 (hd0.mono hcon.1), .wid 100000 d1 (hd1.mono hcon.2.1), .wid 100000 d2 (hd2.mono hcon.2.2.1)], .agg [.wid 100000 a0 (ha0.mono hcon.2.2.2.1), .wid 100000 a1 (ha1.mono hcon.2.2.2.2.1), .wid 100000 a2 (ha2.mono hcon.2.2.2.2.2.1), .wid 100000 b0 (hb0.mono hcon.2.2.2.2.2.2.1), .wid 100000 b1 (hb1.mono hcon.2.2.2.2.2.2.2.1), .wid 100000 b2 (hb2.mono hcon.2.2.2.2.2.2.2.2.1), .wid 100000 c0 (hc0.mono hcon.2.2.2.2.2.2.2.2.2.1), .wid 100000 c1 (hc1.mono hcon.2.2.2.2.2.2.2.2.2.2.1), .wid 100000 c2 (hc2.mono hcon.2.2.2.2.2.2.2.2.2.2.2)]], fun _=>rfl,fun _ _=>rfl,fun _ _=>rfl,fun _ => ?_⟩
   conv => whnf
   refine bcase_intro (fun h0 => ?_) (fun h0 => ?_)
   ·have h0 : (!decide (sideZ (⟨d0, d1, d2⟩ : V3) (⟨a0, a1, a2⟩ : V3) (⟨b0, b1, b2⟩ : V3) = 0)) = true := h0
    conv => whnf
    refine bcase_intro (fun h1 => ?_) (fun h1 => ?_)
    ·have h1 : decide (sideZ (⟨d0, d1, d2⟩ : V3) (⟨b0, b1, b2⟩ : V3) (⟨c0, c1, c2⟩ : V3) = sideZ (⟨d0, d1, d2⟩ : V3) (⟨a0, a1, a2⟩ : V3) (⟨b0, b1, b2⟩ : V3)) = true := h1
     conv => whnf
     exact fun ρ => sbool_e (Eq.symm (pass3 h0 h1)) ρ
    ·have h1 : decide (sideZ (⟨d0, d1, d2⟩ : V3) (⟨b0, b1, b2⟩ : V3) (⟨c0, c1, c2⟩ : V3) = sideZ (⟨d0, d1, d2⟩ : V3) (⟨a0, a1, a2⟩ : V3) (⟨b0, b1, b2⟩ : V3)) = false := h1
     conv => whnf
     exact fun ρ => sbool_e (Eq.symm (pass2 h1)) ρ
   ·have h0 : (!decide (sideZ (⟨d0, d1, d2⟩ : V3) (⟨a0, a1, a2⟩ : V3) (⟨b0, b1, b2⟩ : V3) = 0)) = false := h0
    conv => whnf
    exact fun ρ => sbool_e (Eq.symm (pass1 h0)) ρ
  ·cases hd
 ·cases hd
def baseG : List (FuncId × Dn) := (44, dRPass) :: baseF3
theorem baseG_ok : AllOk baseG := .cons spRPass <| baseF3_ok
def baseG1 : List (FuncId × Dn) := baseG
theorem baseG1_ok : AllOk baseG1 := baseG_ok
def baseG2 : List (FuncId × Dn) := baseG1
theorem baseG2_ok : AllOk baseG2 := baseG1_ok
end Go.Proofs.YtocbklodkcdhkaaGreatDoor
