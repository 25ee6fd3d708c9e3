/- Points and vectors: plain definitions. Numbers as arguments, canonical alone. -/
import Derived.Test.YtdjpbccaglkafaaDoorNumA
import Derived.Test.YtdjpbccaglkafaaDoorExact3
namespace Go.Proofs.YtdjpbccaglkafaaDoor
open Go.RowKit
set_option maxRecDepth 100000

/-- the first sign that is not 0 -/
def sgL : List Int → Int
  | [] => 0
  | x :: l => if x.sign = 0 then sgL l else x.sign
theorem ir_sgL : ∀ l : List Int, IR (sgL l)
  | [] => by decide
  | x :: l => by unfold sgL; split; exact ir_sgL l; exact ir_sign x
theorem sgL_z {x : Int} {l : List Int} (h : x.sign = 0) : sgL (x :: l) = sgL l := by
  conv => lhs; unfold sgL
  rw [if_pos h]
theorem sgL_n {x : Int} {l : List Int} (h : x.sign ≠ 0) : sgL (x :: l) = x.sign := by
  conv => lhs; unfold sgL
  rw [if_neg h]
structure V3 where
  x : Int
  y : Int
  z : Int
def V3.sub (a b : V3) : V3 := ⟨a.x - b.x, a.y - b.y, a.z - b.z⟩
def V3.dot (a b : V3) : Int := a.x * b.x + a.y * b.y + a.z * b.z
def V3.cross (a b : V3) : V3 := ⟨a.y * b.z - a.z * b.y, a.z * b.x - a.x * b.z, a.x * b.y - a.y * b.x⟩
def sgV (n : Int) (v : V3) : Int := sgL [n, v.x, v.y, v.z]
def normZ (p q s : V3) : V3 := (q.sub p).cross (s.sub p)
def V3.isZ (v : V3) : Bool := decide (v.x = 0) && (decide (v.y = 0) && decide (v.z = 0))
end Go.Proofs.YtdjpbccaglkafaaDoor

namespace Go.Proofs.YtdjpbccaglkafaaDoor
open Go.RowKit
set_option maxRecDepth 100000

/-- contracts at canonical numbers: nothing owed -/
def num1w (cap : Nat) (g : NA → SV) : Dn
  | [.agg [.wid k z h]] => if k ≤ cap then some (none, g ⟨k, z, h⟩) else none
  | _ => none
theorem spn1w {f : FuncId} {cap : Nat} {g : NA → SV} (h : SpOk Tryd.prog f (num1c cap g)) : SpOk Tryd.prog f (num1w cap g) := ⟨h.1, fun args p v hd => by
  unfold num1w at hd
  split at hd
  · rename_i k z hz
    split at hd
    · rename_i hk
      cases hd
      have := h.2 _ _ _ (show num1c cap g [.agg [.wid k z hz]] = some (some (k ≤ cap), g ⟨k, z, hz⟩) from rfl)
      exact ⟨this.1, fun _ => this.2 (fun q hq => by cases hq; exact hk)⟩
    · cases hd
  · cases hd⟩
def signV (X : NA) : SV := .c (.int X.z.sign (ir_sign _))
def dSignY : Dn := num1w 80000000 signV
def baseY4 : List (FuncId × Dn) := (51, dSignY) :: (58, dSignY) :: base1
theorem baseY4_ok : AllOk baseY4 := .cons (spn1w spSignA) <| .cons (spn1w spRSignA) <| base1_ok
theorem sint_e {a b : Int} {ha : IR a} {hb : IR b} (e : a = b) (ρ : Rho) : (SV.c (.int a ha)).den ρ = (SV.c (.int b hb)).den ρ := by subst e; rfl
theorem sbool_e {a b : Bool} (e : a = b) (ρ : Rho) : (SV.c (.val (.bool a))).den ρ = (SV.c (.val (.bool b))).den ρ := by subst e; rfl
theorem wid1_sv {k j : Nat} {z y : Int} (h : Sm k z) (h' : Sm j y) (e : z = y) (ρ : Rho) : (SV.agg [.wid k z h]).den ρ = (SV.agg [.wid j y h']).den ρ := by subst e; rfl
theorem sm_dot {k0 k1 k2 j0 j1 j2 : Nat} {u0 u1 u2 v0 v1 v2 : Int} (h0 : Sm k0 u0) (h1 : Sm k1 u1) (h2 : Sm k2 u2) (i0 : Sm j0 v0) (i1 : Sm j1 v1) (i2 : Sm j2 v2) : Sm (k0 + j0 + (k1 + j1) + 1 + (k2 + j2) + 1) (V3.dot ⟨u0, u1, u2⟩ ⟨v0, v1, v2⟩) :=
  sm_addj (sm_addj (h0.mul i0) (h1.mul i1)) (h2.mul i2)
theorem dot_zero (u0 u1 u2 v0 v1 v2 : Int) : 0 + u0 * v0 + u1 * v1 + u2 * v2 = V3.dot ⟨u0, u1, u2⟩ ⟨v0, v1, v2⟩ := by rw [Int.zero_add]; rfl
end Go.Proofs.YtdjpbccaglkafaaDoor
