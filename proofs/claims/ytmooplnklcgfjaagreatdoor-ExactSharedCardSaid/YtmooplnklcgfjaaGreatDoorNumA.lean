/- Numbers as arguments, canonical or not, for the reckoner. -/
import Derived.Test.YtmooplnklcgfjaaGreatDoorNab
import Derived.Test.YtmooplnklcgfjaaGreatDoorWka
import Derived.Test.YtmooplnklcgfjaaGreatDoorWkb
namespace Go.Proofs.YtmooplnklcgfjaaGreatDoor
open Go.RowKit
set_option maxRecDepth 100000

/-- a number among the arguments: how many bits, its value -/
structure NA where
  k : Nat
  z : Int
  h : Sm k z
def numOf : List C → Option NA
  | [.wid k z h] => some ⟨k, z, h⟩
  | [.val (.bool b), .val (.string s)] => some ⟨8 * s.size, ival b s.data.toList, Sm.ofBytes (Nat.le_of_eq Array.length_toList)⟩
  | _ => none
theorem numOf_ok {x : List C} {X : NA} (h : numOf x = some X) : ∃ b s, NumA x b s ∧ Num (X.k + 7) b s X.z := by
  unfold numOf at h
  split at h
  · cases h
    exact ⟨_, _, NumA.wid, num_wid (by assumption)⟩
  · rename_i b s
    cases h
    exact ⟨b, s, NumA.raw, rfl, Nat.le_add_right _ _⟩
  · cases h
theorem args2_den {x y : List C} {b c : Bool} {s t : ByteArray} (hx : NumA x b s) (hy : NumA y c t) (ρ : Rho) : (([.agg x, .agg y] : List SV).map (SV.den ρ)).toArray = #[.agg #[.bool b, .string s], .agg #[.bool c, .string t]] := by
  show #[(SV.agg x).den ρ, (SV.agg y).den ρ] = _
  rw [hx.den ρ, hy.den ρ]; rfl
theorem args1_den {x : List C} {b : Bool} {s : ByteArray} (hx : NumA x b s) (ρ : Rho) : (([.agg x] : List SV).map (SV.den ρ)).toArray = #[.agg #[.bool b, .string s]] := by
  show #[(SV.agg x).den ρ] = _
  rw [hx.den ρ]; rfl
def num2c (cap : Nat) (f : NA → NA → SV) : Dn
  | [.agg x, .agg y] => (match numOf x, numOf y with | some X, some Y => some (some (X.k ≤ cap ∧ Y.k ≤ cap), f X Y) | _, _ => none)
  | _ => none
def num1c (cap : Nat) (f : NA → SV) : Dn
  | [.agg x] => (match numOf x with | some X => some (some (X.k ≤ cap), f X) | none => none)
  | _ => none
abbrev num2 (f : NA → NA → SV) : Dn := num2c 80000000 f
abbrev num1 (f : NA → SV) : Dn := num1c 80000000 f
/-- functions of two numbers -/
theorem sp_num2 {f : FuncId} (hc : Callable Tryz.prog f) {cap : Nat} {g : NA → NA → SV} (hp : ∀ X Y ρ ρ', (g X Y).den ρ = (g X Y).den ρ')
    (h : ∀ X Y : NA, X.k ≤ cap → Y.k ≤ cap → ∀ b s c t, Num (X.k + 7) b s X.z → Num (Y.k + 7) c t Y.z → ∀ ρ w, Calls Tryz.prog f #[.agg #[.bool b, .string s], .agg #[.bool c, .string t]] w fun e w' => e = .returned ((g X Y).den ρ) ∧ Below w.heap.size w w') : SpOk Tryz.prog f (num2c cap g) := by
  refine ⟨hc, fun args p v hd => ?_⟩
  unfold num2c at hd
  split at hd
  · rename_i x y
    split at hd
    · rename_i X Y hX hY
      cases hd
      obtain ⟨b, s, nX, eX⟩ := numOf_ok hX
      obtain ⟨c, t, nY, eY⟩ := numOf_ok hY
      refine ⟨hp X Y, fun ho ρ w => ?_⟩
      obtain ⟨kX, kY⟩ := ho _ rfl
      rw [args2_den nX nY]
      exact h X Y kX kY b s c t eX eY ρ w
    · cases hd
  · cases hd
theorem sp_num1 {f : FuncId} (hc : Callable Tryz.prog f) {cap : Nat} {g : NA → SV} (hp : ∀ X ρ ρ', (g X).den ρ = (g X).den ρ')
    (h : ∀ X : NA, X.k ≤ cap → ∀ b s, Num (X.k + 7) b s X.z → ∀ ρ w, Calls Tryz.prog f #[.agg #[.bool b, .string s]] w fun e w' => e = .returned ((g X).den ρ) ∧ Below w.heap.size w w') : SpOk Tryz.prog f (num1c cap g) := by
  refine ⟨hc, fun args p v hd => ?_⟩
  unfold num1c at hd
  split at hd
  · rename_i x
    split at hd
    · rename_i X hX
      cases hd
      obtain ⟨b, s, nX, eX⟩ := numOf_ok hX
      refine ⟨hp X, fun ho ρ w => ?_⟩
      rw [args1_den nX]
      exact h X (ho _ rfl) b s eX ρ w
    · cases hd
  · cases hd
theorem ir_sign (z : Int) : IR z.sign := by unfold IR; rcases z with (_ | _) | _ <;> simp [Int.sign]
def dMulA : Dn := num2 fun X Y => .agg [.wid (X.k + Y.k) (X.z * Y.z) (X.h.mul Y.h)]
def dAddA : Dn := num2 fun X Y => .agg [.wid (X.k + Y.k + 1) (X.z + Y.z) (sm_addj X.h Y.h)]
def dSubA : Dn := num2 fun X Y => .agg [.wid (X.k + Y.k + 1) (X.z - Y.z) (sm_subj X.h Y.h)]
def dNegA : Dn := num1 fun X => .agg [.wid X.k (-X.z) X.h.neg]
def dSignA : Dn := num1 fun X => .c (.int X.z.sign (ir_sign _))
def dCmpA : Dn := num2 fun X Y => .c (.int (X.z - Y.z).sign (ir_sign _))
theorem spMulA : SpOk Tryz.prog 74 dMulA := sp_num2 ⟨_, Tryz.func74, by kernel_rfl, by kernel_rfl⟩ (fun _ _ _ _ => rfl) fun X Y kX kY b s c t nX nY ρ w => (Mul_any nX nY (by omega) (by omega) w).mono fun e w' he => gives_sp he ρ _
theorem spAddA : SpOk Tryz.prog 77 dAddA := sp_num2 ⟨_, Tryz.func77, by kernel_rfl, by kernel_rfl⟩ (fun _ _ _ _ => rfl) fun X Y kX kY b s c t nX nY ρ w => (Add_any nX nY (by omega) (by omega) w).mono fun e w' he => gives_sp he ρ _
theorem spSubA : SpOk Tryz.prog 71 dSubA := sp_num2 ⟨_, Tryz.func71, by kernel_rfl, by kernel_rfl⟩ (fun _ _ _ _ => rfl) fun X Y kX kY b s c t nX nY ρ w => (Sub_any nX nY (by omega) (by omega) w).mono fun e w' he => gives_sp he ρ _
theorem spNegA : SpOk Tryz.prog 90 dNegA := sp_num1 ⟨_, Tryz.func90, by kernel_rfl, by kernel_rfl⟩ (fun _ _ _ => rfl) fun X kX b s nX ρ w => (Neg_any nX (by omega) w).mono fun e w' he => gives_sp he ρ _
theorem spSignA : SpOk Tryz.prog 49 dSignA := sp_num1 ⟨_, Tryz.func49, by kernel_rfl, by kernel_rfl⟩ (fun _ _ _ => rfl) fun X kX b s nX ρ w => Sign_any nX (by omega) w
theorem spRMulA : SpOk Tryz.prog 84 dMulA := sp_num2 ⟨_, Tryz.func84, by kernel_rfl, by kernel_rfl⟩ (fun _ _ _ _ => rfl) fun X Y kX kY b s c t nX nY ρ w => (RMul_any nX nY (by omega) (by omega) w).mono fun e w' he => gives_sp he ρ _
theorem spRAddA : SpOk Tryz.prog 83 dAddA := sp_num2 ⟨_, Tryz.func83, by kernel_rfl, by kernel_rfl⟩ (fun _ _ _ _ => rfl) fun X Y kX kY b s c t nX nY ρ w => (RAdd_any nX nY (by omega) (by omega) w).mono fun e w' he => gives_sp he ρ _
theorem spRSubA : SpOk Tryz.prog 86 dSubA := sp_num2 ⟨_, Tryz.func86, by kernel_rfl, by kernel_rfl⟩ (fun _ _ _ _ => rfl) fun X Y kX kY b s c t nX nY ρ w => (RSub_any nX nY (by omega) (by omega) w).mono fun e w' he => gives_sp he ρ _
theorem spRNegA : SpOk Tryz.prog 101 dNegA := sp_num1 ⟨_, Tryz.func101, by kernel_rfl, by kernel_rfl⟩ (fun _ _ _ => rfl) fun X kX b s nX ρ w => (RNeg_any nX (by omega) w).mono fun e w' he => gives_sp he ρ _
theorem spRSignA : SpOk Tryz.prog 66 dSignA := sp_num1 ⟨_, Tryz.func66, by kernel_rfl, by kernel_rfl⟩ (fun _ _ _ => rfl) fun X kX b s nX ρ w => RSign_any nX (by omega) w
def baseA : List (FuncId × Dn) := [(72, dFrom), (74, dMulA), (77, dAddA), (71, dSubA), (90, dNegA), (49, dSignA), (18, dFrom), (84, dMulA), (83, dAddA), (86, dSubA), (101, dNegA), (66, dSignA)]
theorem baseA_ok : AllOk baseA := .cons (spFrom ⟨_, Tryz.func72, by kernel_rfl, by kernel_rfl⟩ From_any) <| .cons spMulA <| .cons spAddA <| .cons spSubA <| .cons spNegA <| .cons spSignA <| .cons (spFrom ⟨_, Tryz.func18, by kernel_rfl, by kernel_rfl⟩ RFrom_any) <| .cons spRMulA <| .cons spRAddA <| .cons spRSubA <| .cons spRNegA <| .cons spRSignA <| .nil
end Go.Proofs.YtmooplnklcgfjaaGreatDoor
