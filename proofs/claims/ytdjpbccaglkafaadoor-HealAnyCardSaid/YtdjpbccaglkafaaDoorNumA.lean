/- Numbers as arguments, canonical or not, for the reckoner. -/
import Derived.Test.YtdjpbccaglkafaaDoorNab
import Derived.Test.YtdjpbccaglkafaaDoorWka
import Derived.Test.YtdjpbccaglkafaaDoorWkb
namespace Go.Proofs.YtdjpbccaglkafaaDoor
open Go.RowKit
set_option maxRecDepth 100000

/-- a number among the arguments: how many bits, its value -/
structure NA where
  k : Nat
  z : Int
  h : Sm k z
def numOf : List C → Option NA
  | [.wid k z h] => some ⟨k, z, h⟩
  | [.val (.bool b), .val (.string s)] => some ⟨8 * s.size, ival b s.data.toList, Sm.ofBytes (Nat.le_of_eq Array.length_toList)⟩
  | _ => none
theorem numOf_ok {x : List C} {X : NA} (h : numOf x = some X) : ∃ b s, NumA x b s ∧ Num (X.k + 7) b s X.z := by
  unfold numOf at h
  split at h
  · cases h
    exact ⟨_, _, NumA.wid, num_wid (by assumption)⟩
  · rename_i b s
    cases h
    exact ⟨b, s, NumA.raw, rfl, Nat.le_add_right _ _⟩
  · cases h
theorem args2_den {x y : List C} {b c : Bool} {s t : ByteArray} (hx : NumA x b s) (hy : NumA y c t) (ρ : Rho) : (([.agg x, .agg y] : List SV).map (SV.den ρ)).toArray = #[.agg #[.bool b, .string s], .agg #[.bool c, .string t]] := by
  show #[(SV.agg x).den ρ, (SV.agg y).den ρ] = _
  rw [hx.den ρ, hy.den ρ]; rfl
theorem args1_den {x : List C} {b : Bool} {s : ByteArray} (hx : NumA x b s) (ρ : Rho) : (([.agg x] : List SV).map (SV.den ρ)).toArray = #[.agg #[.bool b, .string s]] := by
  show #[(SV.agg x).den ρ] = _
  rw [hx.den ρ]; rfl
def num2c (cap : Nat) (f : NA → NA → SV) : Dn
  | [.agg x, .agg y] => (match numOf x, numOf y with | some X, some Y => some (some (X.k ≤ cap ∧ Y.k ≤ cap), f X Y) | _, _ => none)
  | _ => none
def num1c (cap : Nat) (f : NA → SV) : Dn
  | [.agg x] => (match numOf x with | some X => some (some (X.k ≤ cap), f X) | none => none)
  | _ => none
abbrev num2 (f : NA → NA → SV) : Dn := num2c 80000000 f
abbrev num1 (f : NA → SV) : Dn := num1c 80000000 f
/-- functions of two numbers -/
theorem sp_num2 {f : FuncId} (hc : Callable Tryd.prog f) {cap : Nat} {g : NA → NA → SV} (hp : ∀ X Y ρ ρ', (g X Y).den ρ = (g X Y).den ρ')
    (h : ∀ X Y : NA, X.k ≤ cap → Y.k ≤ cap → ∀ b s c t, Num (X.k + 7) b s X.z → Num (Y.k + 7) c t Y.z → ∀ ρ w, Calls Tryd.prog f #[.agg #[.bool b, .string s], .agg #[.bool c, .string t]] w fun e w' => e = .returned ((g X Y).den ρ) ∧ Below w.heap.size w w') : SpOk Tryd.prog f (num2c cap g) := by
  refine ⟨hc, fun args p v hd => ?_⟩
  unfold num2c at hd
  split at hd
  · rename_i x y
    split at hd
    · rename_i X Y hX hY
      cases hd
      obtain ⟨b, s, nX, eX⟩ := numOf_ok hX
      obtain ⟨c, t, nY, eY⟩ := numOf_ok hY
      refine ⟨hp X Y, fun ho ρ w => ?_⟩
      obtain ⟨kX, kY⟩ := ho _ rfl
      rw [args2_den nX nY]
      exact h X Y kX kY b s c t eX eY ρ w
    · cases hd
  · cases hd
theorem sp_num1 {f : FuncId} (hc : Callable Tryd.prog f) {cap : Nat} {g : NA → SV} (hp : ∀ X ρ ρ', (g X).den ρ = (g X).den ρ')
    (h : ∀ X : NA, X.k ≤ cap → ∀ b s, Num (X.k + 7) b s X.z → ∀ ρ w, Calls Tryd.prog f #[.agg #[.bool b, .string s]] w fun e w' => e = .returned ((g X).den ρ) ∧ Below w.heap.size w w') : SpOk Tryd.prog f (num1c cap g) := by
  refine ⟨hc, fun args p v hd => ?_⟩
  unfold num1c at hd
  split at hd
  · rename_i x
    split at hd
    · rename_i X hX
      cases hd
      obtain ⟨b, s, nX, eX⟩ := numOf_ok hX
      refine ⟨hp X, fun ho ρ w => ?_⟩
      rw [args1_den nX]
      exact h X (ho _ rfl) b s eX ρ w
    · cases hd
  · cases hd
theorem ir_sign (z : Int) : IR z.sign := by unfold IR; rcases z with (_ | _) | _ <;> simp [Int.sign]
def dMulA : Dn := num2 fun X Y => .agg [.wid (X.k + Y.k) (X.z * Y.z) (X.h.mul Y.h)]
def dAddA : Dn := num2 fun X Y => .agg [.wid (X.k + Y.k + 1) (X.z + Y.z) (sm_addj X.h Y.h)]
def dSubA : Dn := num2 fun X Y => .agg [.wid (X.k + Y.k + 1) (X.z - Y.z) (sm_subj X.h Y.h)]
def dNegA : Dn := num1 fun X => .agg [.wid X.k (-X.z) X.h.neg]
def dSignA : Dn := num1 fun X => .c (.int X.z.sign (ir_sign _))
def dCmpA : Dn := num2 fun X Y => .c (.int (X.z - Y.z).sign (ir_sign _))
theorem spMulA : SpOk Tryd.prog 63 dMulA := sp_num2 ⟨_, Tryd.func63, by kernel_rfl, by kernel_rfl⟩ (fun _ _ _ _ => rfl) fun X Y kX kY b s c t nX nY ρ w => (Mul_any nX nY (by omega) (by omega) w).mono fun e w' he => gives_sp he ρ _
theorem spAddA : SpOk Tryd.prog 69 dAddA := sp_num2 ⟨_, Tryd.func69, by kernel_rfl, by kernel_rfl⟩ (fun _ _ _ _ => rfl) fun X Y kX kY b s c t nX nY ρ w => (Add_any nX nY (by omega) (by omega) w).mono fun e w' he => gives_sp he ρ _
theorem spSubA : SpOk Tryd.prog 61 dSubA := sp_num2 ⟨_, Tryd.func61, by kernel_rfl, by kernel_rfl⟩ (fun _ _ _ _ => rfl) fun X Y kX kY b s c t nX nY ρ w => (Sub_any nX nY (by omega) (by omega) w).mono fun e w' he => gives_sp he ρ _
theorem spNegA : SpOk Tryd.prog 70 dNegA := sp_num1 ⟨_, Tryd.func70, by kernel_rfl, by kernel_rfl⟩ (fun _ _ _ => rfl) fun X kX b s nX ρ w => (Neg_any nX (by omega) w).mono fun e w' he => gives_sp he ρ _
theorem spSignA : SpOk Tryd.prog 51 dSignA := sp_num1 ⟨_, Tryd.func51, by kernel_rfl, by kernel_rfl⟩ (fun _ _ _ => rfl) fun X kX b s nX ρ w => Sign_any nX (by omega) w
theorem spRMulA : SpOk Tryd.prog 74 dMulA := sp_num2 ⟨_, Tryd.func74, by kernel_rfl, by kernel_rfl⟩ (fun _ _ _ _ => rfl) fun X Y kX kY b s c t nX nY ρ w => (RMul_any nX nY (by omega) (by omega) w).mono fun e w' he => gives_sp he ρ _
theorem spRAddA : SpOk Tryd.prog 75 dAddA := sp_num2 ⟨_, Tryd.func75, by kernel_rfl, by kernel_rfl⟩ (fun _ _ _ _ => rfl) fun X Y kX kY b s c t nX nY ρ w => (RAdd_any nX nY (by omega) (by omega) w).mono fun e w' he => gives_sp he ρ _
theorem spRSubA : SpOk Tryd.prog 66 dSubA := sp_num2 ⟨_, Tryd.func66, by kernel_rfl, by kernel_rfl⟩ (fun _ _ _ _ => rfl) fun X Y kX kY b s c t nX nY ρ w => (RSub_any nX nY (by omega) (by omega) w).mono fun e w' he => gives_sp he ρ _
theorem spRNegA : SpOk Tryd.prog 76 dNegA := sp_num1 ⟨_, Tryd.func76, by kernel_rfl, by kernel_rfl⟩ (fun _ _ _ => rfl) fun X kX b s nX ρ w => (RNeg_any nX (by omega) w).mono fun e w' he => gives_sp he ρ _
theorem spRSignA : SpOk Tryd.prog 58 dSignA := sp_num1 ⟨_, Tryd.func58, by kernel_rfl, by kernel_rfl⟩ (fun _ _ _ => rfl) fun X kX b s nX ρ w => RSign_any nX (by omega) w
def baseA : List (FuncId × Dn) := [(62, dFrom), (63, dMulA), (69, dAddA), (61, dSubA), (70, dNegA), (51, dSignA), (67, dFrom), (74, dMulA), (75, dAddA), (66, dSubA), (76, dNegA), (58, dSignA)]
theorem baseA_ok : AllOk baseA := .cons (spFrom ⟨_, Tryd.func62, by kernel_rfl, by kernel_rfl⟩ From_any) <| .cons spMulA <| .cons spAddA <| .cons spSubA <| .cons spNegA <| .cons spSignA <| .cons (spFrom ⟨_, Tryd.func67, by kernel_rfl, by kernel_rfl⟩ RFrom_any) <| .cons spRMulA <| .cons spRAddA <| .cons spRSubA <| .cons spRNegA <| .cons spRSignA <| .nil
end Go.Proofs.YtdjpbccaglkafaaDoor
