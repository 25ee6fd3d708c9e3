/- bits.Len64, off the kit's shelf, for the reckoner. -/
import Derived.Shelf.Lay
import Derived.Shelf.Strconv.Itoa0
import Derived.Test.YtdjpbccaglkafaaDoorSpec
namespace Go.Proofs
open Go.Shelf
shelf_lay Lays.n129 Nm 129 at Tryd as Tryd.lays129
end Go.Proofs
namespace Go.Proofs.YtdjpbccaglkafaaDoor
open Go.RowKit Go.Shelf
set_option maxRecDepth 100000

theorem len64_calls (x : Int) (w : World) (h0 : 0 ≤ x) (h1 : x ≤ 18446744073709551615) :
    Calls Tryd.prog 59 #[.int .u64 x] w fun e w' => e = .returned (.int .i64 (Lib.bitLen x.toNat)) ∧ w' = w := Any.bits_Len64 Tryd.lays129 x w h0 h1
theorem bitLenAux_le : ∀ f x, Lib.bitLenAux f x ≤ f
  | 0, _ => Nat.le_refl _
  | f + 1, x => by
    unfold Lib.bitLenAux
    split
    · omega
    · have := bitLenAux_le f (x / 2); omega
theorem bitLenAux_small : ∀ {f k x : Nat}, k ≤ f → (Lib.bitLenAux f x ≤ k ↔ x < 2 ^ k ∨ f = k)
  | 0, k, x, h => ⟨fun _ => .inr (by omega), fun _ => Nat.zero_le _⟩
  | f + 1, 0, x, _ => by
    unfold Lib.bitLenAux
    split
    · rename_i h; subst h; exact ⟨fun _ => .inl (by decide), fun _ => Nat.le_refl _⟩
    · exact ⟨fun h => by omega, fun h => by rcases h with h | h <;> omega⟩
  | f + 1, k + 1, x, h => by
    unfold Lib.bitLenAux
    split
    · rename_i h; subst h; exact ⟨fun _ => .inl (Nat.two_pow_pos _), fun _ => Nat.zero_le _⟩
    · have ih := bitLenAux_small (f := f) (k := k) (x := x / 2) (by omega)
      rw [Nat.pow_succ]
      constructor
      · intro h2
        rcases ih.1 (by omega) with h3 | h3
        · exact .inl (by omega)
        · exact .inr (by omega)
      · intro h2
        have := ih.2 (by rcases h2 with h2 | h2; exact .inl (by omega); exact .inr (by omega))
        omega
theorem ir_len (x : Nat) : IR (Lib.bitLen x : Nat) := by
  have := bitLenAux_le 64 x
  unfold IR; show (_ : Int) ≤ ((Lib.bitLenAux 64 x : Nat) : Int) ∧ ((Lib.bitLenAux 64 x : Nat) : Int) ≤ _
  omega
theorem len_18 (x : Nat) : decide ((18 : Int) < (Lib.bitLen x : Nat)) = decide (262144 ≤ x) := by
  have := bitLenAux_small (f := 64) (k := 18) (x := x) (by decide)
  apply decide_eq_decide.2
  show (18 : Int) < ((Lib.bitLenAux 64 x : Nat) : Int) ↔ _
  constructor
  · intro h
    by_cases h2 : x < 262144
    · have := this.2 (.inl h2); omega
    · omega
  · intro h
    by_cases h2 : Lib.bitLenAux 64 x ≤ 18
    · rcases this.1 h2 with h3 | h3
      · have : (2 : Nat) ^ 18 = 262144 := by decide
        omega
      · omega
    · omega
def dLen64 : Dn
  | [.c (.val (.int .u64 x))] => some (some (0 ≤ x ∧ x ≤ 18446744073709551615), .c (.int (Lib.bitLen x.toNat : Nat) (ir_len _)))
  | _ => none
theorem spLen64 : SpOk Tryd.prog 59 dLen64 := by
  refine ⟨⟨_, Tryd.func59, by kernel_rfl, by kernel_rfl⟩, fun args p v hd => ?_⟩
  unfold dLen64 at hd
  split at hd
  · rename_i x
    cases hd
    refine ⟨fun _ _ => rfl, fun hp ρ w => ?_⟩
    obtain ⟨h0, h1⟩ := hp _ rfl
    exact (len64_calls x w h0 h1).mono fun e w' he => ⟨he.1, by rw [he.2]; exact Below.refl _ _⟩
  · cases hd
end Go.Proofs.YtdjpbccaglkafaaDoor
