/- Bits of words, in the walk's form. -/
import Derived.Test.YtapppahniablmaaDoorAdd
namespace Go.Proofs.YtapppahniablmaaDoor
open Go.RowKit

/-- the walk's form of a word that is shifted to the left -/
theorem shl_form {x n : Nat} (h : x * 2 ^ n < 18446744073709551616) : IntKind.u64.wrap ((x : Int) * 2 ^ n) = ((x * 2 ^ n : Nat) : Int) := by
  have e : (x : Int) * 2 ^ n = ((x * 2 ^ n : Nat) : Int) := by rw [Int.natCast_mul, Int.natCast_pow]; rfl
  rw [e, IntKind.wrap_u64]
  omega
theorem shl_form_and {x n : Nat} (h : x * 2 ^ n < 18446744073709551616) : bits .and .u64 (IntKind.u64.wrap ((x : Int) * 2 ^ n)) 4294967295 = ((x * 2 ^ n % WB : Nat) : Int) := by
  rw [shl_form h]; exact and_mask _ _ rfl h
theorem or_nat {a b : Nat} (ha : a < 4294967296) (hb : b < 4294967296) : bits .or .u64 (a : Int) (b : Int) = ((a ||| b : Nat) : Int) := u64_or_nat a b (by omega) (by omega)

end Go.Proofs.YtapppahniablmaaDoor
