/- Rows: integers, strings and lists of bytes as arguments. -/
import Derived.Test.YtbhcmajeoamloaaDoorRowW
namespace Go.Proofs.YtbhcmajeoamloaaDoor
open Go.ChangeShapes Go.WideShapes Go.ChangeAt Go.RowKit
set_option maxRecDepth 100000

section
variable {H : Type} {enc : TypeId × Value → H} {w : World} {base : Nat} {sp : Nat → Bool} {held : Bool}
theorem open_i64 {b0 : Nat} {v : Value} {d : DataW H} {ps : List MemPlace} (hval : Value.okWide Tryd.prog w .any b0 3 v) (hd : DataW.Trod enc Tryd.prog w base sp held 3 v d ps) : ∃ z : Int, v = .int .i64 z ∧ IR z := by
  obtain ⟨n, rfl, _, _, hw⟩ := open_int u3 hval hd
  exact ⟨n, rfl, bounds_i64 hw⟩
end
end Go.Proofs.YtbhcmajeoamloaaDoor
