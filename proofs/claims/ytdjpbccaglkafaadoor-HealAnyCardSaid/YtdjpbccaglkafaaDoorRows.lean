/-
  NARROWER THAN 'FOR EVERY INPUT', by the rows' own cells (each row's printed sentence says how): HealExact: laid · HealAny: laid · HealFans: laid · HealClean: laid · HealTurned: laid · HealFlat: laid · HealOrder: laid · HealMoved: laid.
  DERIVED. THE GIVEN ROWS OF THIS SEAT. 8 by the template 'for every input the law returns true; each argument reads behind the call as it read before'; 0 by the template 'total and deterministic' (their statements: YtdjpbccaglkafaaDoorTotals.lean).
  GIVEN WITH THE SEED: the statements are not yours to turn. If you find one false, say at which input.
  Laid BY PROGRAM, IN A SANDBOX (cutbox-rows.mjs): the forced cells as the released guide's own fill.sh prints them over the translation a4e9d69dd10077a6… (all of the seat's roots in one cut). By AI agents, Wed Nov 11 2026. No macro, syntax, notation, axiom, sorry.
-/
import Derived.Test.YtdjpbccaglkafaaDoorChecked
import GoSem.PinnedTables
import GoSem.Claim
import GoSem.ClaimJoined
import GoSem.ClaimMapViews
import Derived.JoinedTies
import Derived.KernelRfl
namespace Go.Proofs.YtdjpbccaglkafaaDoor
/- THE CELL 'sum', in the pinned program and in every row, IS THE sha256 OF THE DUMP (.gsa) THAT YtdjpbccaglkafaaDoorProg.lean LOADS. Nothing in Lean hashes anything: it is a label: what it is worth is what the hold of that sum in a sandbox is worth. -/
noncomputable def Tryd.pinned : Pinned := { name := "ytdjpbccaglkafaadoor", sum := "a4e9d69dd10077a6aafa883a141bee8b4aa66c03e556a8c71bc8ed0b61dae85a", checked := Tryd.checked }
namespace Rows
def none {H : Type} : Left H := { results := [], args := [] }

/- WHAT THE LISTED PACKAGE-LEVEL VARIABLES READ AS WHEN THE CALL BEGINS. Each datum BY PROGRAM (the guide's laid-datum.mjs) off the statement by which the dump's own 'gosem.cut.vars' lays the variable. In a bare row this is a premise. The card (YtdjpbccaglkafaaDoorCards.lean) ties it to the program's text. -/
def laid_unicode_utf8_acceptRanges {H : Type} : DataW H := .agg [.agg [.lit (.int .u8 128), .lit (.int .u8 191)], .agg [.lit (.int .u8 160), .lit (.int .u8 191)], .agg [.lit (.int .u8 128), .lit (.int .u8 159)], .agg [.lit (.int .u8 144), .lit (.int .u8 191)], .agg [.lit (.int .u8 128), .lit (.int .u8 143)], .agg [.lit (.int .u8 0), .lit (.int .u8 0)], .agg [.lit (.int .u8 0), .lit (.int .u8 0)], .agg [.lit (.int .u8 0), .lit (.int .u8 0)], .agg [.lit (.int .u8 0), .lit (.int .u8 0)], .agg [.lit (.int .u8 0), .lit (.int .u8 0)], .agg [.lit (.int .u8 0), .lit (.int .u8 0)], .agg [.lit (.int .u8 0), .lit (.int .u8 0)], .agg [.lit (.int .u8 0), .lit (.int .u8 0)], .agg [.lit (.int .u8 0), .lit (.int .u8 0)], .agg [.lit (.int .u8 0), .lit (.int .u8 0)], .agg [.lit (.int .u8 0), .lit (.int .u8 0)]]
/-- One of Go's own tables, pinned by name: the form's constant. -/
def laid_unicode_utf8_first : DataW Unit := Go.Pinned.utf8First

/-- 'lithophanelaw05.HealExact': WHATEVER THE INPUT: true; the input reads as it did. -/
def healExactSpec : ChangeSpec := { name := "healExact", fn := fun _ => fun
  | [d] => { results := [.lit (.bool true)], args := [d] }
  | _ => none }
def healExactRow : OpenClaim := { program := "ytdjpbccaglkafaadoor", sum := "a4e9d69dd10077a6aafa883a141bee8b4aa66c03e556a8c71bc8ed0b61dae85a", func := "lithophane/lithophanelaw05.HealExact", spec := "healExact", inPlace := ["internal/bytealg.IndexByteString", "internal/bytealg.IndexString"], unfollowed := true, recurses := true, named := ["unicode/utf8.first", "unicode/utf8.acceptRanges", "internal/bytealg.MaxLen"], plainKeys := false, apart := false, laid := [("unicode/utf8.acceptRanges", laid_unicode_utf8_acceptRanges), ("unicode/utf8.first", laid_unicode_utf8_first)] }
def HealExactSaid : Prop := healExactRow.holds Tryd.pinned (OpenSpec.ofChange healExactSpec)

/-- ITS FALSE NEIGHBOUR: 'it returns false'. Refute it at one input. -/
def healExactWrong : ChangeSpec := { name := "healExact", fn := fun _ => fun
  | [d] => { results := [.lit (.bool false)], args := [d] }
  | _ => none }
def HealExactWrongFalsely : Prop := healExactRow.holds Tryd.pinned (OpenSpec.ofChange healExactWrong)

/-- 'lithophanelaw05.HealAny': WHATEVER THE INPUT: true; the input reads as it did. -/
def healAnySpec : ChangeSpec := { name := "healAny", fn := fun _ => fun
  | [d] => { results := [.lit (.bool true)], args := [d] }
  | _ => none }
def healAnyRow : OpenClaim := { program := "ytdjpbccaglkafaadoor", sum := "a4e9d69dd10077a6aafa883a141bee8b4aa66c03e556a8c71bc8ed0b61dae85a", func := "lithophane/lithophanelaw05.HealAny", spec := "healAny", inPlace := ["internal/bytealg.IndexByteString", "internal/bytealg.IndexString"], unfollowed := true, recurses := true, named := ["unicode/utf8.first", "unicode/utf8.acceptRanges", "internal/bytealg.MaxLen"], plainKeys := false, apart := false, laid := [("unicode/utf8.acceptRanges", laid_unicode_utf8_acceptRanges), ("unicode/utf8.first", laid_unicode_utf8_first)] }
def HealAnySaid : Prop := healAnyRow.holds Tryd.pinned (OpenSpec.ofChange healAnySpec)

/-- ITS FALSE NEIGHBOUR: 'it returns false'. Refute it at one input. -/
def healAnyWrong : ChangeSpec := { name := "healAny", fn := fun _ => fun
  | [d] => { results := [.lit (.bool false)], args := [d] }
  | _ => none }
def HealAnyWrongFalsely : Prop := healAnyRow.holds Tryd.pinned (OpenSpec.ofChange healAnyWrong)

/-- 'lithophanelaw05.HealFans': WHATEVER THE INPUT: true; the input reads as it did. -/
def healFansSpec : ChangeSpec := { name := "healFans", fn := fun _ => fun
  | [d] => { results := [.lit (.bool true)], args := [d] }
  | _ => none }
def healFansRow : OpenClaim := { program := "ytdjpbccaglkafaadoor", sum := "a4e9d69dd10077a6aafa883a141bee8b4aa66c03e556a8c71bc8ed0b61dae85a", func := "lithophane/lithophanelaw05.HealFans", spec := "healFans", inPlace := ["internal/bytealg.IndexByteString", "internal/bytealg.IndexString"], unfollowed := true, recurses := true, named := ["unicode/utf8.first", "unicode/utf8.acceptRanges", "internal/bytealg.MaxLen"], plainKeys := false, apart := false, laid := [("unicode/utf8.acceptRanges", laid_unicode_utf8_acceptRanges), ("unicode/utf8.first", laid_unicode_utf8_first)] }
def HealFansSaid : Prop := healFansRow.holds Tryd.pinned (OpenSpec.ofChange healFansSpec)

/-- ITS FALSE NEIGHBOUR: 'it returns false'. Refute it at one input. -/
def healFansWrong : ChangeSpec := { name := "healFans", fn := fun _ => fun
  | [d] => { results := [.lit (.bool false)], args := [d] }
  | _ => none }
def HealFansWrongFalsely : Prop := healFansRow.holds Tryd.pinned (OpenSpec.ofChange healFansWrong)

/-- 'lithophanelaw05.HealClean': WHATEVER THE INPUT: true; the input reads as it did. -/
def healCleanSpec : ChangeSpec := { name := "healClean", fn := fun _ => fun
  | [d] => { results := [.lit (.bool true)], args := [d] }
  | _ => none }
def healCleanRow : OpenClaim := { program := "ytdjpbccaglkafaadoor", sum := "a4e9d69dd10077a6aafa883a141bee8b4aa66c03e556a8c71bc8ed0b61dae85a", func := "lithophane/lithophanelaw05.HealClean", spec := "healClean", inPlace := ["internal/bytealg.IndexByteString", "internal/bytealg.IndexString"], unfollowed := true, recurses := true, named := ["unicode/utf8.first", "unicode/utf8.acceptRanges", "internal/bytealg.MaxLen"], plainKeys := false, apart := false, laid := [("unicode/utf8.acceptRanges", laid_unicode_utf8_acceptRanges), ("unicode/utf8.first", laid_unicode_utf8_first)] }
def HealCleanSaid : Prop := healCleanRow.holds Tryd.pinned (OpenSpec.ofChange healCleanSpec)

/-- ITS FALSE NEIGHBOUR: 'it returns false'. Refute it at one input. -/
def healCleanWrong : ChangeSpec := { name := "healClean", fn := fun _ => fun
  | [d] => { results := [.lit (.bool false)], args := [d] }
  | _ => none }
def HealCleanWrongFalsely : Prop := healCleanRow.holds Tryd.pinned (OpenSpec.ofChange healCleanWrong)

/-- 'lithophanelaw05.HealTurned': WHATEVER THE INPUT: true; the input reads as it did. -/
def healTurnedSpec : ChangeSpec := { name := "healTurned", fn := fun _ => fun
  | [d] => { results := [.lit (.bool true)], args := [d] }
  | _ => none }
def healTurnedRow : OpenClaim := { program := "ytdjpbccaglkafaadoor", sum := "a4e9d69dd10077a6aafa883a141bee8b4aa66c03e556a8c71bc8ed0b61dae85a", func := "lithophane/lithophanelaw05.HealTurned", spec := "healTurned", inPlace := ["internal/bytealg.IndexByteString", "internal/bytealg.IndexString"], unfollowed := true, recurses := true, named := ["unicode/utf8.first", "unicode/utf8.acceptRanges", "internal/bytealg.MaxLen"], plainKeys := false, apart := false, laid := [("unicode/utf8.acceptRanges", laid_unicode_utf8_acceptRanges), ("unicode/utf8.first", laid_unicode_utf8_first)] }
def HealTurnedSaid : Prop := healTurnedRow.holds Tryd.pinned (OpenSpec.ofChange healTurnedSpec)

/-- ITS FALSE NEIGHBOUR: 'it returns false'. Refute it at one input. -/
def healTurnedWrong : ChangeSpec := { name := "healTurned", fn := fun _ => fun
  | [d] => { results := [.lit (.bool false)], args := [d] }
  | _ => none }
def HealTurnedWrongFalsely : Prop := healTurnedRow.holds Tryd.pinned (OpenSpec.ofChange healTurnedWrong)

/-- 'lithophanelaw05.HealFlat': WHATEVER THE INPUT: true; the input reads as it did. -/
def healFlatSpec : ChangeSpec := { name := "healFlat", fn := fun _ => fun
  | [d1, d2, d3] => { results := [.lit (.bool true)], args := [d1, d2, d3] }
  | _ => none }
def healFlatRow : OpenClaim := { program := "ytdjpbccaglkafaadoor", sum := "a4e9d69dd10077a6aafa883a141bee8b4aa66c03e556a8c71bc8ed0b61dae85a", func := "lithophane/lithophanelaw05.HealFlat", spec := "healFlat", inPlace := ["internal/bytealg.IndexByteString", "internal/bytealg.IndexString"], unfollowed := true, recurses := true, named := ["unicode/utf8.first", "unicode/utf8.acceptRanges", "internal/bytealg.MaxLen"], plainKeys := false, apart := false, laid := [("unicode/utf8.acceptRanges", laid_unicode_utf8_acceptRanges), ("unicode/utf8.first", laid_unicode_utf8_first)] }
def HealFlatSaid : Prop := healFlatRow.holds Tryd.pinned (OpenSpec.ofChange healFlatSpec)

/-- ITS FALSE NEIGHBOUR: 'it returns false'. Refute it at one input. -/
def healFlatWrong : ChangeSpec := { name := "healFlat", fn := fun _ => fun
  | [d1, d2, d3] => { results := [.lit (.bool false)], args := [d1, d2, d3] }
  | _ => none }
def HealFlatWrongFalsely : Prop := healFlatRow.holds Tryd.pinned (OpenSpec.ofChange healFlatWrong)

/-- 'lithophanelaw05.HealOrder': WHATEVER THE INPUT: true; the input reads as it did. -/
def healOrderSpec : ChangeSpec := { name := "healOrder", fn := fun _ => fun
  | [d1, d2] => { results := [.lit (.bool true)], args := [d1, d2] }
  | _ => none }
def healOrderRow : OpenClaim := { program := "ytdjpbccaglkafaadoor", sum := "a4e9d69dd10077a6aafa883a141bee8b4aa66c03e556a8c71bc8ed0b61dae85a", func := "lithophane/lithophanelaw05.HealOrder", spec := "healOrder", inPlace := ["internal/bytealg.IndexByteString", "internal/bytealg.IndexString"], unfollowed := true, recurses := true, named := ["unicode/utf8.first", "unicode/utf8.acceptRanges", "internal/bytealg.MaxLen"], plainKeys := false, apart := false, laid := [("unicode/utf8.acceptRanges", laid_unicode_utf8_acceptRanges), ("unicode/utf8.first", laid_unicode_utf8_first)] }
def HealOrderSaid : Prop := healOrderRow.holds Tryd.pinned (OpenSpec.ofChange healOrderSpec)

/-- ITS FALSE NEIGHBOUR: 'it returns false'. Refute it at one input. -/
def healOrderWrong : ChangeSpec := { name := "healOrder", fn := fun _ => fun
  | [d1, d2] => { results := [.lit (.bool false)], args := [d1, d2] }
  | _ => none }
def HealOrderWrongFalsely : Prop := healOrderRow.holds Tryd.pinned (OpenSpec.ofChange healOrderWrong)

/-- 'lithophanelaw05.HealMoved': WHATEVER THE INPUT: true; the input reads as it did. -/
def healMovedSpec : ChangeSpec := { name := "healMoved", fn := fun _ => fun
  | [d1, d2, d3] => { results := [.lit (.bool true)], args := [d1, d2, d3] }
  | _ => none }
def healMovedRow : OpenClaim := { program := "ytdjpbccaglkafaadoor", sum := "a4e9d69dd10077a6aafa883a141bee8b4aa66c03e556a8c71bc8ed0b61dae85a", func := "lithophane/lithophanelaw05.HealMoved", spec := "healMoved", inPlace := ["internal/bytealg.IndexByteString", "internal/bytealg.IndexString"], unfollowed := true, recurses := true, named := ["unicode/utf8.first", "unicode/utf8.acceptRanges", "internal/bytealg.MaxLen"], plainKeys := false, apart := false, laid := [("unicode/utf8.acceptRanges", laid_unicode_utf8_acceptRanges), ("unicode/utf8.first", laid_unicode_utf8_first)] }
def HealMovedSaid : Prop := healMovedRow.holds Tryd.pinned (OpenSpec.ofChange healMovedSpec)

/-- ITS FALSE NEIGHBOUR: 'it returns false'. Refute it at one input. -/
def healMovedWrong : ChangeSpec := { name := "healMoved", fn := fun _ => fun
  | [d1, d2, d3] => { results := [.lit (.bool false)], args := [d1, d2, d3] }
  | _ => none }
def HealMovedWrongFalsely : Prop := healMovedRow.holds Tryd.pinned (OpenSpec.ofChange healMovedWrong)

/- THE SECOND FORM. 'bulk': how many values and letters a reading holds, each counted each time it is reached (what is shared counts as often as it is met; a slice's spare places count too). A statement '..UptoSaid' is the law's where the arguments, and the package variables that the reading takes, are together of bulk at most 1048576: NARROWER than '..Said'. Prove '..Said' where nothing that the law and all that it calls make is longer than what came in: it says more and counts as full. Else prove '..UptoSaid'. A law counts once. -/
mutual
def uptoBulk {H : Type} : DataW H → Nat
  | .lit (.string bytes) => bytes.length + 1
  | .lit _ => 1
  | .nil => 1
  | .ptr d => uptoBulk d + 1
  | .slice elems spare => uptoBulkAll elems + uptoBulkAll spare + 1
  | .agg parts => uptoBulkAll parts + 1
  | .iface _ d => uptoBulk d + 1
  | .map entries => uptoBulkEntries entries + 1
  | .held _ => 1
def uptoBulkAll {H : Type} : List (DataW H) → Nat
  | [] => 0
  | d :: r => uptoBulk d + uptoBulkAll r
def uptoBulkEntries {H : Type} : List (Lit × DataW H) → Nat
  | [] => 0
  | x :: r => uptoBulkEntry x + uptoBulkEntries r
def uptoBulkEntry {H : Type} : Lit × DataW H → Nat
  | (.string bytes, d) => bytes.length + uptoBulk d + 1
  | (_, d) => uptoBulk d + 1
 end
def uptoSmall : (H : Type) → List (DataW H) → Bool := fun _ ds => decide (uptoBulkAll ds ≤ 1048576)
def OpenSpec.upto (s : _root_.Go.ChangeSpec) : _root_.Go.OpenSpec := { _root_.Go.OpenSpec.ofChange s with cond := some uptoSmall }

/-- 'lithophanelaw05.HealExact', WHERE WHAT IT READS IS OF BULK AT MOST 1048576: true; the input reads as it did. -/
def healExactUptoRow : OpenClaim := { program := "ytdjpbccaglkafaadoor", sum := "a4e9d69dd10077a6aafa883a141bee8b4aa66c03e556a8c71bc8ed0b61dae85a", func := "lithophane/lithophanelaw05.HealExact", spec := "healExact", inPlace := ["internal/bytealg.IndexByteString", "internal/bytealg.IndexString"], unfollowed := true, recurses := true, named := ["unicode/utf8.first", "unicode/utf8.acceptRanges", "internal/bytealg.MaxLen"], plainKeys := false, apart := false, laid := [("unicode/utf8.acceptRanges", laid_unicode_utf8_acceptRanges), ("unicode/utf8.first", laid_unicode_utf8_first)], narrowed := true }
def HealExactUptoSaid : Prop := healExactUptoRow.holds Tryd.pinned (OpenSpec.upto healExactSpec)

/-- 'lithophanelaw05.HealAny', WHERE WHAT IT READS IS OF BULK AT MOST 1048576: true; the input reads as it did. -/
def healAnyUptoRow : OpenClaim := { program := "ytdjpbccaglkafaadoor", sum := "a4e9d69dd10077a6aafa883a141bee8b4aa66c03e556a8c71bc8ed0b61dae85a", func := "lithophane/lithophanelaw05.HealAny", spec := "healAny", inPlace := ["internal/bytealg.IndexByteString", "internal/bytealg.IndexString"], unfollowed := true, recurses := true, named := ["unicode/utf8.first", "unicode/utf8.acceptRanges", "internal/bytealg.MaxLen"], plainKeys := false, apart := false, laid := [("unicode/utf8.acceptRanges", laid_unicode_utf8_acceptRanges), ("unicode/utf8.first", laid_unicode_utf8_first)], narrowed := true }
def HealAnyUptoSaid : Prop := healAnyUptoRow.holds Tryd.pinned (OpenSpec.upto healAnySpec)

/-- 'lithophanelaw05.HealFans', WHERE WHAT IT READS IS OF BULK AT MOST 1048576: true; the input reads as it did. -/
def healFansUptoRow : OpenClaim := { program := "ytdjpbccaglkafaadoor", sum := "a4e9d69dd10077a6aafa883a141bee8b4aa66c03e556a8c71bc8ed0b61dae85a", func := "lithophane/lithophanelaw05.HealFans", spec := "healFans", inPlace := ["internal/bytealg.IndexByteString", "internal/bytealg.IndexString"], unfollowed := true, recurses := true, named := ["unicode/utf8.first", "unicode/utf8.acceptRanges", "internal/bytealg.MaxLen"], plainKeys := false, apart := false, laid := [("unicode/utf8.acceptRanges", laid_unicode_utf8_acceptRanges), ("unicode/utf8.first", laid_unicode_utf8_first)], narrowed := true }
def HealFansUptoSaid : Prop := healFansUptoRow.holds Tryd.pinned (OpenSpec.upto healFansSpec)

/-- 'lithophanelaw05.HealClean', WHERE WHAT IT READS IS OF BULK AT MOST 1048576: true; the input reads as it did. -/
def healCleanUptoRow : OpenClaim := { program := "ytdjpbccaglkafaadoor", sum := "a4e9d69dd10077a6aafa883a141bee8b4aa66c03e556a8c71bc8ed0b61dae85a", func := "lithophane/lithophanelaw05.HealClean", spec := "healClean", inPlace := ["internal/bytealg.IndexByteString", "internal/bytealg.IndexString"], unfollowed := true, recurses := true, named := ["unicode/utf8.first", "unicode/utf8.acceptRanges", "internal/bytealg.MaxLen"], plainKeys := false, apart := false, laid := [("unicode/utf8.acceptRanges", laid_unicode_utf8_acceptRanges), ("unicode/utf8.first", laid_unicode_utf8_first)], narrowed := true }
def HealCleanUptoSaid : Prop := healCleanUptoRow.holds Tryd.pinned (OpenSpec.upto healCleanSpec)

/-- 'lithophanelaw05.HealTurned', WHERE WHAT IT READS IS OF BULK AT MOST 1048576: true; the input reads as it did. -/
def healTurnedUptoRow : OpenClaim := { program := "ytdjpbccaglkafaadoor", sum := "a4e9d69dd10077a6aafa883a141bee8b4aa66c03e556a8c71bc8ed0b61dae85a", func := "lithophane/lithophanelaw05.HealTurned", spec := "healTurned", inPlace := ["internal/bytealg.IndexByteString", "internal/bytealg.IndexString"], unfollowed := true, recurses := true, named := ["unicode/utf8.first", "unicode/utf8.acceptRanges", "internal/bytealg.MaxLen"], plainKeys := false, apart := false, laid := [("unicode/utf8.acceptRanges", laid_unicode_utf8_acceptRanges), ("unicode/utf8.first", laid_unicode_utf8_first)], narrowed := true }
def HealTurnedUptoSaid : Prop := healTurnedUptoRow.holds Tryd.pinned (OpenSpec.upto healTurnedSpec)

/-- 'lithophanelaw05.HealFlat', WHERE WHAT IT READS IS OF BULK AT MOST 1048576: true; the input reads as it did. -/
def healFlatUptoRow : OpenClaim := { program := "ytdjpbccaglkafaadoor", sum := "a4e9d69dd10077a6aafa883a141bee8b4aa66c03e556a8c71bc8ed0b61dae85a", func := "lithophane/lithophanelaw05.HealFlat", spec := "healFlat", inPlace := ["internal/bytealg.IndexByteString", "internal/bytealg.IndexString"], unfollowed := true, recurses := true, named := ["unicode/utf8.first", "unicode/utf8.acceptRanges", "internal/bytealg.MaxLen"], plainKeys := false, apart := false, laid := [("unicode/utf8.acceptRanges", laid_unicode_utf8_acceptRanges), ("unicode/utf8.first", laid_unicode_utf8_first)], narrowed := true }
def HealFlatUptoSaid : Prop := healFlatUptoRow.holds Tryd.pinned (OpenSpec.upto healFlatSpec)

/-- 'lithophanelaw05.HealOrder', WHERE WHAT IT READS IS OF BULK AT MOST 1048576: true; the input reads as it did. -/
def healOrderUptoRow : OpenClaim := { program := "ytdjpbccaglkafaadoor", sum := "a4e9d69dd10077a6aafa883a141bee8b4aa66c03e556a8c71bc8ed0b61dae85a", func := "lithophane/lithophanelaw05.HealOrder", spec := "healOrder", inPlace := ["internal/bytealg.IndexByteString", "internal/bytealg.IndexString"], unfollowed := true, recurses := true, named := ["unicode/utf8.first", "unicode/utf8.acceptRanges", "internal/bytealg.MaxLen"], plainKeys := false, apart := false, laid := [("unicode/utf8.acceptRanges", laid_unicode_utf8_acceptRanges), ("unicode/utf8.first", laid_unicode_utf8_first)], narrowed := true }
def HealOrderUptoSaid : Prop := healOrderUptoRow.holds Tryd.pinned (OpenSpec.upto healOrderSpec)

/-- 'lithophanelaw05.HealMoved', WHERE WHAT IT READS IS OF BULK AT MOST 1048576: true; the input reads as it did. -/
def healMovedUptoRow : OpenClaim := { program := "ytdjpbccaglkafaadoor", sum := "a4e9d69dd10077a6aafa883a141bee8b4aa66c03e556a8c71bc8ed0b61dae85a", func := "lithophane/lithophanelaw05.HealMoved", spec := "healMoved", inPlace := ["internal/bytealg.IndexByteString", "internal/bytealg.IndexString"], unfollowed := true, recurses := true, named := ["unicode/utf8.first", "unicode/utf8.acceptRanges", "internal/bytealg.MaxLen"], plainKeys := false, apart := false, laid := [("unicode/utf8.acceptRanges", laid_unicode_utf8_acceptRanges), ("unicode/utf8.first", laid_unicode_utf8_first)], narrowed := true }
def HealMovedUptoSaid : Prop := healMovedUptoRow.holds Tryd.pinned (OpenSpec.upto healMovedSpec)

end Rows
end Go.Proofs.YtdjpbccaglkafaaDoor
