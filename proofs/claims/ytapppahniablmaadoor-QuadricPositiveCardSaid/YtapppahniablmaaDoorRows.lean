/-
  NARROWER THAN 'FOR EVERY INPUT', by the rows' own cells (each row's printed sentence says how): QuadricOf: laid · QuadricValues: laid · QuadricAt: laid · QuadricSums: laid · QuadricAround: laid · QuadricPositive: laid · QuadricMoved: laid · QuadricKeeps: laid.
  DERIVED. THE GIVEN ROWS OF THIS SEAT. 8 by the template 'for every input the law returns true; each argument reads behind the call as it read before'; 0 by the template 'total and deterministic' (their statements: YtapppahniablmaaDoorTotals.lean).
  GIVEN WITH THE SEED: the statements are not yours to turn. If you find one false, say at which input.
  Laid BY PROGRAM, IN A SANDBOX (cutbox-rows.mjs): the forced cells as the released guide's own fill.sh prints them over the translation 7bee88dab78f4c93… (all of the seat's roots in one cut). By AI agents, Wed Nov 11 2026. No macro, syntax, notation, axiom, sorry.
-/
import Derived.Test.YtapppahniablmaaDoorChecked
import GoSem.PinnedTables
import GoSem.Claim
import GoSem.ClaimJoined
import GoSem.ClaimMapViews
import Derived.JoinedTies
import Derived.KernelRfl
namespace Go.Proofs.YtapppahniablmaaDoor
/- THE CELL 'sum', in the pinned program and in every row, IS THE sha256 OF THE DUMP (.gsa) THAT YtapppahniablmaaDoorProg.lean LOADS. Nothing in Lean hashes anything: it is a label: what it is worth is what the hold of that sum in a sandbox is worth. -/
noncomputable def Tryd.pinned : Pinned := { name := "ytapppahniablmaadoor", sum := "7bee88dab78f4c935beb5c51a102c17a9ddb02235cdd8127decb8a154a18e6c0", checked := Tryd.checked }
namespace Rows
def none {H : Type} : Left H := { results := [], args := [] }

/- WHAT THE LISTED PACKAGE-LEVEL VARIABLES READ AS WHEN THE CALL BEGINS. Each datum BY PROGRAM (the guide's laid-datum.mjs) off the statement by which the dump's own 'gosem.cut.vars' lays the variable. In a bare row this is a premise. The card (YtapppahniablmaaDoorCards.lean) ties it to the program's text. -/
def laid_unicode_utf8_acceptRanges {H : Type} : DataW H := .agg [.agg [.lit (.int .u8 128), .lit (.int .u8 191)], .agg [.lit (.int .u8 160), .lit (.int .u8 191)], .agg [.lit (.int .u8 128), .lit (.int .u8 159)], .agg [.lit (.int .u8 144), .lit (.int .u8 191)], .agg [.lit (.int .u8 128), .lit (.int .u8 143)], .agg [.lit (.int .u8 0), .lit (.int .u8 0)], .agg [.lit (.int .u8 0), .lit (.int .u8 0)], .agg [.lit (.int .u8 0), .lit (.int .u8 0)], .agg [.lit (.int .u8 0), .lit (.int .u8 0)], .agg [.lit (.int .u8 0), .lit (.int .u8 0)], .agg [.lit (.int .u8 0), .lit (.int .u8 0)], .agg [.lit (.int .u8 0), .lit (.int .u8 0)], .agg [.lit (.int .u8 0), .lit (.int .u8 0)], .agg [.lit (.int .u8 0), .lit (.int .u8 0)], .agg [.lit (.int .u8 0), .lit (.int .u8 0)], .agg [.lit (.int .u8 0), .lit (.int .u8 0)]]
/-- One of Go's own tables, pinned by name: the form's constant. -/
def laid_unicode_utf8_first : DataW Unit := Go.Pinned.utf8First

/-- 'lithophanelaw10.QuadricOf': WHATEVER THE INPUT: true; the input reads as it did. -/
def quadricOfSpec : ChangeSpec := { name := "quadricOf", fn := fun _ => fun
  | [d1, d2, d3] => { results := [.lit (.bool true)], args := [d1, d2, d3] }
  | _ => none }
def quadricOfRow : OpenClaim := { program := "ytapppahniablmaadoor", sum := "7bee88dab78f4c935beb5c51a102c17a9ddb02235cdd8127decb8a154a18e6c0", func := "lithophane/lithophanelaw10.QuadricOf", spec := "quadricOf", inPlace := ["internal/bytealg.IndexByteString", "internal/bytealg.IndexString"], unfollowed := true, recurses := true, named := ["unicode/utf8.first", "unicode/utf8.acceptRanges", "internal/bytealg.MaxLen"], apart := false, laid := [("unicode/utf8.acceptRanges", laid_unicode_utf8_acceptRanges), ("unicode/utf8.first", laid_unicode_utf8_first)] }
def QuadricOfSaid : Prop := quadricOfRow.holds Tryd.pinned (OpenSpec.ofChange quadricOfSpec)

/-- ITS FALSE NEIGHBOUR: 'it returns false'. Refute it at one input. -/
def quadricOfWrong : ChangeSpec := { name := "quadricOf", fn := fun _ => fun
  | [d1, d2, d3] => { results := [.lit (.bool false)], args := [d1, d2, d3] }
  | _ => none }
def QuadricOfWrongFalsely : Prop := quadricOfRow.holds Tryd.pinned (OpenSpec.ofChange quadricOfWrong)

/-- 'lithophanelaw10.QuadricValues': WHATEVER THE INPUT: true; the input reads as it did. -/
def quadricValuesSpec : ChangeSpec := { name := "quadricValues", fn := fun _ => fun
  | [d1, d2] => { results := [.lit (.bool true)], args := [d1, d2] }
  | _ => none }
def quadricValuesRow : OpenClaim := { program := "ytapppahniablmaadoor", sum := "7bee88dab78f4c935beb5c51a102c17a9ddb02235cdd8127decb8a154a18e6c0", func := "lithophane/lithophanelaw10.QuadricValues", spec := "quadricValues", inPlace := ["internal/bytealg.IndexByteString", "internal/bytealg.IndexString"], unfollowed := true, recurses := true, named := ["unicode/utf8.first", "unicode/utf8.acceptRanges", "internal/bytealg.MaxLen"], apart := false, laid := [("unicode/utf8.acceptRanges", laid_unicode_utf8_acceptRanges), ("unicode/utf8.first", laid_unicode_utf8_first)] }
def QuadricValuesSaid : Prop := quadricValuesRow.holds Tryd.pinned (OpenSpec.ofChange quadricValuesSpec)

/-- ITS FALSE NEIGHBOUR: 'it returns false'. Refute it at one input. -/
def quadricValuesWrong : ChangeSpec := { name := "quadricValues", fn := fun _ => fun
  | [d1, d2] => { results := [.lit (.bool false)], args := [d1, d2] }
  | _ => none }
def QuadricValuesWrongFalsely : Prop := quadricValuesRow.holds Tryd.pinned (OpenSpec.ofChange quadricValuesWrong)

/-- 'lithophanelaw10.QuadricAt': WHATEVER THE INPUT: true; the input reads as it did. -/
def quadricAtSpec : ChangeSpec := { name := "quadricAt", fn := fun _ => fun
  | [d1, d2, d3] => { results := [.lit (.bool true)], args := [d1, d2, d3] }
  | _ => none }
def quadricAtRow : OpenClaim := { program := "ytapppahniablmaadoor", sum := "7bee88dab78f4c935beb5c51a102c17a9ddb02235cdd8127decb8a154a18e6c0", func := "lithophane/lithophanelaw10.QuadricAt", spec := "quadricAt", inPlace := ["internal/bytealg.IndexByteString", "internal/bytealg.IndexString"], unfollowed := true, recurses := true, named := ["unicode/utf8.first", "unicode/utf8.acceptRanges", "internal/bytealg.MaxLen"], apart := false, laid := [("unicode/utf8.acceptRanges", laid_unicode_utf8_acceptRanges), ("unicode/utf8.first", laid_unicode_utf8_first)] }
def QuadricAtSaid : Prop := quadricAtRow.holds Tryd.pinned (OpenSpec.ofChange quadricAtSpec)

/-- ITS FALSE NEIGHBOUR: 'it returns false'. Refute it at one input. -/
def quadricAtWrong : ChangeSpec := { name := "quadricAt", fn := fun _ => fun
  | [d1, d2, d3] => { results := [.lit (.bool false)], args := [d1, d2, d3] }
  | _ => none }
def QuadricAtWrongFalsely : Prop := quadricAtRow.holds Tryd.pinned (OpenSpec.ofChange quadricAtWrong)

/-- 'lithophanelaw10.QuadricSums': WHATEVER THE INPUT: true; the input reads as it did. -/
def quadricSumsSpec : ChangeSpec := { name := "quadricSums", fn := fun _ => fun
  | [d1, d2, d3] => { results := [.lit (.bool true)], args := [d1, d2, d3] }
  | _ => none }
def quadricSumsRow : OpenClaim := { program := "ytapppahniablmaadoor", sum := "7bee88dab78f4c935beb5c51a102c17a9ddb02235cdd8127decb8a154a18e6c0", func := "lithophane/lithophanelaw10.QuadricSums", spec := "quadricSums", inPlace := ["internal/bytealg.IndexByteString", "internal/bytealg.IndexString"], unfollowed := true, recurses := true, named := ["unicode/utf8.first", "unicode/utf8.acceptRanges", "internal/bytealg.MaxLen"], apart := false, laid := [("unicode/utf8.acceptRanges", laid_unicode_utf8_acceptRanges), ("unicode/utf8.first", laid_unicode_utf8_first)] }
def QuadricSumsSaid : Prop := quadricSumsRow.holds Tryd.pinned (OpenSpec.ofChange quadricSumsSpec)

/-- ITS FALSE NEIGHBOUR: 'it returns false'. Refute it at one input. -/
def quadricSumsWrong : ChangeSpec := { name := "quadricSums", fn := fun _ => fun
  | [d1, d2, d3] => { results := [.lit (.bool false)], args := [d1, d2, d3] }
  | _ => none }
def QuadricSumsWrongFalsely : Prop := quadricSumsRow.holds Tryd.pinned (OpenSpec.ofChange quadricSumsWrong)

/-- 'lithophanelaw10.QuadricAround': WHATEVER THE INPUT: true; the input reads as it did. -/
def quadricAroundSpec : ChangeSpec := { name := "quadricAround", fn := fun _ => fun
  | [d1, d2, d3] => { results := [.lit (.bool true)], args := [d1, d2, d3] }
  | _ => none }
def quadricAroundRow : OpenClaim := { program := "ytapppahniablmaadoor", sum := "7bee88dab78f4c935beb5c51a102c17a9ddb02235cdd8127decb8a154a18e6c0", func := "lithophane/lithophanelaw10.QuadricAround", spec := "quadricAround", inPlace := ["internal/bytealg.IndexByteString", "internal/bytealg.IndexString"], unfollowed := true, recurses := true, named := ["unicode/utf8.first", "unicode/utf8.acceptRanges", "internal/bytealg.MaxLen"], apart := false, laid := [("unicode/utf8.acceptRanges", laid_unicode_utf8_acceptRanges), ("unicode/utf8.first", laid_unicode_utf8_first)] }
def QuadricAroundSaid : Prop := quadricAroundRow.holds Tryd.pinned (OpenSpec.ofChange quadricAroundSpec)

/-- ITS FALSE NEIGHBOUR: 'it returns false'. Refute it at one input. -/
def quadricAroundWrong : ChangeSpec := { name := "quadricAround", fn := fun _ => fun
  | [d1, d2, d3] => { results := [.lit (.bool false)], args := [d1, d2, d3] }
  | _ => none }
def QuadricAroundWrongFalsely : Prop := quadricAroundRow.holds Tryd.pinned (OpenSpec.ofChange quadricAroundWrong)

/-- 'lithophanelaw10.QuadricPositive': WHATEVER THE INPUT: true; the input reads as it did. -/
def quadricPositiveSpec : ChangeSpec := { name := "quadricPositive", fn := fun _ => fun
  | [d1, d2, d3] => { results := [.lit (.bool true)], args := [d1, d2, d3] }
  | _ => none }
def quadricPositiveRow : OpenClaim := { program := "ytapppahniablmaadoor", sum := "7bee88dab78f4c935beb5c51a102c17a9ddb02235cdd8127decb8a154a18e6c0", func := "lithophane/lithophanelaw10.QuadricPositive", spec := "quadricPositive", inPlace := ["internal/bytealg.IndexByteString", "internal/bytealg.IndexString"], unfollowed := true, recurses := true, named := ["unicode/utf8.first", "unicode/utf8.acceptRanges", "internal/bytealg.MaxLen"], apart := false, laid := [("unicode/utf8.acceptRanges", laid_unicode_utf8_acceptRanges), ("unicode/utf8.first", laid_unicode_utf8_first)] }
def QuadricPositiveSaid : Prop := quadricPositiveRow.holds Tryd.pinned (OpenSpec.ofChange quadricPositiveSpec)

/-- ITS FALSE NEIGHBOUR: 'it returns false'. Refute it at one input. -/
def quadricPositiveWrong : ChangeSpec := { name := "quadricPositive", fn := fun _ => fun
  | [d1, d2, d3] => { results := [.lit (.bool false)], args := [d1, d2, d3] }
  | _ => none }
def QuadricPositiveWrongFalsely : Prop := quadricPositiveRow.holds Tryd.pinned (OpenSpec.ofChange quadricPositiveWrong)

/-- 'lithophanelaw10.QuadricMoved': WHATEVER THE INPUT: true; the input reads as it did. -/
def quadricMovedSpec : ChangeSpec := { name := "quadricMoved", fn := fun _ => fun
  | [d1, d2, d3] => { results := [.lit (.bool true)], args := [d1, d2, d3] }
  | _ => none }
def quadricMovedRow : OpenClaim := { program := "ytapppahniablmaadoor", sum := "7bee88dab78f4c935beb5c51a102c17a9ddb02235cdd8127decb8a154a18e6c0", func := "lithophane/lithophanelaw10.QuadricMoved", spec := "quadricMoved", inPlace := ["internal/bytealg.IndexByteString", "internal/bytealg.IndexString"], unfollowed := true, recurses := true, named := ["unicode/utf8.first", "unicode/utf8.acceptRanges", "internal/bytealg.MaxLen"], apart := false, laid := [("unicode/utf8.acceptRanges", laid_unicode_utf8_acceptRanges), ("unicode/utf8.first", laid_unicode_utf8_first)] }
def QuadricMovedSaid : Prop := quadricMovedRow.holds Tryd.pinned (OpenSpec.ofChange quadricMovedSpec)

/-- ITS FALSE NEIGHBOUR: 'it returns false'. Refute it at one input. -/
def quadricMovedWrong : ChangeSpec := { name := "quadricMoved", fn := fun _ => fun
  | [d1, d2, d3] => { results := [.lit (.bool false)], args := [d1, d2, d3] }
  | _ => none }
def QuadricMovedWrongFalsely : Prop := quadricMovedRow.holds Tryd.pinned (OpenSpec.ofChange quadricMovedWrong)

/-- 'lithophanelaw10.QuadricKeeps': WHATEVER THE INPUT: true; the input reads as it did. -/
def quadricKeepsSpec : ChangeSpec := { name := "quadricKeeps", fn := fun _ => fun
  | [d1, d2, d3] => { results := [.lit (.bool true)], args := [d1, d2, d3] }
  | _ => none }
def quadricKeepsRow : OpenClaim := { program := "ytapppahniablmaadoor", sum := "7bee88dab78f4c935beb5c51a102c17a9ddb02235cdd8127decb8a154a18e6c0", func := "lithophane/lithophanelaw10.QuadricKeeps", spec := "quadricKeeps", inPlace := ["internal/bytealg.IndexByteString", "internal/bytealg.IndexString"], unfollowed := true, recurses := true, named := ["unicode/utf8.first", "unicode/utf8.acceptRanges", "internal/bytealg.MaxLen"], apart := false, laid := [("unicode/utf8.acceptRanges", laid_unicode_utf8_acceptRanges), ("unicode/utf8.first", laid_unicode_utf8_first)] }
def QuadricKeepsSaid : Prop := quadricKeepsRow.holds Tryd.pinned (OpenSpec.ofChange quadricKeepsSpec)

/-- ITS FALSE NEIGHBOUR: 'it returns false'. Refute it at one input. -/
def quadricKeepsWrong : ChangeSpec := { name := "quadricKeeps", fn := fun _ => fun
  | [d1, d2, d3] => { results := [.lit (.bool false)], args := [d1, d2, d3] }
  | _ => none }
def QuadricKeepsWrongFalsely : Prop := quadricKeepsRow.holds Tryd.pinned (OpenSpec.ofChange quadricKeepsWrong)

/- THE SECOND FORM. 'bulk': how many values and letters a reading holds, each counted each time it is reached (what is shared counts as often as it is met; a slice's spare places count too). A statement '..UptoSaid' is the law's where the arguments, and the package variables that the reading takes, are together of bulk at most 1048576: NARROWER than '..Said'. Prove '..Said' where nothing that the law and all that it calls make is longer than what came in: it says more and counts as full. Else prove '..UptoSaid'. A law counts once. -/
mutual
def uptoBulk {H : Type} : DataW H → Nat
  | .lit (.string bytes) => bytes.length + 1
  | .lit _ => 1
  | .nil => 1
  | .ptr d => uptoBulk d + 1
  | .slice elems spare => uptoBulkAll elems + uptoBulkAll spare + 1
  | .agg parts => uptoBulkAll parts + 1
  | .iface _ d => uptoBulk d + 1
  | .map entries => uptoBulkEntries entries + 1
  | .held _ => 1
def uptoBulkAll {H : Type} : List (DataW H) → Nat
  | [] => 0
  | d :: r => uptoBulk d + uptoBulkAll r
def uptoBulkEntries {H : Type} : List (Lit × DataW H) → Nat
  | [] => 0
  | x :: r => uptoBulkEntry x + uptoBulkEntries r
def uptoBulkEntry {H : Type} : Lit × DataW H → Nat
  | (.string bytes, d) => bytes.length + uptoBulk d + 1
  | (_, d) => uptoBulk d + 1
 end
def uptoSmall : (H : Type) → List (DataW H) → Bool := fun _ ds => decide (uptoBulkAll ds ≤ 1048576)
def OpenSpec.upto (s : _root_.Go.ChangeSpec) : _root_.Go.OpenSpec := { _root_.Go.OpenSpec.ofChange s with cond := some uptoSmall }

/-- 'lithophanelaw10.QuadricOf', WHERE WHAT IT READS IS OF BULK AT MOST 1048576: true; the input reads as it did. -/
def quadricOfUptoRow : OpenClaim := { program := "ytapppahniablmaadoor", sum := "7bee88dab78f4c935beb5c51a102c17a9ddb02235cdd8127decb8a154a18e6c0", func := "lithophane/lithophanelaw10.QuadricOf", spec := "quadricOf", inPlace := ["internal/bytealg.IndexByteString", "internal/bytealg.IndexString"], unfollowed := true, recurses := true, named := ["unicode/utf8.first", "unicode/utf8.acceptRanges", "internal/bytealg.MaxLen"], apart := false, laid := [("unicode/utf8.acceptRanges", laid_unicode_utf8_acceptRanges), ("unicode/utf8.first", laid_unicode_utf8_first)], narrowed := true }
def QuadricOfUptoSaid : Prop := quadricOfUptoRow.holds Tryd.pinned (OpenSpec.upto quadricOfSpec)

/-- 'lithophanelaw10.QuadricValues', WHERE WHAT IT READS IS OF BULK AT MOST 1048576: true; the input reads as it did. -/
def quadricValuesUptoRow : OpenClaim := { program := "ytapppahniablmaadoor", sum := "7bee88dab78f4c935beb5c51a102c17a9ddb02235cdd8127decb8a154a18e6c0", func := "lithophane/lithophanelaw10.QuadricValues", spec := "quadricValues", inPlace := ["internal/bytealg.IndexByteString", "internal/bytealg.IndexString"], unfollowed := true, recurses := true, named := ["unicode/utf8.first", "unicode/utf8.acceptRanges", "internal/bytealg.MaxLen"], apart := false, laid := [("unicode/utf8.acceptRanges", laid_unicode_utf8_acceptRanges), ("unicode/utf8.first", laid_unicode_utf8_first)], narrowed := true }
def QuadricValuesUptoSaid : Prop := quadricValuesUptoRow.holds Tryd.pinned (OpenSpec.upto quadricValuesSpec)

/-- 'lithophanelaw10.QuadricAt', WHERE WHAT IT READS IS OF BULK AT MOST 1048576: true; the input reads as it did. -/
def quadricAtUptoRow : OpenClaim := { program := "ytapppahniablmaadoor", sum := "7bee88dab78f4c935beb5c51a102c17a9ddb02235cdd8127decb8a154a18e6c0", func := "lithophane/lithophanelaw10.QuadricAt", spec := "quadricAt", inPlace := ["internal/bytealg.IndexByteString", "internal/bytealg.IndexString"], unfollowed := true, recurses := true, named := ["unicode/utf8.first", "unicode/utf8.acceptRanges", "internal/bytealg.MaxLen"], apart := false, laid := [("unicode/utf8.acceptRanges", laid_unicode_utf8_acceptRanges), ("unicode/utf8.first", laid_unicode_utf8_first)], narrowed := true }
def QuadricAtUptoSaid : Prop := quadricAtUptoRow.holds Tryd.pinned (OpenSpec.upto quadricAtSpec)

/-- 'lithophanelaw10.QuadricSums', WHERE WHAT IT READS IS OF BULK AT MOST 1048576: true; the input reads as it did. -/
def quadricSumsUptoRow : OpenClaim := { program := "ytapppahniablmaadoor", sum := "7bee88dab78f4c935beb5c51a102c17a9ddb02235cdd8127decb8a154a18e6c0", func := "lithophane/lithophanelaw10.QuadricSums", spec := "quadricSums", inPlace := ["internal/bytealg.IndexByteString", "internal/bytealg.IndexString"], unfollowed := true, recurses := true, named := ["unicode/utf8.first", "unicode/utf8.acceptRanges", "internal/bytealg.MaxLen"], apart := false, laid := [("unicode/utf8.acceptRanges", laid_unicode_utf8_acceptRanges), ("unicode/utf8.first", laid_unicode_utf8_first)], narrowed := true }
def QuadricSumsUptoSaid : Prop := quadricSumsUptoRow.holds Tryd.pinned (OpenSpec.upto quadricSumsSpec)

/-- 'lithophanelaw10.QuadricAround', WHERE WHAT IT READS IS OF BULK AT MOST 1048576: true; the input reads as it did. -/
def quadricAroundUptoRow : OpenClaim := { program := "ytapppahniablmaadoor", sum := "7bee88dab78f4c935beb5c51a102c17a9ddb02235cdd8127decb8a154a18e6c0", func := "lithophane/lithophanelaw10.QuadricAround", spec := "quadricAround", inPlace := ["internal/bytealg.IndexByteString", "internal/bytealg.IndexString"], unfollowed := true, recurses := true, named := ["unicode/utf8.first", "unicode/utf8.acceptRanges", "internal/bytealg.MaxLen"], apart := false, laid := [("unicode/utf8.acceptRanges", laid_unicode_utf8_acceptRanges), ("unicode/utf8.first", laid_unicode_utf8_first)], narrowed := true }
def QuadricAroundUptoSaid : Prop := quadricAroundUptoRow.holds Tryd.pinned (OpenSpec.upto quadricAroundSpec)

/-- 'lithophanelaw10.QuadricPositive', WHERE WHAT IT READS IS OF BULK AT MOST 1048576: true; the input reads as it did. -/
def quadricPositiveUptoRow : OpenClaim := { program := "ytapppahniablmaadoor", sum := "7bee88dab78f4c935beb5c51a102c17a9ddb02235cdd8127decb8a154a18e6c0", func := "lithophane/lithophanelaw10.QuadricPositive", spec := "quadricPositive", inPlace := ["internal/bytealg.IndexByteString", "internal/bytealg.IndexString"], unfollowed := true, recurses := true, named := ["unicode/utf8.first", "unicode/utf8.acceptRanges", "internal/bytealg.MaxLen"], apart := false, laid := [("unicode/utf8.acceptRanges", laid_unicode_utf8_acceptRanges), ("unicode/utf8.first", laid_unicode_utf8_first)], narrowed := true }
def QuadricPositiveUptoSaid : Prop := quadricPositiveUptoRow.holds Tryd.pinned (OpenSpec.upto quadricPositiveSpec)

/-- 'lithophanelaw10.QuadricMoved', WHERE WHAT IT READS IS OF BULK AT MOST 1048576: true; the input reads as it did. -/
def quadricMovedUptoRow : OpenClaim := { program := "ytapppahniablmaadoor", sum := "7bee88dab78f4c935beb5c51a102c17a9ddb02235cdd8127decb8a154a18e6c0", func := "lithophane/lithophanelaw10.QuadricMoved", spec := "quadricMoved", inPlace := ["internal/bytealg.IndexByteString", "internal/bytealg.IndexString"], unfollowed := true, recurses := true, named := ["unicode/utf8.first", "unicode/utf8.acceptRanges", "internal/bytealg.MaxLen"], apart := false, laid := [("unicode/utf8.acceptRanges", laid_unicode_utf8_acceptRanges), ("unicode/utf8.first", laid_unicode_utf8_first)], narrowed := true }
def QuadricMovedUptoSaid : Prop := quadricMovedUptoRow.holds Tryd.pinned (OpenSpec.upto quadricMovedSpec)

/-- 'lithophanelaw10.QuadricKeeps', WHERE WHAT IT READS IS OF BULK AT MOST 1048576: true; the input reads as it did. -/
def quadricKeepsUptoRow : OpenClaim := { program := "ytapppahniablmaadoor", sum := "7bee88dab78f4c935beb5c51a102c17a9ddb02235cdd8127decb8a154a18e6c0", func := "lithophane/lithophanelaw10.QuadricKeeps", spec := "quadricKeeps", inPlace := ["internal/bytealg.IndexByteString", "internal/bytealg.IndexString"], unfollowed := true, recurses := true, named := ["unicode/utf8.first", "unicode/utf8.acceptRanges", "internal/bytealg.MaxLen"], apart := false, laid := [("unicode/utf8.acceptRanges", laid_unicode_utf8_acceptRanges), ("unicode/utf8.first", laid_unicode_utf8_first)], narrowed := true }
def QuadricKeepsUptoSaid : Prop := quadricKeepsUptoRow.holds Tryd.pinned (OpenSpec.upto quadricKeepsSpec)

end Rows
end Go.Proofs.YtapppahniablmaaDoor
