/-
  NARROWER THAN 'FOR EVERY INPUT', by the rows' own cells (each row's printed sentence says how): ExactTouches: laid · ExactOrders: laid · ExactInside: laid · ExactMoved: laid · ExactNormals: laid · ExactDistances: laid.
  DERIVED. THE GIVEN ROWS OF THIS SEAT. 6 by the template 'for every input the law returns true; each argument reads behind the call as it read before'; 0 by the template 'total and deterministic' (their statements: YtmooplnklcgfjaaDoorTotals.lean).
  GIVEN WITH THE SEED: the statements are not yours to turn. If you find one false, say at which input.
  Laid BY PROGRAM, IN A SANDBOX (cutbox-rows.mjs): the forced cells as the released guide's own fill.sh prints them over the translation d4d0a373891f9489… (all of the seat's roots in one cut). By AI agents, Wed Nov 11 2026. No macro, syntax, notation, axiom, sorry.
-/
import Derived.Test.YtmooplnklcgfjaaDoorChecked
import GoSem.PinnedTables
import GoSem.Claim
import GoSem.ClaimJoined
import GoSem.ClaimMapViews
import Derived.JoinedTies
import Derived.KernelRfl
namespace Go.Proofs.YtmooplnklcgfjaaDoor
/- THE CELL 'sum', in the pinned program and in every row, IS THE sha256 OF THE DUMP (.gsa) THAT YtmooplnklcgfjaaDoorProg.lean LOADS. Nothing in Lean hashes anything: it is a label: what it is worth is what the hold of that sum in a sandbox is worth. -/
noncomputable def Tryd.pinned : Pinned := { name := "ytmooplnklcgfjaadoor", sum := "d4d0a373891f94896bab0a3836fbfe4a10ae456056d1e9ebf4d50c754b7d950c", checked := Tryd.checked }
namespace Rows
def none {H : Type} : Left H := { results := [], args := [] }

/- WHAT THE LISTED PACKAGE-LEVEL VARIABLES READ AS WHEN THE CALL BEGINS. Each datum BY PROGRAM (the guide's laid-datum.mjs) off the statement by which the dump's own 'gosem.cut.vars' lays the variable. In a bare row this is a premise. The card (YtmooplnklcgfjaaDoorCards.lean) ties it to the program's text. -/
def laid_unicode_utf8_acceptRanges {H : Type} : DataW H := .agg [.agg [.lit (.int .u8 128), .lit (.int .u8 191)], .agg [.lit (.int .u8 160), .lit (.int .u8 191)], .agg [.lit (.int .u8 128), .lit (.int .u8 159)], .agg [.lit (.int .u8 144), .lit (.int .u8 191)], .agg [.lit (.int .u8 128), .lit (.int .u8 143)], .agg [.lit (.int .u8 0), .lit (.int .u8 0)], .agg [.lit (.int .u8 0), .lit (.int .u8 0)], .agg [.lit (.int .u8 0), .lit (.int .u8 0)], .agg [.lit (.int .u8 0), .lit (.int .u8 0)], .agg [.lit (.int .u8 0), .lit (.int .u8 0)], .agg [.lit (.int .u8 0), .lit (.int .u8 0)], .agg [.lit (.int .u8 0), .lit (.int .u8 0)], .agg [.lit (.int .u8 0), .lit (.int .u8 0)], .agg [.lit (.int .u8 0), .lit (.int .u8 0)], .agg [.lit (.int .u8 0), .lit (.int .u8 0)], .agg [.lit (.int .u8 0), .lit (.int .u8 0)]]
/-- One of Go's own tables, pinned by name: the form's constant. -/
def laid_unicode_utf8_first : DataW Unit := Go.Pinned.utf8First

/-- 'lithophanelaw02.ExactTouches': WHATEVER THE INPUT: true; the input reads as it did. -/
def exactTouchesSpec : ChangeSpec := { name := "exactTouches", fn := fun _ => fun
  | [d1, d2, d3] => { results := [.lit (.bool true)], args := [d1, d2, d3] }
  | _ => none }
def exactTouchesRow : OpenClaim := { program := "ytmooplnklcgfjaadoor", sum := "d4d0a373891f94896bab0a3836fbfe4a10ae456056d1e9ebf4d50c754b7d950c", func := "lithophane/lithophanelaw02.ExactTouches", spec := "exactTouches", inPlace := ["internal/bytealg.IndexByteString", "internal/bytealg.IndexString"], unfollowed := true, recurses := true, named := ["unicode/utf8.first", "unicode/utf8.acceptRanges", "internal/bytealg.MaxLen"], apart := false, laid := [("unicode/utf8.acceptRanges", laid_unicode_utf8_acceptRanges), ("unicode/utf8.first", laid_unicode_utf8_first)] }
def ExactTouchesSaid : Prop := exactTouchesRow.holds Tryd.pinned (OpenSpec.ofChange exactTouchesSpec)

/-- ITS FALSE NEIGHBOUR: 'it returns false'. Refute it at one input. -/
def exactTouchesWrong : ChangeSpec := { name := "exactTouches", fn := fun _ => fun
  | [d1, d2, d3] => { results := [.lit (.bool false)], args := [d1, d2, d3] }
  | _ => none }
def ExactTouchesWrongFalsely : Prop := exactTouchesRow.holds Tryd.pinned (OpenSpec.ofChange exactTouchesWrong)

/-- 'lithophanelaw02.ExactOrders': WHATEVER THE INPUT: true; the input reads as it did. -/
def exactOrdersSpec : ChangeSpec := { name := "exactOrders", fn := fun _ => fun
  | [d1, d2] => { results := [.lit (.bool true)], args := [d1, d2] }
  | _ => none }
def exactOrdersRow : OpenClaim := { program := "ytmooplnklcgfjaadoor", sum := "d4d0a373891f94896bab0a3836fbfe4a10ae456056d1e9ebf4d50c754b7d950c", func := "lithophane/lithophanelaw02.ExactOrders", spec := "exactOrders", inPlace := ["internal/bytealg.IndexByteString", "internal/bytealg.IndexString"], unfollowed := true, recurses := true, named := ["unicode/utf8.first", "unicode/utf8.acceptRanges", "internal/bytealg.MaxLen"], apart := false, laid := [("unicode/utf8.acceptRanges", laid_unicode_utf8_acceptRanges), ("unicode/utf8.first", laid_unicode_utf8_first)] }
def ExactOrdersSaid : Prop := exactOrdersRow.holds Tryd.pinned (OpenSpec.ofChange exactOrdersSpec)

/-- ITS FALSE NEIGHBOUR: 'it returns false'. Refute it at one input. -/
def exactOrdersWrong : ChangeSpec := { name := "exactOrders", fn := fun _ => fun
  | [d1, d2] => { results := [.lit (.bool false)], args := [d1, d2] }
  | _ => none }
def ExactOrdersWrongFalsely : Prop := exactOrdersRow.holds Tryd.pinned (OpenSpec.ofChange exactOrdersWrong)

/-- 'lithophanelaw02.ExactInside': WHATEVER THE INPUT: true; the input reads as it did. -/
def exactInsideSpec : ChangeSpec := { name := "exactInside", fn := fun _ => fun
  | [d1, d2, d3] => { results := [.lit (.bool true)], args := [d1, d2, d3] }
  | _ => none }
def exactInsideRow : OpenClaim := { program := "ytmooplnklcgfjaadoor", sum := "d4d0a373891f94896bab0a3836fbfe4a10ae456056d1e9ebf4d50c754b7d950c", func := "lithophane/lithophanelaw02.ExactInside", spec := "exactInside", inPlace := ["internal/bytealg.IndexByteString", "internal/bytealg.IndexString"], unfollowed := true, recurses := true, named := ["unicode/utf8.first", "unicode/utf8.acceptRanges", "internal/bytealg.MaxLen"], apart := false, laid := [("unicode/utf8.acceptRanges", laid_unicode_utf8_acceptRanges), ("unicode/utf8.first", laid_unicode_utf8_first)] }
def ExactInsideSaid : Prop := exactInsideRow.holds Tryd.pinned (OpenSpec.ofChange exactInsideSpec)

/-- ITS FALSE NEIGHBOUR: 'it returns false'. Refute it at one input. -/
def exactInsideWrong : ChangeSpec := { name := "exactInside", fn := fun _ => fun
  | [d1, d2, d3] => { results := [.lit (.bool false)], args := [d1, d2, d3] }
  | _ => none }
def ExactInsideWrongFalsely : Prop := exactInsideRow.holds Tryd.pinned (OpenSpec.ofChange exactInsideWrong)

/-- 'lithophanelaw02.ExactMoved': WHATEVER THE INPUT: true; the input reads as it did. -/
def exactMovedSpec : ChangeSpec := { name := "exactMoved", fn := fun _ => fun
  | [d1, d2, d3] => { results := [.lit (.bool true)], args := [d1, d2, d3] }
  | _ => none }
def exactMovedRow : OpenClaim := { program := "ytmooplnklcgfjaadoor", sum := "d4d0a373891f94896bab0a3836fbfe4a10ae456056d1e9ebf4d50c754b7d950c", func := "lithophane/lithophanelaw02.ExactMoved", spec := "exactMoved", inPlace := ["internal/bytealg.IndexByteString", "internal/bytealg.IndexString"], unfollowed := true, recurses := true, named := ["unicode/utf8.first", "unicode/utf8.acceptRanges", "internal/bytealg.MaxLen"], apart := false, laid := [("unicode/utf8.acceptRanges", laid_unicode_utf8_acceptRanges), ("unicode/utf8.first", laid_unicode_utf8_first)] }
def ExactMovedSaid : Prop := exactMovedRow.holds Tryd.pinned (OpenSpec.ofChange exactMovedSpec)

/-- ITS FALSE NEIGHBOUR: 'it returns false'. Refute it at one input. -/
def exactMovedWrong : ChangeSpec := { name := "exactMoved", fn := fun _ => fun
  | [d1, d2, d3] => { results := [.lit (.bool false)], args := [d1, d2, d3] }
  | _ => none }
def ExactMovedWrongFalsely : Prop := exactMovedRow.holds Tryd.pinned (OpenSpec.ofChange exactMovedWrong)

/-- 'lithophanelaw02.ExactNormals': WHATEVER THE INPUT: true; the input reads as it did. -/
def exactNormalsSpec : ChangeSpec := { name := "exactNormals", fn := fun _ => fun
  | [d] => { results := [.lit (.bool true)], args := [d] }
  | _ => none }
def exactNormalsRow : OpenClaim := { program := "ytmooplnklcgfjaadoor", sum := "d4d0a373891f94896bab0a3836fbfe4a10ae456056d1e9ebf4d50c754b7d950c", func := "lithophane/lithophanelaw02.ExactNormals", spec := "exactNormals", inPlace := ["internal/bytealg.IndexByteString", "internal/bytealg.IndexString"], unfollowed := true, recurses := true, named := ["unicode/utf8.first", "unicode/utf8.acceptRanges", "internal/bytealg.MaxLen"], apart := false, laid := [("unicode/utf8.acceptRanges", laid_unicode_utf8_acceptRanges), ("unicode/utf8.first", laid_unicode_utf8_first)] }
def ExactNormalsSaid : Prop := exactNormalsRow.holds Tryd.pinned (OpenSpec.ofChange exactNormalsSpec)

/-- ITS FALSE NEIGHBOUR: 'it returns false'. Refute it at one input. -/
def exactNormalsWrong : ChangeSpec := { name := "exactNormals", fn := fun _ => fun
  | [d] => { results := [.lit (.bool false)], args := [d] }
  | _ => none }
def ExactNormalsWrongFalsely : Prop := exactNormalsRow.holds Tryd.pinned (OpenSpec.ofChange exactNormalsWrong)

/-- 'lithophanelaw02.ExactDistances': WHATEVER THE INPUT: true; the input reads as it did. -/
def exactDistancesSpec : ChangeSpec := { name := "exactDistances", fn := fun _ => fun
  | [d1, d2] => { results := [.lit (.bool true)], args := [d1, d2] }
  | _ => none }
def exactDistancesRow : OpenClaim := { program := "ytmooplnklcgfjaadoor", sum := "d4d0a373891f94896bab0a3836fbfe4a10ae456056d1e9ebf4d50c754b7d950c", func := "lithophane/lithophanelaw02.ExactDistances", spec := "exactDistances", inPlace := ["internal/bytealg.IndexByteString", "internal/bytealg.IndexString"], unfollowed := true, recurses := true, named := ["unicode/utf8.first", "unicode/utf8.acceptRanges", "internal/bytealg.MaxLen"], apart := false, laid := [("unicode/utf8.acceptRanges", laid_unicode_utf8_acceptRanges), ("unicode/utf8.first", laid_unicode_utf8_first)] }
def ExactDistancesSaid : Prop := exactDistancesRow.holds Tryd.pinned (OpenSpec.ofChange exactDistancesSpec)

/-- ITS FALSE NEIGHBOUR: 'it returns false'. Refute it at one input. -/
def exactDistancesWrong : ChangeSpec := { name := "exactDistances", fn := fun _ => fun
  | [d1, d2] => { results := [.lit (.bool false)], args := [d1, d2] }
  | _ => none }
def ExactDistancesWrongFalsely : Prop := exactDistancesRow.holds Tryd.pinned (OpenSpec.ofChange exactDistancesWrong)

/- THE SECOND FORM. 'bulk': how many values and letters a reading holds, each counted each time it is reached (what is shared counts as often as it is met; a slice's spare places count too). A statement '..UptoSaid' is the law's where the arguments, and the package variables that the reading takes, are together of bulk at most 1048576: NARROWER than '..Said'. Prove '..Said' where nothing that the law and all that it calls make is longer than what came in: it says more and counts as full. Else prove '..UptoSaid'. A law counts once. -/
mutual
def uptoBulk {H : Type} : DataW H → Nat
  | .lit (.string bytes) => bytes.length + 1
  | .lit _ => 1
  | .nil => 1
  | .ptr d => uptoBulk d + 1
  | .slice elems spare => uptoBulkAll elems + uptoBulkAll spare + 1
  | .agg parts => uptoBulkAll parts + 1
  | .iface _ d => uptoBulk d + 1
  | .map entries => uptoBulkEntries entries + 1
  | .held _ => 1
def uptoBulkAll {H : Type} : List (DataW H) → Nat
  | [] => 0
  | d :: r => uptoBulk d + uptoBulkAll r
def uptoBulkEntries {H : Type} : List (Lit × DataW H) → Nat
  | [] => 0
  | x :: r => uptoBulkEntry x + uptoBulkEntries r
def uptoBulkEntry {H : Type} : Lit × DataW H → Nat
  | (.string bytes, d) => bytes.length + uptoBulk d + 1
  | (_, d) => uptoBulk d + 1
 end
def uptoSmall : (H : Type) → List (DataW H) → Bool := fun _ ds => decide (uptoBulkAll ds ≤ 1048576)
def OpenSpec.upto (s : _root_.Go.ChangeSpec) : _root_.Go.OpenSpec := { _root_.Go.OpenSpec.ofChange s with cond := some uptoSmall }

/-- 'lithophanelaw02.ExactTouches', WHERE WHAT IT READS IS OF BULK AT MOST 1048576: true; the input reads as it did. -/
def exactTouchesUptoRow : OpenClaim := { program := "ytmooplnklcgfjaadoor", sum := "d4d0a373891f94896bab0a3836fbfe4a10ae456056d1e9ebf4d50c754b7d950c", func := "lithophane/lithophanelaw02.ExactTouches", spec := "exactTouches", inPlace := ["internal/bytealg.IndexByteString", "internal/bytealg.IndexString"], unfollowed := true, recurses := true, named := ["unicode/utf8.first", "unicode/utf8.acceptRanges", "internal/bytealg.MaxLen"], apart := false, laid := [("unicode/utf8.acceptRanges", laid_unicode_utf8_acceptRanges), ("unicode/utf8.first", laid_unicode_utf8_first)], narrowed := true }
def ExactTouchesUptoSaid : Prop := exactTouchesUptoRow.holds Tryd.pinned (OpenSpec.upto exactTouchesSpec)

/-- 'lithophanelaw02.ExactOrders', WHERE WHAT IT READS IS OF BULK AT MOST 1048576: true; the input reads as it did. -/
def exactOrdersUptoRow : OpenClaim := { program := "ytmooplnklcgfjaadoor", sum := "d4d0a373891f94896bab0a3836fbfe4a10ae456056d1e9ebf4d50c754b7d950c", func := "lithophane/lithophanelaw02.ExactOrders", spec := "exactOrders", inPlace := ["internal/bytealg.IndexByteString", "internal/bytealg.IndexString"], unfollowed := true, recurses := true, named := ["unicode/utf8.first", "unicode/utf8.acceptRanges", "internal/bytealg.MaxLen"], apart := false, laid := [("unicode/utf8.acceptRanges", laid_unicode_utf8_acceptRanges), ("unicode/utf8.first", laid_unicode_utf8_first)], narrowed := true }
def ExactOrdersUptoSaid : Prop := exactOrdersUptoRow.holds Tryd.pinned (OpenSpec.upto exactOrdersSpec)

/-- 'lithophanelaw02.ExactInside', WHERE WHAT IT READS IS OF BULK AT MOST 1048576: true; the input reads as it did. -/
def exactInsideUptoRow : OpenClaim := { program := "ytmooplnklcgfjaadoor", sum := "d4d0a373891f94896bab0a3836fbfe4a10ae456056d1e9ebf4d50c754b7d950c", func := "lithophane/lithophanelaw02.ExactInside", spec := "exactInside", inPlace := ["internal/bytealg.IndexByteString", "internal/bytealg.IndexString"], unfollowed := true, recurses := true, named := ["unicode/utf8.first", "unicode/utf8.acceptRanges", "internal/bytealg.MaxLen"], apart := false, laid := [("unicode/utf8.acceptRanges", laid_unicode_utf8_acceptRanges), ("unicode/utf8.first", laid_unicode_utf8_first)], narrowed := true }
def ExactInsideUptoSaid : Prop := exactInsideUptoRow.holds Tryd.pinned (OpenSpec.upto exactInsideSpec)

/-- 'lithophanelaw02.ExactMoved', WHERE WHAT IT READS IS OF BULK AT MOST 1048576: true; the input reads as it did. -/
def exactMovedUptoRow : OpenClaim := { program := "ytmooplnklcgfjaadoor", sum := "d4d0a373891f94896bab0a3836fbfe4a10ae456056d1e9ebf4d50c754b7d950c", func := "lithophane/lithophanelaw02.ExactMoved", spec := "exactMoved", inPlace := ["internal/bytealg.IndexByteString", "internal/bytealg.IndexString"], unfollowed := true, recurses := true, named := ["unicode/utf8.first", "unicode/utf8.acceptRanges", "internal/bytealg.MaxLen"], apart := false, laid := [("unicode/utf8.acceptRanges", laid_unicode_utf8_acceptRanges), ("unicode/utf8.first", laid_unicode_utf8_first)], narrowed := true }
def ExactMovedUptoSaid : Prop := exactMovedUptoRow.holds Tryd.pinned (OpenSpec.upto exactMovedSpec)

/-- 'lithophanelaw02.ExactNormals', WHERE WHAT IT READS IS OF BULK AT MOST 1048576: true; the input reads as it did. -/
def exactNormalsUptoRow : OpenClaim := { program := "ytmooplnklcgfjaadoor", sum := "d4d0a373891f94896bab0a3836fbfe4a10ae456056d1e9ebf4d50c754b7d950c", func := "lithophane/lithophanelaw02.ExactNormals", spec := "exactNormals", inPlace := ["internal/bytealg.IndexByteString", "internal/bytealg.IndexString"], unfollowed := true, recurses := true, named := ["unicode/utf8.first", "unicode/utf8.acceptRanges", "internal/bytealg.MaxLen"], apart := false, laid := [("unicode/utf8.acceptRanges", laid_unicode_utf8_acceptRanges), ("unicode/utf8.first", laid_unicode_utf8_first)], narrowed := true }
def ExactNormalsUptoSaid : Prop := exactNormalsUptoRow.holds Tryd.pinned (OpenSpec.upto exactNormalsSpec)

/-- 'lithophanelaw02.ExactDistances', WHERE WHAT IT READS IS OF BULK AT MOST 1048576: true; the input reads as it did. -/
def exactDistancesUptoRow : OpenClaim := { program := "ytmooplnklcgfjaadoor", sum := "d4d0a373891f94896bab0a3836fbfe4a10ae456056d1e9ebf4d50c754b7d950c", func := "lithophane/lithophanelaw02.ExactDistances", spec := "exactDistances", inPlace := ["internal/bytealg.IndexByteString", "internal/bytealg.IndexString"], unfollowed := true, recurses := true, named := ["unicode/utf8.first", "unicode/utf8.acceptRanges", "internal/bytealg.MaxLen"], apart := false, laid := [("unicode/utf8.acceptRanges", laid_unicode_utf8_acceptRanges), ("unicode/utf8.first", laid_unicode_utf8_first)], narrowed := true }
def ExactDistancesUptoSaid : Prop := exactDistancesUptoRow.holds Tryd.pinned (OpenSpec.upto exactDistancesSpec)

end Rows
end Go.Proofs.YtmooplnklcgfjaaDoor
