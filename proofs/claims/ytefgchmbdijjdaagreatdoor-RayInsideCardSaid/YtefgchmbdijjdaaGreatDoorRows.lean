/-
  NARROWER THAN 'FOR EVERY INPUT', by the rows' own cells (each row's printed sentence says how): RayCrosses: laid · RayBoxes: laid · RayHits: laid · RayThrough: laid · RayInside: laid · RayCounts: laid · RayFirst: laid · RayKeeps: laid.
  DERIVED. THE GIVEN ROWS OF THIS SEAT. 8 by the template 'for every input the law returns true; each argument reads behind the call as it read before'; 0 by the template 'total and deterministic' (their statements: YtefgchmbdijjdaaGreatDoorTotals.lean).
  GIVEN WITH THE SEED: the statements are not yours to turn. If you find one false, say at which input.
  Laid BY PROGRAM, IN A SANDBOX (cutbox-rows.mjs): the forced cells as the released guide's own fill.sh prints them over the translation 4ada9d8f20ae3616… (all of the seat's roots in one cut). By AI agents, Wed Nov 11 2026. No macro, syntax, notation, axiom, sorry.
-/
import Derived.Test.YtefgchmbdijjdaaGreatDoorChecked
import GoSem.PinnedTables
import GoSem.Claim
import GoSem.ClaimJoined
import GoSem.ClaimMapViews
import Derived.JoinedTies
import Derived.KernelRfl
namespace Go.Proofs.YtefgchmbdijjdaaGreatDoor
/- THE CELL 'sum', in the pinned program and in every row, IS THE sha256 OF THE DUMP (.gsa) THAT YtefgchmbdijjdaaGreatDoorProg.lean LOADS. Nothing in Lean hashes anything: it is a label: what it is worth is what the hold of that sum in a sandbox is worth. -/
noncomputable def Tryz.pinned : Pinned := { name := "ytefgchmbdijjdaagreatdoor", sum := "4ada9d8f20ae3616205f67fee6c1133c7028dd5fa131f1e02985a3b637e0ad6e", checked := Tryz.checked }
namespace Rows
def none {H : Type} : Left H := { results := [], args := [] }

/- WHAT THE LISTED PACKAGE-LEVEL VARIABLES READ AS WHEN THE CALL BEGINS. Each datum BY PROGRAM (the guide's laid-datum.mjs) off the statement by which the dump's own 'gosem.cut.vars' lays the variable. In a bare row this is a premise. The card (YtefgchmbdijjdaaGreatDoorCards.lean) ties it to the program's text. -/
def laid_unicode_utf8_acceptRanges {H : Type} : DataW H := .agg [.agg [.lit (.int .u8 128), .lit (.int .u8 191)], .agg [.lit (.int .u8 160), .lit (.int .u8 191)], .agg [.lit (.int .u8 128), .lit (.int .u8 159)], .agg [.lit (.int .u8 144), .lit (.int .u8 191)], .agg [.lit (.int .u8 128), .lit (.int .u8 143)], .agg [.lit (.int .u8 0), .lit (.int .u8 0)], .agg [.lit (.int .u8 0), .lit (.int .u8 0)], .agg [.lit (.int .u8 0), .lit (.int .u8 0)], .agg [.lit (.int .u8 0), .lit (.int .u8 0)], .agg [.lit (.int .u8 0), .lit (.int .u8 0)], .agg [.lit (.int .u8 0), .lit (.int .u8 0)], .agg [.lit (.int .u8 0), .lit (.int .u8 0)], .agg [.lit (.int .u8 0), .lit (.int .u8 0)], .agg [.lit (.int .u8 0), .lit (.int .u8 0)], .agg [.lit (.int .u8 0), .lit (.int .u8 0)], .agg [.lit (.int .u8 0), .lit (.int .u8 0)]]
/-- One of Go's own tables, pinned by name: the form's constant. -/
def laid_unicode_utf8_first : DataW Unit := Go.Pinned.utf8First

/-- 'lithophanelaw22.RayCrosses': WHATEVER THE INPUT: true; the input reads as it did. -/
def rayCrossesSpec : ChangeSpec := { name := "rayCrosses", fn := fun _ => fun
  | [d1, d2] => { results := [.lit (.bool true)], args := [d1, d2] }
  | _ => none }
def rayCrossesRow : OpenClaim := { program := "ytefgchmbdijjdaagreatdoor", sum := "4ada9d8f20ae3616205f67fee6c1133c7028dd5fa131f1e02985a3b637e0ad6e", func := "lithophane/lithophanelaw22.RayCrosses", spec := "rayCrosses", inPlace := ["internal/bytealg.IndexByteString", "internal/bytealg.IndexString"], unfollowed := true, recurses := true, named := ["unicode/utf8.first", "unicode/utf8.acceptRanges", "internal/bytealg.MaxLen"], apart := false, laid := [("unicode/utf8.acceptRanges", laid_unicode_utf8_acceptRanges), ("unicode/utf8.first", laid_unicode_utf8_first)] }
def RayCrossesSaid : Prop := rayCrossesRow.holds Tryz.pinned (OpenSpec.ofChange rayCrossesSpec)

/-- ITS FALSE NEIGHBOUR: 'it returns false'. Refute it at one input. -/
def rayCrossesWrong : ChangeSpec := { name := "rayCrosses", fn := fun _ => fun
  | [d1, d2] => { results := [.lit (.bool false)], args := [d1, d2] }
  | _ => none }
def RayCrossesWrongFalsely : Prop := rayCrossesRow.holds Tryz.pinned (OpenSpec.ofChange rayCrossesWrong)

/-- 'lithophanelaw22.RayBoxes': WHATEVER THE INPUT: true; the input reads as it did. -/
def rayBoxesSpec : ChangeSpec := { name := "rayBoxes", fn := fun _ => fun
  | [d1, d2, d3] => { results := [.lit (.bool true)], args := [d1, d2, d3] }
  | _ => none }
def rayBoxesRow : OpenClaim := { program := "ytefgchmbdijjdaagreatdoor", sum := "4ada9d8f20ae3616205f67fee6c1133c7028dd5fa131f1e02985a3b637e0ad6e", func := "lithophane/lithophanelaw22.RayBoxes", spec := "rayBoxes", inPlace := ["internal/bytealg.IndexByteString", "internal/bytealg.IndexString"], unfollowed := true, recurses := true, named := ["unicode/utf8.first", "unicode/utf8.acceptRanges", "internal/bytealg.MaxLen"], apart := false, laid := [("unicode/utf8.acceptRanges", laid_unicode_utf8_acceptRanges), ("unicode/utf8.first", laid_unicode_utf8_first)] }
def RayBoxesSaid : Prop := rayBoxesRow.holds Tryz.pinned (OpenSpec.ofChange rayBoxesSpec)

/-- ITS FALSE NEIGHBOUR: 'it returns false'. Refute it at one input. -/
def rayBoxesWrong : ChangeSpec := { name := "rayBoxes", fn := fun _ => fun
  | [d1, d2, d3] => { results := [.lit (.bool false)], args := [d1, d2, d3] }
  | _ => none }
def RayBoxesWrongFalsely : Prop := rayBoxesRow.holds Tryz.pinned (OpenSpec.ofChange rayBoxesWrong)

/-- 'lithophanelaw22.RayHits': WHATEVER THE INPUT: true; the input reads as it did. -/
def rayHitsSpec : ChangeSpec := { name := "rayHits", fn := fun _ => fun
  | [d1, d2, d3] => { results := [.lit (.bool true)], args := [d1, d2, d3] }
  | _ => none }
def rayHitsRow : OpenClaim := { program := "ytefgchmbdijjdaagreatdoor", sum := "4ada9d8f20ae3616205f67fee6c1133c7028dd5fa131f1e02985a3b637e0ad6e", func := "lithophane/lithophanelaw22.RayHits", spec := "rayHits", inPlace := ["internal/bytealg.IndexByteString", "internal/bytealg.IndexString"], unfollowed := true, recurses := true, named := ["unicode/utf8.first", "unicode/utf8.acceptRanges", "internal/bytealg.MaxLen"], apart := false, laid := [("unicode/utf8.acceptRanges", laid_unicode_utf8_acceptRanges), ("unicode/utf8.first", laid_unicode_utf8_first)] }
def RayHitsSaid : Prop := rayHitsRow.holds Tryz.pinned (OpenSpec.ofChange rayHitsSpec)

/-- ITS FALSE NEIGHBOUR: 'it returns false'. Refute it at one input. -/
def rayHitsWrong : ChangeSpec := { name := "rayHits", fn := fun _ => fun
  | [d1, d2, d3] => { results := [.lit (.bool false)], args := [d1, d2, d3] }
  | _ => none }
def RayHitsWrongFalsely : Prop := rayHitsRow.holds Tryz.pinned (OpenSpec.ofChange rayHitsWrong)

/-- 'lithophanelaw22.RayThrough': WHATEVER THE INPUT: true; the input reads as it did. -/
def rayThroughSpec : ChangeSpec := { name := "rayThrough", fn := fun _ => fun
  | [d1, d2, d3] => { results := [.lit (.bool true)], args := [d1, d2, d3] }
  | _ => none }
def rayThroughRow : OpenClaim := { program := "ytefgchmbdijjdaagreatdoor", sum := "4ada9d8f20ae3616205f67fee6c1133c7028dd5fa131f1e02985a3b637e0ad6e", func := "lithophane/lithophanelaw22.RayThrough", spec := "rayThrough", inPlace := ["internal/bytealg.IndexByteString", "internal/bytealg.IndexString"], unfollowed := true, recurses := true, named := ["unicode/utf8.first", "unicode/utf8.acceptRanges", "internal/bytealg.MaxLen"], apart := false, laid := [("unicode/utf8.acceptRanges", laid_unicode_utf8_acceptRanges), ("unicode/utf8.first", laid_unicode_utf8_first)] }
def RayThroughSaid : Prop := rayThroughRow.holds Tryz.pinned (OpenSpec.ofChange rayThroughSpec)

/-- ITS FALSE NEIGHBOUR: 'it returns false'. Refute it at one input. -/
def rayThroughWrong : ChangeSpec := { name := "rayThrough", fn := fun _ => fun
  | [d1, d2, d3] => { results := [.lit (.bool false)], args := [d1, d2, d3] }
  | _ => none }
def RayThroughWrongFalsely : Prop := rayThroughRow.holds Tryz.pinned (OpenSpec.ofChange rayThroughWrong)

/-- 'lithophanelaw22.RayInside': WHATEVER THE INPUT: true; the input reads as it did. -/
def rayInsideSpec : ChangeSpec := { name := "rayInside", fn := fun _ => fun
  | [d1, d2] => { results := [.lit (.bool true)], args := [d1, d2] }
  | _ => none }
def rayInsideRow : OpenClaim := { program := "ytefgchmbdijjdaagreatdoor", sum := "4ada9d8f20ae3616205f67fee6c1133c7028dd5fa131f1e02985a3b637e0ad6e", func := "lithophane/lithophanelaw22.RayInside", spec := "rayInside", inPlace := ["internal/bytealg.IndexByteString", "internal/bytealg.IndexString"], unfollowed := true, recurses := true, named := ["unicode/utf8.first", "unicode/utf8.acceptRanges", "internal/bytealg.MaxLen"], apart := false, laid := [("unicode/utf8.acceptRanges", laid_unicode_utf8_acceptRanges), ("unicode/utf8.first", laid_unicode_utf8_first)] }
def RayInsideSaid : Prop := rayInsideRow.holds Tryz.pinned (OpenSpec.ofChange rayInsideSpec)

/-- ITS FALSE NEIGHBOUR: 'it returns false'. Refute it at one input. -/
def rayInsideWrong : ChangeSpec := { name := "rayInside", fn := fun _ => fun
  | [d1, d2] => { results := [.lit (.bool false)], args := [d1, d2] }
  | _ => none }
def RayInsideWrongFalsely : Prop := rayInsideRow.holds Tryz.pinned (OpenSpec.ofChange rayInsideWrong)

/-- 'lithophanelaw22.RayCounts': WHATEVER THE INPUT: true; the input reads as it did. -/
def rayCountsSpec : ChangeSpec := { name := "rayCounts", fn := fun _ => fun
  | [d1, d2, d3] => { results := [.lit (.bool true)], args := [d1, d2, d3] }
  | _ => none }
def rayCountsRow : OpenClaim := { program := "ytefgchmbdijjdaagreatdoor", sum := "4ada9d8f20ae3616205f67fee6c1133c7028dd5fa131f1e02985a3b637e0ad6e", func := "lithophane/lithophanelaw22.RayCounts", spec := "rayCounts", inPlace := ["internal/bytealg.IndexByteString", "internal/bytealg.IndexString"], unfollowed := true, recurses := true, named := ["unicode/utf8.first", "unicode/utf8.acceptRanges", "internal/bytealg.MaxLen"], apart := false, laid := [("unicode/utf8.acceptRanges", laid_unicode_utf8_acceptRanges), ("unicode/utf8.first", laid_unicode_utf8_first)] }
def RayCountsSaid : Prop := rayCountsRow.holds Tryz.pinned (OpenSpec.ofChange rayCountsSpec)

/-- ITS FALSE NEIGHBOUR: 'it returns false'. Refute it at one input. -/
def rayCountsWrong : ChangeSpec := { name := "rayCounts", fn := fun _ => fun
  | [d1, d2, d3] => { results := [.lit (.bool false)], args := [d1, d2, d3] }
  | _ => none }
def RayCountsWrongFalsely : Prop := rayCountsRow.holds Tryz.pinned (OpenSpec.ofChange rayCountsWrong)

/-- 'lithophanelaw22.RayFirst': WHATEVER THE INPUT: true; the input reads as it did. -/
def rayFirstSpec : ChangeSpec := { name := "rayFirst", fn := fun _ => fun
  | [d1, d2, d3] => { results := [.lit (.bool true)], args := [d1, d2, d3] }
  | _ => none }
def rayFirstRow : OpenClaim := { program := "ytefgchmbdijjdaagreatdoor", sum := "4ada9d8f20ae3616205f67fee6c1133c7028dd5fa131f1e02985a3b637e0ad6e", func := "lithophane/lithophanelaw22.RayFirst", spec := "rayFirst", inPlace := ["internal/bytealg.IndexByteString", "internal/bytealg.IndexString"], unfollowed := true, recurses := true, named := ["unicode/utf8.first", "unicode/utf8.acceptRanges", "internal/bytealg.MaxLen"], apart := false, laid := [("unicode/utf8.acceptRanges", laid_unicode_utf8_acceptRanges), ("unicode/utf8.first", laid_unicode_utf8_first)] }
def RayFirstSaid : Prop := rayFirstRow.holds Tryz.pinned (OpenSpec.ofChange rayFirstSpec)

/-- ITS FALSE NEIGHBOUR: 'it returns false'. Refute it at one input. -/
def rayFirstWrong : ChangeSpec := { name := "rayFirst", fn := fun _ => fun
  | [d1, d2, d3] => { results := [.lit (.bool false)], args := [d1, d2, d3] }
  | _ => none }
def RayFirstWrongFalsely : Prop := rayFirstRow.holds Tryz.pinned (OpenSpec.ofChange rayFirstWrong)

/-- 'lithophanelaw22.RayKeeps': WHATEVER THE INPUT: true; the input reads as it did. -/
def rayKeepsSpec : ChangeSpec := { name := "rayKeeps", fn := fun _ => fun
  | [d1, d2, d3] => { results := [.lit (.bool true)], args := [d1, d2, d3] }
  | _ => none }
def rayKeepsRow : OpenClaim := { program := "ytefgchmbdijjdaagreatdoor", sum := "4ada9d8f20ae3616205f67fee6c1133c7028dd5fa131f1e02985a3b637e0ad6e", func := "lithophane/lithophanelaw22.RayKeeps", spec := "rayKeeps", inPlace := ["internal/bytealg.IndexByteString", "internal/bytealg.IndexString"], unfollowed := true, recurses := true, named := ["unicode/utf8.first", "unicode/utf8.acceptRanges", "internal/bytealg.MaxLen"], apart := false, laid := [("unicode/utf8.acceptRanges", laid_unicode_utf8_acceptRanges), ("unicode/utf8.first", laid_unicode_utf8_first)] }
def RayKeepsSaid : Prop := rayKeepsRow.holds Tryz.pinned (OpenSpec.ofChange rayKeepsSpec)

/-- ITS FALSE NEIGHBOUR: 'it returns false'. Refute it at one input. -/
def rayKeepsWrong : ChangeSpec := { name := "rayKeeps", fn := fun _ => fun
  | [d1, d2, d3] => { results := [.lit (.bool false)], args := [d1, d2, d3] }
  | _ => none }
def RayKeepsWrongFalsely : Prop := rayKeepsRow.holds Tryz.pinned (OpenSpec.ofChange rayKeepsWrong)

/- THE SECOND FORM. 'bulk': how many values and letters a reading holds, each counted each time it is reached (what is shared counts as often as it is met; a slice's spare places count too). A statement '..UptoSaid' is the law's where the arguments, and the package variables that the reading takes, are together of bulk at most 1048576: NARROWER than '..Said'. Prove '..Said' where nothing that the law and all that it calls make is longer than what came in: it says more and counts as full. Else prove '..UptoSaid'. A law counts once. -/
mutual
def uptoBulk {H : Type} : DataW H → Nat
  | .lit (.string bytes) => bytes.length + 1
  | .lit _ => 1
  | .nil => 1
  | .ptr d => uptoBulk d + 1
  | .slice elems spare => uptoBulkAll elems + uptoBulkAll spare + 1
  | .agg parts => uptoBulkAll parts + 1
  | .iface _ d => uptoBulk d + 1
  | .map entries => uptoBulkEntries entries + 1
  | .held _ => 1
def uptoBulkAll {H : Type} : List (DataW H) → Nat
  | [] => 0
  | d :: r => uptoBulk d + uptoBulkAll r
def uptoBulkEntries {H : Type} : List (Lit × DataW H) → Nat
  | [] => 0
  | x :: r => uptoBulkEntry x + uptoBulkEntries r
def uptoBulkEntry {H : Type} : Lit × DataW H → Nat
  | (.string bytes, d) => bytes.length + uptoBulk d + 1
  | (_, d) => uptoBulk d + 1
 end
def uptoSmall : (H : Type) → List (DataW H) → Bool := fun _ ds => decide (uptoBulkAll ds ≤ 1048576)
def OpenSpec.upto (s : _root_.Go.ChangeSpec) : _root_.Go.OpenSpec := { _root_.Go.OpenSpec.ofChange s with cond := some uptoSmall }

/-- 'lithophanelaw22.RayCrosses', WHERE WHAT IT READS IS OF BULK AT MOST 1048576: true; the input reads as it did. -/
def rayCrossesUptoRow : OpenClaim := { program := "ytefgchmbdijjdaagreatdoor", sum := "4ada9d8f20ae3616205f67fee6c1133c7028dd5fa131f1e02985a3b637e0ad6e", func := "lithophane/lithophanelaw22.RayCrosses", spec := "rayCrosses", inPlace := ["internal/bytealg.IndexByteString", "internal/bytealg.IndexString"], unfollowed := true, recurses := true, named := ["unicode/utf8.first", "unicode/utf8.acceptRanges", "internal/bytealg.MaxLen"], apart := false, laid := [("unicode/utf8.acceptRanges", laid_unicode_utf8_acceptRanges), ("unicode/utf8.first", laid_unicode_utf8_first)], narrowed := true }
def RayCrossesUptoSaid : Prop := rayCrossesUptoRow.holds Tryz.pinned (OpenSpec.upto rayCrossesSpec)

/-- 'lithophanelaw22.RayBoxes', WHERE WHAT IT READS IS OF BULK AT MOST 1048576: true; the input reads as it did. -/
def rayBoxesUptoRow : OpenClaim := { program := "ytefgchmbdijjdaagreatdoor", sum := "4ada9d8f20ae3616205f67fee6c1133c7028dd5fa131f1e02985a3b637e0ad6e", func := "lithophane/lithophanelaw22.RayBoxes", spec := "rayBoxes", inPlace := ["internal/bytealg.IndexByteString", "internal/bytealg.IndexString"], unfollowed := true, recurses := true, named := ["unicode/utf8.first", "unicode/utf8.acceptRanges", "internal/bytealg.MaxLen"], apart := false, laid := [("unicode/utf8.acceptRanges", laid_unicode_utf8_acceptRanges), ("unicode/utf8.first", laid_unicode_utf8_first)], narrowed := true }
def RayBoxesUptoSaid : Prop := rayBoxesUptoRow.holds Tryz.pinned (OpenSpec.upto rayBoxesSpec)

/-- 'lithophanelaw22.RayHits', WHERE WHAT IT READS IS OF BULK AT MOST 1048576: true; the input reads as it did. -/
def rayHitsUptoRow : OpenClaim := { program := "ytefgchmbdijjdaagreatdoor", sum := "4ada9d8f20ae3616205f67fee6c1133c7028dd5fa131f1e02985a3b637e0ad6e", func := "lithophane/lithophanelaw22.RayHits", spec := "rayHits", inPlace := ["internal/bytealg.IndexByteString", "internal/bytealg.IndexString"], unfollowed := true, recurses := true, named := ["unicode/utf8.first", "unicode/utf8.acceptRanges", "internal/bytealg.MaxLen"], apart := false, laid := [("unicode/utf8.acceptRanges", laid_unicode_utf8_acceptRanges), ("unicode/utf8.first", laid_unicode_utf8_first)], narrowed := true }
def RayHitsUptoSaid : Prop := rayHitsUptoRow.holds Tryz.pinned (OpenSpec.upto rayHitsSpec)

/-- 'lithophanelaw22.RayThrough', WHERE WHAT IT READS IS OF BULK AT MOST 1048576: true; the input reads as it did. -/
def rayThroughUptoRow : OpenClaim := { program := "ytefgchmbdijjdaagreatdoor", sum := "4ada9d8f20ae3616205f67fee6c1133c7028dd5fa131f1e02985a3b637e0ad6e", func := "lithophane/lithophanelaw22.RayThrough", spec := "rayThrough", inPlace := ["internal/bytealg.IndexByteString", "internal/bytealg.IndexString"], unfollowed := true, recurses := true, named := ["unicode/utf8.first", "unicode/utf8.acceptRanges", "internal/bytealg.MaxLen"], apart := false, laid := [("unicode/utf8.acceptRanges", laid_unicode_utf8_acceptRanges), ("unicode/utf8.first", laid_unicode_utf8_first)], narrowed := true }
def RayThroughUptoSaid : Prop := rayThroughUptoRow.holds Tryz.pinned (OpenSpec.upto rayThroughSpec)

/-- 'lithophanelaw22.RayInside', WHERE WHAT IT READS IS OF BULK AT MOST 1048576: true; the input reads as it did. -/
def rayInsideUptoRow : OpenClaim := { program := "ytefgchmbdijjdaagreatdoor", sum := "4ada9d8f20ae3616205f67fee6c1133c7028dd5fa131f1e02985a3b637e0ad6e", func := "lithophane/lithophanelaw22.RayInside", spec := "rayInside", inPlace := ["internal/bytealg.IndexByteString", "internal/bytealg.IndexString"], unfollowed := true, recurses := true, named := ["unicode/utf8.first", "unicode/utf8.acceptRanges", "internal/bytealg.MaxLen"], apart := false, laid := [("unicode/utf8.acceptRanges", laid_unicode_utf8_acceptRanges), ("unicode/utf8.first", laid_unicode_utf8_first)], narrowed := true }
def RayInsideUptoSaid : Prop := rayInsideUptoRow.holds Tryz.pinned (OpenSpec.upto rayInsideSpec)

/-- 'lithophanelaw22.RayCounts', WHERE WHAT IT READS IS OF BULK AT MOST 1048576: true; the input reads as it did. -/
def rayCountsUptoRow : OpenClaim := { program := "ytefgchmbdijjdaagreatdoor", sum := "4ada9d8f20ae3616205f67fee6c1133c7028dd5fa131f1e02985a3b637e0ad6e", func := "lithophane/lithophanelaw22.RayCounts", spec := "rayCounts", inPlace := ["internal/bytealg.IndexByteString", "internal/bytealg.IndexString"], unfollowed := true, recurses := true, named := ["unicode/utf8.first", "unicode/utf8.acceptRanges", "internal/bytealg.MaxLen"], apart := false, laid := [("unicode/utf8.acceptRanges", laid_unicode_utf8_acceptRanges), ("unicode/utf8.first", laid_unicode_utf8_first)], narrowed := true }
def RayCountsUptoSaid : Prop := rayCountsUptoRow.holds Tryz.pinned (OpenSpec.upto rayCountsSpec)

/-- 'lithophanelaw22.RayFirst', WHERE WHAT IT READS IS OF BULK AT MOST 1048576: true; the input reads as it did. -/
def rayFirstUptoRow : OpenClaim := { program := "ytefgchmbdijjdaagreatdoor", sum := "4ada9d8f20ae3616205f67fee6c1133c7028dd5fa131f1e02985a3b637e0ad6e", func := "lithophane/lithophanelaw22.RayFirst", spec := "rayFirst", inPlace := ["internal/bytealg.IndexByteString", "internal/bytealg.IndexString"], unfollowed := true, recurses := true, named := ["unicode/utf8.first", "unicode/utf8.acceptRanges", "internal/bytealg.MaxLen"], apart := false, laid := [("unicode/utf8.acceptRanges", laid_unicode_utf8_acceptRanges), ("unicode/utf8.first", laid_unicode_utf8_first)], narrowed := true }
def RayFirstUptoSaid : Prop := rayFirstUptoRow.holds Tryz.pinned (OpenSpec.upto rayFirstSpec)

/-- 'lithophanelaw22.RayKeeps', WHERE WHAT IT READS IS OF BULK AT MOST 1048576: true; the input reads as it did. -/
def rayKeepsUptoRow : OpenClaim := { program := "ytefgchmbdijjdaagreatdoor", sum := "4ada9d8f20ae3616205f67fee6c1133c7028dd5fa131f1e02985a3b637e0ad6e", func := "lithophane/lithophanelaw22.RayKeeps", spec := "rayKeeps", inPlace := ["internal/bytealg.IndexByteString", "internal/bytealg.IndexString"], unfollowed := true, recurses := true, named := ["unicode/utf8.first", "unicode/utf8.acceptRanges", "internal/bytealg.MaxLen"], apart := false, laid := [("unicode/utf8.acceptRanges", laid_unicode_utf8_acceptRanges), ("unicode/utf8.first", laid_unicode_utf8_first)], narrowed := true }
def RayKeepsUptoSaid : Prop := rayKeepsUptoRow.holds Tryz.pinned (OpenSpec.upto rayKeepsSpec)

end Rows
end Go.Proofs.YtefgchmbdijjdaaGreatDoor
