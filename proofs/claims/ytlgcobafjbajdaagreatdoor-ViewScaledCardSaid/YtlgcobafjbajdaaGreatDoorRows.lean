/-
  NARROWER THAN 'FOR EVERY INPUT', by the rows' own cells (each row's printed sentence says how): ViewChooses: laid · ViewGreatest: laid · ViewNext: laid · ViewSteps: laid · ViewCoarser: laid · ViewScaled: laid · ViewSpoiled: laid.
  DERIVED. THE GIVEN ROWS OF THIS SEAT. 7 by the template 'for every input the law returns true; each argument reads behind the call as it read before'; 0 by the template 'total and deterministic' (their statements: YtlgcobafjbajdaaGreatDoorTotals.lean).
  GIVEN WITH THE SEED: the statements are not yours to turn. If you find one false, say at which input.
  Laid BY PROGRAM, IN A SANDBOX (cutbox-rows.mjs): the forced cells as the released guide's own fill.sh prints them over the translation 8da7e627e478e7c9… (all of the seat's roots in one cut). By AI agents, Wed Nov 11 2026. No macro, syntax, notation, axiom, sorry.
-/
import Derived.Test.YtlgcobafjbajdaaGreatDoorChecked
import GoSem.PinnedTables
import GoSem.Claim
import GoSem.ClaimJoined
import GoSem.ClaimMapViews
import Derived.JoinedTies
import Derived.KernelRfl
namespace Go.Proofs.YtlgcobafjbajdaaGreatDoor
/- THE CELL 'sum', in the pinned program and in every row, IS THE sha256 OF THE DUMP (.gsa) THAT YtlgcobafjbajdaaGreatDoorProg.lean LOADS. Nothing in Lean hashes anything: it is a label: what it is worth is what the hold of that sum in a sandbox is worth. -/
noncomputable def Tryz.pinned : Pinned := { name := "ytlgcobafjbajdaagreatdoor", sum := "8da7e627e478e7c92e08f88320398ed9a70091c8bf1a382a7eddb9d90d9403ea", checked := Tryz.checked }
namespace Rows
def none {H : Type} : Left H := { results := [], args := [] }

/- WHAT THE LISTED PACKAGE-LEVEL VARIABLES READ AS WHEN THE CALL BEGINS. Each datum BY PROGRAM (the guide's laid-datum.mjs) off the statement by which the dump's own 'gosem.cut.vars' lays the variable. In a bare row this is a premise. The card (YtlgcobafjbajdaaGreatDoorCards.lean) ties it to the program's text. -/
def laid_unicode_utf8_acceptRanges {H : Type} : DataW H := .agg [.agg [.lit (.int .u8 128), .lit (.int .u8 191)], .agg [.lit (.int .u8 160), .lit (.int .u8 191)], .agg [.lit (.int .u8 128), .lit (.int .u8 159)], .agg [.lit (.int .u8 144), .lit (.int .u8 191)], .agg [.lit (.int .u8 128), .lit (.int .u8 143)], .agg [.lit (.int .u8 0), .lit (.int .u8 0)], .agg [.lit (.int .u8 0), .lit (.int .u8 0)], .agg [.lit (.int .u8 0), .lit (.int .u8 0)], .agg [.lit (.int .u8 0), .lit (.int .u8 0)], .agg [.lit (.int .u8 0), .lit (.int .u8 0)], .agg [.lit (.int .u8 0), .lit (.int .u8 0)], .agg [.lit (.int .u8 0), .lit (.int .u8 0)], .agg [.lit (.int .u8 0), .lit (.int .u8 0)], .agg [.lit (.int .u8 0), .lit (.int .u8 0)], .agg [.lit (.int .u8 0), .lit (.int .u8 0)], .agg [.lit (.int .u8 0), .lit (.int .u8 0)]]
/-- One of Go's own tables, pinned by name: the form's constant. -/
def laid_unicode_utf8_first : DataW Unit := Go.Pinned.utf8First

/-- 'lithophanelaw24.ViewChooses': WHATEVER THE INPUT: true; the input reads as it did. -/
def viewChoosesSpec : ChangeSpec := { name := "viewChooses", fn := fun _ => fun
  | [d1, d2] => { results := [.lit (.bool true)], args := [d1, d2] }
  | _ => none }
def viewChoosesRow : OpenClaim := { program := "ytlgcobafjbajdaagreatdoor", sum := "8da7e627e478e7c92e08f88320398ed9a70091c8bf1a382a7eddb9d90d9403ea", func := "lithophane/lithophanelaw24.ViewChooses", spec := "viewChooses", inPlace := ["internal/bytealg.IndexByteString", "internal/bytealg.IndexString"], unfollowed := true, recurses := true, named := ["unicode/utf8.first", "unicode/utf8.acceptRanges", "internal/bytealg.MaxLen"], apart := false, laid := [("unicode/utf8.acceptRanges", laid_unicode_utf8_acceptRanges), ("unicode/utf8.first", laid_unicode_utf8_first)] }
def ViewChoosesSaid : Prop := viewChoosesRow.holds Tryz.pinned (OpenSpec.ofChange viewChoosesSpec)

/-- ITS FALSE NEIGHBOUR: 'it returns false'. Refute it at one input. -/
def viewChoosesWrong : ChangeSpec := { name := "viewChooses", fn := fun _ => fun
  | [d1, d2] => { results := [.lit (.bool false)], args := [d1, d2] }
  | _ => none }
def ViewChoosesWrongFalsely : Prop := viewChoosesRow.holds Tryz.pinned (OpenSpec.ofChange viewChoosesWrong)

/-- 'lithophanelaw24.ViewGreatest': WHATEVER THE INPUT: true; the input reads as it did. -/
def viewGreatestSpec : ChangeSpec := { name := "viewGreatest", fn := fun _ => fun
  | [d1, d2, d3] => { results := [.lit (.bool true)], args := [d1, d2, d3] }
  | _ => none }
def viewGreatestRow : OpenClaim := { program := "ytlgcobafjbajdaagreatdoor", sum := "8da7e627e478e7c92e08f88320398ed9a70091c8bf1a382a7eddb9d90d9403ea", func := "lithophane/lithophanelaw24.ViewGreatest", spec := "viewGreatest", inPlace := ["internal/bytealg.IndexByteString", "internal/bytealg.IndexString"], unfollowed := true, recurses := true, named := ["unicode/utf8.first", "unicode/utf8.acceptRanges", "internal/bytealg.MaxLen"], apart := false, laid := [("unicode/utf8.acceptRanges", laid_unicode_utf8_acceptRanges), ("unicode/utf8.first", laid_unicode_utf8_first)] }
def ViewGreatestSaid : Prop := viewGreatestRow.holds Tryz.pinned (OpenSpec.ofChange viewGreatestSpec)

/-- ITS FALSE NEIGHBOUR: 'it returns false'. Refute it at one input. -/
def viewGreatestWrong : ChangeSpec := { name := "viewGreatest", fn := fun _ => fun
  | [d1, d2, d3] => { results := [.lit (.bool false)], args := [d1, d2, d3] }
  | _ => none }
def ViewGreatestWrongFalsely : Prop := viewGreatestRow.holds Tryz.pinned (OpenSpec.ofChange viewGreatestWrong)

/-- 'lithophanelaw24.ViewNext': WHATEVER THE INPUT: true; the input reads as it did. -/
def viewNextSpec : ChangeSpec := { name := "viewNext", fn := fun _ => fun
  | [d1, d2, d3] => { results := [.lit (.bool true)], args := [d1, d2, d3] }
  | _ => none }
def viewNextRow : OpenClaim := { program := "ytlgcobafjbajdaagreatdoor", sum := "8da7e627e478e7c92e08f88320398ed9a70091c8bf1a382a7eddb9d90d9403ea", func := "lithophane/lithophanelaw24.ViewNext", spec := "viewNext", inPlace := ["internal/bytealg.IndexByteString", "internal/bytealg.IndexString"], unfollowed := true, recurses := true, named := ["unicode/utf8.first", "unicode/utf8.acceptRanges", "internal/bytealg.MaxLen"], apart := false, laid := [("unicode/utf8.acceptRanges", laid_unicode_utf8_acceptRanges), ("unicode/utf8.first", laid_unicode_utf8_first)] }
def ViewNextSaid : Prop := viewNextRow.holds Tryz.pinned (OpenSpec.ofChange viewNextSpec)

/-- ITS FALSE NEIGHBOUR: 'it returns false'. Refute it at one input. -/
def viewNextWrong : ChangeSpec := { name := "viewNext", fn := fun _ => fun
  | [d1, d2, d3] => { results := [.lit (.bool false)], args := [d1, d2, d3] }
  | _ => none }
def ViewNextWrongFalsely : Prop := viewNextRow.holds Tryz.pinned (OpenSpec.ofChange viewNextWrong)

/-- 'lithophanelaw24.ViewSteps': WHATEVER THE INPUT: true; the input reads as it did. -/
def viewStepsSpec : ChangeSpec := { name := "viewSteps", fn := fun _ => fun
  | [d1, d2] => { results := [.lit (.bool true)], args := [d1, d2] }
  | _ => none }
def viewStepsRow : OpenClaim := { program := "ytlgcobafjbajdaagreatdoor", sum := "8da7e627e478e7c92e08f88320398ed9a70091c8bf1a382a7eddb9d90d9403ea", func := "lithophane/lithophanelaw24.ViewSteps", spec := "viewSteps", inPlace := ["internal/bytealg.IndexByteString", "internal/bytealg.IndexString"], unfollowed := true, recurses := true, named := ["unicode/utf8.first", "unicode/utf8.acceptRanges", "internal/bytealg.MaxLen"], apart := false, laid := [("unicode/utf8.acceptRanges", laid_unicode_utf8_acceptRanges), ("unicode/utf8.first", laid_unicode_utf8_first)] }
def ViewStepsSaid : Prop := viewStepsRow.holds Tryz.pinned (OpenSpec.ofChange viewStepsSpec)

/-- ITS FALSE NEIGHBOUR: 'it returns false'. Refute it at one input. -/
def viewStepsWrong : ChangeSpec := { name := "viewSteps", fn := fun _ => fun
  | [d1, d2] => { results := [.lit (.bool false)], args := [d1, d2] }
  | _ => none }
def ViewStepsWrongFalsely : Prop := viewStepsRow.holds Tryz.pinned (OpenSpec.ofChange viewStepsWrong)

/-- 'lithophanelaw24.ViewCoarser': WHATEVER THE INPUT: true; the input reads as it did. -/
def viewCoarserSpec : ChangeSpec := { name := "viewCoarser", fn := fun _ => fun
  | [d1, d2, d3] => { results := [.lit (.bool true)], args := [d1, d2, d3] }
  | _ => none }
def viewCoarserRow : OpenClaim := { program := "ytlgcobafjbajdaagreatdoor", sum := "8da7e627e478e7c92e08f88320398ed9a70091c8bf1a382a7eddb9d90d9403ea", func := "lithophane/lithophanelaw24.ViewCoarser", spec := "viewCoarser", inPlace := ["internal/bytealg.IndexByteString", "internal/bytealg.IndexString"], unfollowed := true, recurses := true, named := ["unicode/utf8.first", "unicode/utf8.acceptRanges", "internal/bytealg.MaxLen"], apart := false, laid := [("unicode/utf8.acceptRanges", laid_unicode_utf8_acceptRanges), ("unicode/utf8.first", laid_unicode_utf8_first)] }
def ViewCoarserSaid : Prop := viewCoarserRow.holds Tryz.pinned (OpenSpec.ofChange viewCoarserSpec)

/-- ITS FALSE NEIGHBOUR: 'it returns false'. Refute it at one input. -/
def viewCoarserWrong : ChangeSpec := { name := "viewCoarser", fn := fun _ => fun
  | [d1, d2, d3] => { results := [.lit (.bool false)], args := [d1, d2, d3] }
  | _ => none }
def ViewCoarserWrongFalsely : Prop := viewCoarserRow.holds Tryz.pinned (OpenSpec.ofChange viewCoarserWrong)

/-- 'lithophanelaw24.ViewScaled': WHATEVER THE INPUT: true; the input reads as it did. -/
def viewScaledSpec : ChangeSpec := { name := "viewScaled", fn := fun _ => fun
  | [d1, d2, d3] => { results := [.lit (.bool true)], args := [d1, d2, d3] }
  | _ => none }
def viewScaledRow : OpenClaim := { program := "ytlgcobafjbajdaagreatdoor", sum := "8da7e627e478e7c92e08f88320398ed9a70091c8bf1a382a7eddb9d90d9403ea", func := "lithophane/lithophanelaw24.ViewScaled", spec := "viewScaled", inPlace := ["internal/bytealg.IndexByteString", "internal/bytealg.IndexString"], unfollowed := true, recurses := true, named := ["unicode/utf8.first", "unicode/utf8.acceptRanges", "internal/bytealg.MaxLen"], apart := false, laid := [("unicode/utf8.acceptRanges", laid_unicode_utf8_acceptRanges), ("unicode/utf8.first", laid_unicode_utf8_first)] }
def ViewScaledSaid : Prop := viewScaledRow.holds Tryz.pinned (OpenSpec.ofChange viewScaledSpec)

/-- ITS FALSE NEIGHBOUR: 'it returns false'. Refute it at one input. -/
def viewScaledWrong : ChangeSpec := { name := "viewScaled", fn := fun _ => fun
  | [d1, d2, d3] => { results := [.lit (.bool false)], args := [d1, d2, d3] }
  | _ => none }
def ViewScaledWrongFalsely : Prop := viewScaledRow.holds Tryz.pinned (OpenSpec.ofChange viewScaledWrong)

/-- 'lithophanelaw24.ViewSpoiled': WHATEVER THE INPUT: true; the input reads as it did. -/
def viewSpoiledSpec : ChangeSpec := { name := "viewSpoiled", fn := fun _ => fun
  | [d1, d2, d3] => { results := [.lit (.bool true)], args := [d1, d2, d3] }
  | _ => none }
def viewSpoiledRow : OpenClaim := { program := "ytlgcobafjbajdaagreatdoor", sum := "8da7e627e478e7c92e08f88320398ed9a70091c8bf1a382a7eddb9d90d9403ea", func := "lithophane/lithophanelaw24.ViewSpoiled", spec := "viewSpoiled", inPlace := ["internal/bytealg.IndexByteString", "internal/bytealg.IndexString"], unfollowed := true, recurses := true, named := ["unicode/utf8.first", "unicode/utf8.acceptRanges", "internal/bytealg.MaxLen"], apart := false, laid := [("unicode/utf8.acceptRanges", laid_unicode_utf8_acceptRanges), ("unicode/utf8.first", laid_unicode_utf8_first)] }
def ViewSpoiledSaid : Prop := viewSpoiledRow.holds Tryz.pinned (OpenSpec.ofChange viewSpoiledSpec)

/-- ITS FALSE NEIGHBOUR: 'it returns false'. Refute it at one input. -/
def viewSpoiledWrong : ChangeSpec := { name := "viewSpoiled", fn := fun _ => fun
  | [d1, d2, d3] => { results := [.lit (.bool false)], args := [d1, d2, d3] }
  | _ => none }
def ViewSpoiledWrongFalsely : Prop := viewSpoiledRow.holds Tryz.pinned (OpenSpec.ofChange viewSpoiledWrong)

/- THE SECOND FORM. 'bulk': how many values and letters a reading holds, each counted each time it is reached (what is shared counts as often as it is met; a slice's spare places count too). A statement '..UptoSaid' is the law's where the arguments, and the package variables that the reading takes, are together of bulk at most 1048576: NARROWER than '..Said'. Prove '..Said' where nothing that the law and all that it calls make is longer than what came in: it says more and counts as full. Else prove '..UptoSaid'. A law counts once. -/
mutual
def uptoBulk {H : Type} : DataW H → Nat
  | .lit (.string bytes) => bytes.length + 1
  | .lit _ => 1
  | .nil => 1
  | .ptr d => uptoBulk d + 1
  | .slice elems spare => uptoBulkAll elems + uptoBulkAll spare + 1
  | .agg parts => uptoBulkAll parts + 1
  | .iface _ d => uptoBulk d + 1
  | .map entries => uptoBulkEntries entries + 1
  | .held _ => 1
def uptoBulkAll {H : Type} : List (DataW H) → Nat
  | [] => 0
  | d :: r => uptoBulk d + uptoBulkAll r
def uptoBulkEntries {H : Type} : List (Lit × DataW H) → Nat
  | [] => 0
  | x :: r => uptoBulkEntry x + uptoBulkEntries r
def uptoBulkEntry {H : Type} : Lit × DataW H → Nat
  | (.string bytes, d) => bytes.length + uptoBulk d + 1
  | (_, d) => uptoBulk d + 1
 end
def uptoSmall : (H : Type) → List (DataW H) → Bool := fun _ ds => decide (uptoBulkAll ds ≤ 1048576)
def OpenSpec.upto (s : _root_.Go.ChangeSpec) : _root_.Go.OpenSpec := { _root_.Go.OpenSpec.ofChange s with cond := some uptoSmall }

/-- 'lithophanelaw24.ViewChooses', WHERE WHAT IT READS IS OF BULK AT MOST 1048576: true; the input reads as it did. -/
def viewChoosesUptoRow : OpenClaim := { program := "ytlgcobafjbajdaagreatdoor", sum := "8da7e627e478e7c92e08f88320398ed9a70091c8bf1a382a7eddb9d90d9403ea", func := "lithophane/lithophanelaw24.ViewChooses", spec := "viewChooses", inPlace := ["internal/bytealg.IndexByteString", "internal/bytealg.IndexString"], unfollowed := true, recurses := true, named := ["unicode/utf8.first", "unicode/utf8.acceptRanges", "internal/bytealg.MaxLen"], apart := false, laid := [("unicode/utf8.acceptRanges", laid_unicode_utf8_acceptRanges), ("unicode/utf8.first", laid_unicode_utf8_first)], narrowed := true }
def ViewChoosesUptoSaid : Prop := viewChoosesUptoRow.holds Tryz.pinned (OpenSpec.upto viewChoosesSpec)

/-- 'lithophanelaw24.ViewGreatest', WHERE WHAT IT READS IS OF BULK AT MOST 1048576: true; the input reads as it did. -/
def viewGreatestUptoRow : OpenClaim := { program := "ytlgcobafjbajdaagreatdoor", sum := "8da7e627e478e7c92e08f88320398ed9a70091c8bf1a382a7eddb9d90d9403ea", func := "lithophane/lithophanelaw24.ViewGreatest", spec := "viewGreatest", inPlace := ["internal/bytealg.IndexByteString", "internal/bytealg.IndexString"], unfollowed := true, recurses := true, named := ["unicode/utf8.first", "unicode/utf8.acceptRanges", "internal/bytealg.MaxLen"], apart := false, laid := [("unicode/utf8.acceptRanges", laid_unicode_utf8_acceptRanges), ("unicode/utf8.first", laid_unicode_utf8_first)], narrowed := true }
def ViewGreatestUptoSaid : Prop := viewGreatestUptoRow.holds Tryz.pinned (OpenSpec.upto viewGreatestSpec)

/-- 'lithophanelaw24.ViewNext', WHERE WHAT IT READS IS OF BULK AT MOST 1048576: true; the input reads as it did. -/
def viewNextUptoRow : OpenClaim := { program := "ytlgcobafjbajdaagreatdoor", sum := "8da7e627e478e7c92e08f88320398ed9a70091c8bf1a382a7eddb9d90d9403ea", func := "lithophane/lithophanelaw24.ViewNext", spec := "viewNext", inPlace := ["internal/bytealg.IndexByteString", "internal/bytealg.IndexString"], unfollowed := true, recurses := true, named := ["unicode/utf8.first", "unicode/utf8.acceptRanges", "internal/bytealg.MaxLen"], apart := false, laid := [("unicode/utf8.acceptRanges", laid_unicode_utf8_acceptRanges), ("unicode/utf8.first", laid_unicode_utf8_first)], narrowed := true }
def ViewNextUptoSaid : Prop := viewNextUptoRow.holds Tryz.pinned (OpenSpec.upto viewNextSpec)

/-- 'lithophanelaw24.ViewSteps', WHERE WHAT IT READS IS OF BULK AT MOST 1048576: true; the input reads as it did. -/
def viewStepsUptoRow : OpenClaim := { program := "ytlgcobafjbajdaagreatdoor", sum := "8da7e627e478e7c92e08f88320398ed9a70091c8bf1a382a7eddb9d90d9403ea", func := "lithophane/lithophanelaw24.ViewSteps", spec := "viewSteps", inPlace := ["internal/bytealg.IndexByteString", "internal/bytealg.IndexString"], unfollowed := true, recurses := true, named := ["unicode/utf8.first", "unicode/utf8.acceptRanges", "internal/bytealg.MaxLen"], apart := false, laid := [("unicode/utf8.acceptRanges", laid_unicode_utf8_acceptRanges), ("unicode/utf8.first", laid_unicode_utf8_first)], narrowed := true }
def ViewStepsUptoSaid : Prop := viewStepsUptoRow.holds Tryz.pinned (OpenSpec.upto viewStepsSpec)

/-- 'lithophanelaw24.ViewCoarser', WHERE WHAT IT READS IS OF BULK AT MOST 1048576: true; the input reads as it did. -/
def viewCoarserUptoRow : OpenClaim := { program := "ytlgcobafjbajdaagreatdoor", sum := "8da7e627e478e7c92e08f88320398ed9a70091c8bf1a382a7eddb9d90d9403ea", func := "lithophane/lithophanelaw24.ViewCoarser", spec := "viewCoarser", inPlace := ["internal/bytealg.IndexByteString", "internal/bytealg.IndexString"], unfollowed := true, recurses := true, named := ["unicode/utf8.first", "unicode/utf8.acceptRanges", "internal/bytealg.MaxLen"], apart := false, laid := [("unicode/utf8.acceptRanges", laid_unicode_utf8_acceptRanges), ("unicode/utf8.first", laid_unicode_utf8_first)], narrowed := true }
def ViewCoarserUptoSaid : Prop := viewCoarserUptoRow.holds Tryz.pinned (OpenSpec.upto viewCoarserSpec)

/-- 'lithophanelaw24.ViewScaled', WHERE WHAT IT READS IS OF BULK AT MOST 1048576: true; the input reads as it did. -/
def viewScaledUptoRow : OpenClaim := { program := "ytlgcobafjbajdaagreatdoor", sum := "8da7e627e478e7c92e08f88320398ed9a70091c8bf1a382a7eddb9d90d9403ea", func := "lithophane/lithophanelaw24.ViewScaled", spec := "viewScaled", inPlace := ["internal/bytealg.IndexByteString", "internal/bytealg.IndexString"], unfollowed := true, recurses := true, named := ["unicode/utf8.first", "unicode/utf8.acceptRanges", "internal/bytealg.MaxLen"], apart := false, laid := [("unicode/utf8.acceptRanges", laid_unicode_utf8_acceptRanges), ("unicode/utf8.first", laid_unicode_utf8_first)], narrowed := true }
def ViewScaledUptoSaid : Prop := viewScaledUptoRow.holds Tryz.pinned (OpenSpec.upto viewScaledSpec)

/-- 'lithophanelaw24.ViewSpoiled', WHERE WHAT IT READS IS OF BULK AT MOST 1048576: true; the input reads as it did. -/
def viewSpoiledUptoRow : OpenClaim := { program := "ytlgcobafjbajdaagreatdoor", sum := "8da7e627e478e7c92e08f88320398ed9a70091c8bf1a382a7eddb9d90d9403ea", func := "lithophane/lithophanelaw24.ViewSpoiled", spec := "viewSpoiled", inPlace := ["internal/bytealg.IndexByteString", "internal/bytealg.IndexString"], unfollowed := true, recurses := true, named := ["unicode/utf8.first", "unicode/utf8.acceptRanges", "internal/bytealg.MaxLen"], apart := false, laid := [("unicode/utf8.acceptRanges", laid_unicode_utf8_acceptRanges), ("unicode/utf8.first", laid_unicode_utf8_first)], narrowed := true }
def ViewSpoiledUptoSaid : Prop := viewSpoiledUptoRow.holds Tryz.pinned (OpenSpec.upto viewSpoiledSpec)

end Rows
end Go.Proofs.YtlgcobafjbajdaaGreatDoor
