/-
  NARROWER THAN 'FOR EVERY INPUT', by the rows' own cells (each row's printed sentence says how): WideProducts: laid · WideQuotients: laid · WideDivisors: laid · WideParses: laid · WideRules: laid · WideSums: laid · WideRemainders: laid · WideRoots: laid · WideFracs: laid · WideFracRules: laid · WideInts: laid · WideTexts: laid.
  DERIVED. THE GIVEN ROWS OF THIS SEAT. 12 by the template 'for every input the law returns true; each argument reads behind the call as it read before'; 0 by the template 'total and deterministic' (their statements: YtbhcmajeoamloaaDoorTotals.lean).
  GIVEN WITH THE SEED: the statements are not yours to turn. If you find one false, say at which input.
  Laid BY PROGRAM, IN A SANDBOX (cutbox-rows.mjs): the forced cells as the released guide's own fill.sh prints them over the translation 06485fe8259bfc43… (all of the seat's roots in one cut). By AI agents, Wed Nov 11 2026. No macro, syntax, notation, axiom, sorry.
-/
import Derived.Test.YtbhcmajeoamloaaDoorChecked
import GoSem.PinnedTables
import GoSem.Claim
import GoSem.ClaimJoined
import GoSem.ClaimMapViews
import Derived.JoinedTies
import Derived.KernelRfl
namespace Go.Proofs.YtbhcmajeoamloaaDoor
/- THE CELL 'sum', in the pinned program and in every row, IS THE sha256 OF THE DUMP (.gsa) THAT YtbhcmajeoamloaaDoorProg.lean LOADS. Nothing in Lean hashes anything: it is a label: what it is worth is what the hold of that sum in a sandbox is worth. -/
noncomputable def Tryd.pinned : Pinned := { name := "ytbhcmajeoamloaadoor", sum := "06485fe8259bfc433d0baafbca90dd77672a3d659784fc3d426d6fd3656e3843", checked := Tryd.checked }
namespace Rows
def none {H : Type} : Left H := { results := [], args := [] }

/- WHAT THE LISTED PACKAGE-LEVEL VARIABLES READ AS WHEN THE CALL BEGINS. Each datum BY PROGRAM (the guide's laid-datum.mjs) off the statement by which the dump's own 'gosem.cut.vars' lays the variable. In a bare row this is a premise. The card (YtbhcmajeoamloaaDoorCards.lean) ties it to the program's text. -/
def laid_unicode_utf8_acceptRanges {H : Type} : DataW H := .agg [.agg [.lit (.int .u8 128), .lit (.int .u8 191)], .agg [.lit (.int .u8 160), .lit (.int .u8 191)], .agg [.lit (.int .u8 128), .lit (.int .u8 159)], .agg [.lit (.int .u8 144), .lit (.int .u8 191)], .agg [.lit (.int .u8 128), .lit (.int .u8 143)], .agg [.lit (.int .u8 0), .lit (.int .u8 0)], .agg [.lit (.int .u8 0), .lit (.int .u8 0)], .agg [.lit (.int .u8 0), .lit (.int .u8 0)], .agg [.lit (.int .u8 0), .lit (.int .u8 0)], .agg [.lit (.int .u8 0), .lit (.int .u8 0)], .agg [.lit (.int .u8 0), .lit (.int .u8 0)], .agg [.lit (.int .u8 0), .lit (.int .u8 0)], .agg [.lit (.int .u8 0), .lit (.int .u8 0)], .agg [.lit (.int .u8 0), .lit (.int .u8 0)], .agg [.lit (.int .u8 0), .lit (.int .u8 0)], .agg [.lit (.int .u8 0), .lit (.int .u8 0)]]
/-- One of Go's own tables, pinned by name: the form's constant. -/
def laid_unicode_utf8_first : DataW Unit := Go.Pinned.utf8First

/-- 'lithophanelaw01.WideProducts': WHATEVER THE INPUT: true; the input reads as it did. -/
def wideProductsSpec : ChangeSpec := { name := "wideProducts", fn := fun _ => fun
  | [d1, d2] => { results := [.lit (.bool true)], args := [d1, d2] }
  | _ => none }
def wideProductsRow : OpenClaim := { program := "ytbhcmajeoamloaadoor", sum := "06485fe8259bfc433d0baafbca90dd77672a3d659784fc3d426d6fd3656e3843", func := "lithophane/lithophanelaw01.WideProducts", spec := "wideProducts", inPlace := ["internal/bytealg.IndexByteString", "internal/bytealg.IndexString"], unfollowed := true, recurses := true, named := ["unicode/utf8.first", "unicode/utf8.acceptRanges", "internal/bytealg.MaxLen"], apart := false, laid := [("unicode/utf8.acceptRanges", laid_unicode_utf8_acceptRanges), ("unicode/utf8.first", laid_unicode_utf8_first)] }
def WideProductsSaid : Prop := wideProductsRow.holds Tryd.pinned (OpenSpec.ofChange wideProductsSpec)

/-- ITS FALSE NEIGHBOUR: 'it returns false'. Refute it at one input. -/
def wideProductsWrong : ChangeSpec := { name := "wideProducts", fn := fun _ => fun
  | [d1, d2] => { results := [.lit (.bool false)], args := [d1, d2] }
  | _ => none }
def WideProductsWrongFalsely : Prop := wideProductsRow.holds Tryd.pinned (OpenSpec.ofChange wideProductsWrong)

/-- 'lithophanelaw01.WideQuotients': WHATEVER THE INPUT: true; the input reads as it did. -/
def wideQuotientsSpec : ChangeSpec := { name := "wideQuotients", fn := fun _ => fun
  | [d1, d2, d3] => { results := [.lit (.bool true)], args := [d1, d2, d3] }
  | _ => none }
def wideQuotientsRow : OpenClaim := { program := "ytbhcmajeoamloaadoor", sum := "06485fe8259bfc433d0baafbca90dd77672a3d659784fc3d426d6fd3656e3843", func := "lithophane/lithophanelaw01.WideQuotients", spec := "wideQuotients", inPlace := ["internal/bytealg.IndexByteString", "internal/bytealg.IndexString"], unfollowed := true, recurses := true, named := ["unicode/utf8.first", "unicode/utf8.acceptRanges", "internal/bytealg.MaxLen"], apart := false, laid := [("unicode/utf8.acceptRanges", laid_unicode_utf8_acceptRanges), ("unicode/utf8.first", laid_unicode_utf8_first)] }
def WideQuotientsSaid : Prop := wideQuotientsRow.holds Tryd.pinned (OpenSpec.ofChange wideQuotientsSpec)

/-- ITS FALSE NEIGHBOUR: 'it returns false'. Refute it at one input. -/
def wideQuotientsWrong : ChangeSpec := { name := "wideQuotients", fn := fun _ => fun
  | [d1, d2, d3] => { results := [.lit (.bool false)], args := [d1, d2, d3] }
  | _ => none }
def WideQuotientsWrongFalsely : Prop := wideQuotientsRow.holds Tryd.pinned (OpenSpec.ofChange wideQuotientsWrong)

/-- 'lithophanelaw01.WideDivisors': WHATEVER THE INPUT: true; the input reads as it did. -/
def wideDivisorsSpec : ChangeSpec := { name := "wideDivisors", fn := fun _ => fun
  | [d1, d2, d3] => { results := [.lit (.bool true)], args := [d1, d2, d3] }
  | _ => none }
def wideDivisorsRow : OpenClaim := { program := "ytbhcmajeoamloaadoor", sum := "06485fe8259bfc433d0baafbca90dd77672a3d659784fc3d426d6fd3656e3843", func := "lithophane/lithophanelaw01.WideDivisors", spec := "wideDivisors", inPlace := ["internal/bytealg.IndexByteString", "internal/bytealg.IndexString"], unfollowed := true, recurses := true, named := ["unicode/utf8.first", "unicode/utf8.acceptRanges", "internal/bytealg.MaxLen"], apart := false, laid := [("unicode/utf8.acceptRanges", laid_unicode_utf8_acceptRanges), ("unicode/utf8.first", laid_unicode_utf8_first)] }
def WideDivisorsSaid : Prop := wideDivisorsRow.holds Tryd.pinned (OpenSpec.ofChange wideDivisorsSpec)

/-- ITS FALSE NEIGHBOUR: 'it returns false'. Refute it at one input. -/
def wideDivisorsWrong : ChangeSpec := { name := "wideDivisors", fn := fun _ => fun
  | [d1, d2, d3] => { results := [.lit (.bool false)], args := [d1, d2, d3] }
  | _ => none }
def WideDivisorsWrongFalsely : Prop := wideDivisorsRow.holds Tryd.pinned (OpenSpec.ofChange wideDivisorsWrong)

/-- 'lithophanelaw01.WideParses': WHATEVER THE INPUT: true; the input reads as it did. -/
def wideParsesSpec : ChangeSpec := { name := "wideParses", fn := fun _ => fun
  | [d1, d2, d3] => { results := [.lit (.bool true)], args := [d1, d2, d3] }
  | _ => none }
def wideParsesRow : OpenClaim := { program := "ytbhcmajeoamloaadoor", sum := "06485fe8259bfc433d0baafbca90dd77672a3d659784fc3d426d6fd3656e3843", func := "lithophane/lithophanelaw01.WideParses", spec := "wideParses", inPlace := ["internal/bytealg.IndexByteString", "internal/bytealg.IndexString"], unfollowed := true, recurses := true, named := ["unicode/utf8.first", "unicode/utf8.acceptRanges", "internal/bytealg.MaxLen"], apart := false, laid := [("unicode/utf8.acceptRanges", laid_unicode_utf8_acceptRanges), ("unicode/utf8.first", laid_unicode_utf8_first)] }
def WideParsesSaid : Prop := wideParsesRow.holds Tryd.pinned (OpenSpec.ofChange wideParsesSpec)

/-- ITS FALSE NEIGHBOUR: 'it returns false'. Refute it at one input. -/
def wideParsesWrong : ChangeSpec := { name := "wideParses", fn := fun _ => fun
  | [d1, d2, d3] => { results := [.lit (.bool false)], args := [d1, d2, d3] }
  | _ => none }
def WideParsesWrongFalsely : Prop := wideParsesRow.holds Tryd.pinned (OpenSpec.ofChange wideParsesWrong)

/-- 'lithophanelaw01.WideRules': WHATEVER THE INPUT: true; the input reads as it did. -/
def wideRulesSpec : ChangeSpec := { name := "wideRules", fn := fun _ => fun
  | [d1, d2, d3] => { results := [.lit (.bool true)], args := [d1, d2, d3] }
  | _ => none }
def wideRulesRow : OpenClaim := { program := "ytbhcmajeoamloaadoor", sum := "06485fe8259bfc433d0baafbca90dd77672a3d659784fc3d426d6fd3656e3843", func := "lithophane/lithophanelaw01.WideRules", spec := "wideRules", inPlace := ["internal/bytealg.IndexByteString", "internal/bytealg.IndexString"], unfollowed := true, recurses := true, named := ["unicode/utf8.first", "unicode/utf8.acceptRanges", "internal/bytealg.MaxLen"], apart := false, laid := [("unicode/utf8.acceptRanges", laid_unicode_utf8_acceptRanges), ("unicode/utf8.first", laid_unicode_utf8_first)] }
def WideRulesSaid : Prop := wideRulesRow.holds Tryd.pinned (OpenSpec.ofChange wideRulesSpec)

/-- ITS FALSE NEIGHBOUR: 'it returns false'. Refute it at one input. -/
def wideRulesWrong : ChangeSpec := { name := "wideRules", fn := fun _ => fun
  | [d1, d2, d3] => { results := [.lit (.bool false)], args := [d1, d2, d3] }
  | _ => none }
def WideRulesWrongFalsely : Prop := wideRulesRow.holds Tryd.pinned (OpenSpec.ofChange wideRulesWrong)

/-- 'lithophanelaw01.WideSums': WHATEVER THE INPUT: true; the input reads as it did. -/
def wideSumsSpec : ChangeSpec := { name := "wideSums", fn := fun _ => fun
  | [d1, d2] => { results := [.lit (.bool true)], args := [d1, d2] }
  | _ => none }
def wideSumsRow : OpenClaim := { program := "ytbhcmajeoamloaadoor", sum := "06485fe8259bfc433d0baafbca90dd77672a3d659784fc3d426d6fd3656e3843", func := "lithophane/lithophanelaw01.WideSums", spec := "wideSums", inPlace := ["internal/bytealg.IndexByteString", "internal/bytealg.IndexString"], unfollowed := true, recurses := true, named := ["unicode/utf8.first", "unicode/utf8.acceptRanges", "internal/bytealg.MaxLen"], apart := false, laid := [("unicode/utf8.acceptRanges", laid_unicode_utf8_acceptRanges), ("unicode/utf8.first", laid_unicode_utf8_first)] }
def WideSumsSaid : Prop := wideSumsRow.holds Tryd.pinned (OpenSpec.ofChange wideSumsSpec)

/-- ITS FALSE NEIGHBOUR: 'it returns false'. Refute it at one input. -/
def wideSumsWrong : ChangeSpec := { name := "wideSums", fn := fun _ => fun
  | [d1, d2] => { results := [.lit (.bool false)], args := [d1, d2] }
  | _ => none }
def WideSumsWrongFalsely : Prop := wideSumsRow.holds Tryd.pinned (OpenSpec.ofChange wideSumsWrong)

/-- 'lithophanelaw01.WideRemainders': WHATEVER THE INPUT: true; the input reads as it did. -/
def wideRemaindersSpec : ChangeSpec := { name := "wideRemainders", fn := fun _ => fun
  | [d1, d2] => { results := [.lit (.bool true)], args := [d1, d2] }
  | _ => none }
def wideRemaindersRow : OpenClaim := { program := "ytbhcmajeoamloaadoor", sum := "06485fe8259bfc433d0baafbca90dd77672a3d659784fc3d426d6fd3656e3843", func := "lithophane/lithophanelaw01.WideRemainders", spec := "wideRemainders", inPlace := ["internal/bytealg.IndexByteString", "internal/bytealg.IndexString"], unfollowed := true, recurses := true, named := ["unicode/utf8.first", "unicode/utf8.acceptRanges", "internal/bytealg.MaxLen"], apart := false, laid := [("unicode/utf8.acceptRanges", laid_unicode_utf8_acceptRanges), ("unicode/utf8.first", laid_unicode_utf8_first)] }
def WideRemaindersSaid : Prop := wideRemaindersRow.holds Tryd.pinned (OpenSpec.ofChange wideRemaindersSpec)

/-- ITS FALSE NEIGHBOUR: 'it returns false'. Refute it at one input. -/
def wideRemaindersWrong : ChangeSpec := { name := "wideRemainders", fn := fun _ => fun
  | [d1, d2] => { results := [.lit (.bool false)], args := [d1, d2] }
  | _ => none }
def WideRemaindersWrongFalsely : Prop := wideRemaindersRow.holds Tryd.pinned (OpenSpec.ofChange wideRemaindersWrong)

/-- 'lithophanelaw01.WideRoots': WHATEVER THE INPUT: true; the input reads as it did. -/
def wideRootsSpec : ChangeSpec := { name := "wideRoots", fn := fun _ => fun
  | [d1, d2] => { results := [.lit (.bool true)], args := [d1, d2] }
  | _ => none }
def wideRootsRow : OpenClaim := { program := "ytbhcmajeoamloaadoor", sum := "06485fe8259bfc433d0baafbca90dd77672a3d659784fc3d426d6fd3656e3843", func := "lithophane/lithophanelaw01.WideRoots", spec := "wideRoots", inPlace := ["internal/bytealg.IndexByteString", "internal/bytealg.IndexString"], unfollowed := true, recurses := true, named := ["unicode/utf8.first", "unicode/utf8.acceptRanges", "internal/bytealg.MaxLen"], apart := false, laid := [("unicode/utf8.acceptRanges", laid_unicode_utf8_acceptRanges), ("unicode/utf8.first", laid_unicode_utf8_first)] }
def WideRootsSaid : Prop := wideRootsRow.holds Tryd.pinned (OpenSpec.ofChange wideRootsSpec)

/-- ITS FALSE NEIGHBOUR: 'it returns false'. Refute it at one input. -/
def wideRootsWrong : ChangeSpec := { name := "wideRoots", fn := fun _ => fun
  | [d1, d2] => { results := [.lit (.bool false)], args := [d1, d2] }
  | _ => none }
def WideRootsWrongFalsely : Prop := wideRootsRow.holds Tryd.pinned (OpenSpec.ofChange wideRootsWrong)

/-- 'lithophanelaw01.WideFracs': WHATEVER THE INPUT: true; the input reads as it did. -/
def wideFracsSpec : ChangeSpec := { name := "wideFracs", fn := fun _ => fun
  | [d1, d2] => { results := [.lit (.bool true)], args := [d1, d2] }
  | _ => none }
def wideFracsRow : OpenClaim := { program := "ytbhcmajeoamloaadoor", sum := "06485fe8259bfc433d0baafbca90dd77672a3d659784fc3d426d6fd3656e3843", func := "lithophane/lithophanelaw01.WideFracs", spec := "wideFracs", inPlace := ["internal/bytealg.IndexByteString", "internal/bytealg.IndexString"], unfollowed := true, recurses := true, named := ["unicode/utf8.first", "unicode/utf8.acceptRanges", "internal/bytealg.MaxLen"], apart := false, laid := [("unicode/utf8.acceptRanges", laid_unicode_utf8_acceptRanges), ("unicode/utf8.first", laid_unicode_utf8_first)] }
def WideFracsSaid : Prop := wideFracsRow.holds Tryd.pinned (OpenSpec.ofChange wideFracsSpec)

/-- ITS FALSE NEIGHBOUR: 'it returns false'. Refute it at one input. -/
def wideFracsWrong : ChangeSpec := { name := "wideFracs", fn := fun _ => fun
  | [d1, d2] => { results := [.lit (.bool false)], args := [d1, d2] }
  | _ => none }
def WideFracsWrongFalsely : Prop := wideFracsRow.holds Tryd.pinned (OpenSpec.ofChange wideFracsWrong)

/-- 'lithophanelaw01.WideFracRules': WHATEVER THE INPUT: true; the input reads as it did. -/
def wideFracRulesSpec : ChangeSpec := { name := "wideFracRules", fn := fun _ => fun
  | [d1, d2] => { results := [.lit (.bool true)], args := [d1, d2] }
  | _ => none }
def wideFracRulesRow : OpenClaim := { program := "ytbhcmajeoamloaadoor", sum := "06485fe8259bfc433d0baafbca90dd77672a3d659784fc3d426d6fd3656e3843", func := "lithophane/lithophanelaw01.WideFracRules", spec := "wideFracRules", inPlace := ["internal/bytealg.IndexByteString", "internal/bytealg.IndexString"], unfollowed := true, recurses := true, named := ["unicode/utf8.first", "unicode/utf8.acceptRanges", "internal/bytealg.MaxLen"], apart := false, laid := [("unicode/utf8.acceptRanges", laid_unicode_utf8_acceptRanges), ("unicode/utf8.first", laid_unicode_utf8_first)] }
def WideFracRulesSaid : Prop := wideFracRulesRow.holds Tryd.pinned (OpenSpec.ofChange wideFracRulesSpec)

/-- ITS FALSE NEIGHBOUR: 'it returns false'. Refute it at one input. -/
def wideFracRulesWrong : ChangeSpec := { name := "wideFracRules", fn := fun _ => fun
  | [d1, d2] => { results := [.lit (.bool false)], args := [d1, d2] }
  | _ => none }
def WideFracRulesWrongFalsely : Prop := wideFracRulesRow.holds Tryd.pinned (OpenSpec.ofChange wideFracRulesWrong)

/-- 'lithophanelaw01.WideInts': WHATEVER THE INPUT: true; the input reads as it did. -/
def wideIntsSpec : ChangeSpec := { name := "wideInts", fn := fun _ => fun
  | [d1, d2, d3] => { results := [.lit (.bool true)], args := [d1, d2, d3] }
  | _ => none }
def wideIntsRow : OpenClaim := { program := "ytbhcmajeoamloaadoor", sum := "06485fe8259bfc433d0baafbca90dd77672a3d659784fc3d426d6fd3656e3843", func := "lithophane/lithophanelaw01.WideInts", spec := "wideInts", inPlace := ["internal/bytealg.IndexByteString", "internal/bytealg.IndexString"], unfollowed := true, recurses := true, named := ["unicode/utf8.first", "unicode/utf8.acceptRanges", "internal/bytealg.MaxLen"], apart := false, laid := [("unicode/utf8.acceptRanges", laid_unicode_utf8_acceptRanges), ("unicode/utf8.first", laid_unicode_utf8_first)] }
def WideIntsSaid : Prop := wideIntsRow.holds Tryd.pinned (OpenSpec.ofChange wideIntsSpec)

/-- ITS FALSE NEIGHBOUR: 'it returns false'. Refute it at one input. -/
def wideIntsWrong : ChangeSpec := { name := "wideInts", fn := fun _ => fun
  | [d1, d2, d3] => { results := [.lit (.bool false)], args := [d1, d2, d3] }
  | _ => none }
def WideIntsWrongFalsely : Prop := wideIntsRow.holds Tryd.pinned (OpenSpec.ofChange wideIntsWrong)

/-- 'lithophanelaw01.WideTexts': WHATEVER THE INPUT: true; the input reads as it did. -/
def wideTextsSpec : ChangeSpec := { name := "wideTexts", fn := fun _ => fun
  | [d1, d2] => { results := [.lit (.bool true)], args := [d1, d2] }
  | _ => none }
def wideTextsRow : OpenClaim := { program := "ytbhcmajeoamloaadoor", sum := "06485fe8259bfc433d0baafbca90dd77672a3d659784fc3d426d6fd3656e3843", func := "lithophane/lithophanelaw01.WideTexts", spec := "wideTexts", inPlace := ["internal/bytealg.IndexByteString", "internal/bytealg.IndexString"], unfollowed := true, recurses := true, named := ["unicode/utf8.first", "unicode/utf8.acceptRanges", "internal/bytealg.MaxLen"], apart := false, laid := [("unicode/utf8.acceptRanges", laid_unicode_utf8_acceptRanges), ("unicode/utf8.first", laid_unicode_utf8_first)] }
def WideTextsSaid : Prop := wideTextsRow.holds Tryd.pinned (OpenSpec.ofChange wideTextsSpec)

/-- ITS FALSE NEIGHBOUR: 'it returns false'. Refute it at one input. -/
def wideTextsWrong : ChangeSpec := { name := "wideTexts", fn := fun _ => fun
  | [d1, d2] => { results := [.lit (.bool false)], args := [d1, d2] }
  | _ => none }
def WideTextsWrongFalsely : Prop := wideTextsRow.holds Tryd.pinned (OpenSpec.ofChange wideTextsWrong)

/- THE SECOND FORM. 'bulk': how many values and letters a reading holds, each counted each time it is reached (what is shared counts as often as it is met; a slice's spare places count too). A statement '..UptoSaid' is the law's where the arguments, and the package variables that the reading takes, are together of bulk at most 1048576: NARROWER than '..Said'. Prove '..Said' where nothing that the law and all that it calls make is longer than what came in: it says more and counts as full. Else prove '..UptoSaid'. A law counts once. -/
mutual
def uptoBulk {H : Type} : DataW H → Nat
  | .lit (.string bytes) => bytes.length + 1
  | .lit _ => 1
  | .nil => 1
  | .ptr d => uptoBulk d + 1
  | .slice elems spare => uptoBulkAll elems + uptoBulkAll spare + 1
  | .agg parts => uptoBulkAll parts + 1
  | .iface _ d => uptoBulk d + 1
  | .map entries => uptoBulkEntries entries + 1
  | .held _ => 1
def uptoBulkAll {H : Type} : List (DataW H) → Nat
  | [] => 0
  | d :: r => uptoBulk d + uptoBulkAll r
def uptoBulkEntries {H : Type} : List (Lit × DataW H) → Nat
  | [] => 0
  | x :: r => uptoBulkEntry x + uptoBulkEntries r
def uptoBulkEntry {H : Type} : Lit × DataW H → Nat
  | (.string bytes, d) => bytes.length + uptoBulk d + 1
  | (_, d) => uptoBulk d + 1
 end
def uptoSmall : (H : Type) → List (DataW H) → Bool := fun _ ds => decide (uptoBulkAll ds ≤ 1048576)
def OpenSpec.upto (s : _root_.Go.ChangeSpec) : _root_.Go.OpenSpec := { _root_.Go.OpenSpec.ofChange s with cond := some uptoSmall }

/-- 'lithophanelaw01.WideProducts', WHERE WHAT IT READS IS OF BULK AT MOST 1048576: true; the input reads as it did. -/
def wideProductsUptoRow : OpenClaim := { program := "ytbhcmajeoamloaadoor", sum := "06485fe8259bfc433d0baafbca90dd77672a3d659784fc3d426d6fd3656e3843", func := "lithophane/lithophanelaw01.WideProducts", spec := "wideProducts", inPlace := ["internal/bytealg.IndexByteString", "internal/bytealg.IndexString"], unfollowed := true, recurses := true, named := ["unicode/utf8.first", "unicode/utf8.acceptRanges", "internal/bytealg.MaxLen"], apart := false, laid := [("unicode/utf8.acceptRanges", laid_unicode_utf8_acceptRanges), ("unicode/utf8.first", laid_unicode_utf8_first)], narrowed := true }
def WideProductsUptoSaid : Prop := wideProductsUptoRow.holds Tryd.pinned (OpenSpec.upto wideProductsSpec)

/-- 'lithophanelaw01.WideQuotients', WHERE WHAT IT READS IS OF BULK AT MOST 1048576: true; the input reads as it did. -/
def wideQuotientsUptoRow : OpenClaim := { program := "ytbhcmajeoamloaadoor", sum := "06485fe8259bfc433d0baafbca90dd77672a3d659784fc3d426d6fd3656e3843", func := "lithophane/lithophanelaw01.WideQuotients", spec := "wideQuotients", inPlace := ["internal/bytealg.IndexByteString", "internal/bytealg.IndexString"], unfollowed := true, recurses := true, named := ["unicode/utf8.first", "unicode/utf8.acceptRanges", "internal/bytealg.MaxLen"], apart := false, laid := [("unicode/utf8.acceptRanges", laid_unicode_utf8_acceptRanges), ("unicode/utf8.first", laid_unicode_utf8_first)], narrowed := true }
def WideQuotientsUptoSaid : Prop := wideQuotientsUptoRow.holds Tryd.pinned (OpenSpec.upto wideQuotientsSpec)

/-- 'lithophanelaw01.WideDivisors', WHERE WHAT IT READS IS OF BULK AT MOST 1048576: true; the input reads as it did. -/
def wideDivisorsUptoRow : OpenClaim := { program := "ytbhcmajeoamloaadoor", sum := "06485fe8259bfc433d0baafbca90dd77672a3d659784fc3d426d6fd3656e3843", func := "lithophane/lithophanelaw01.WideDivisors", spec := "wideDivisors", inPlace := ["internal/bytealg.IndexByteString", "internal/bytealg.IndexString"], unfollowed := true, recurses := true, named := ["unicode/utf8.first", "unicode/utf8.acceptRanges", "internal/bytealg.MaxLen"], apart := false, laid := [("unicode/utf8.acceptRanges", laid_unicode_utf8_acceptRanges), ("unicode/utf8.first", laid_unicode_utf8_first)], narrowed := true }
def WideDivisorsUptoSaid : Prop := wideDivisorsUptoRow.holds Tryd.pinned (OpenSpec.upto wideDivisorsSpec)

/-- 'lithophanelaw01.WideParses', WHERE WHAT IT READS IS OF BULK AT MOST 1048576: true; the input reads as it did. -/
def wideParsesUptoRow : OpenClaim := { program := "ytbhcmajeoamloaadoor", sum := "06485fe8259bfc433d0baafbca90dd77672a3d659784fc3d426d6fd3656e3843", func := "lithophane/lithophanelaw01.WideParses", spec := "wideParses", inPlace := ["internal/bytealg.IndexByteString", "internal/bytealg.IndexString"], unfollowed := true, recurses := true, named := ["unicode/utf8.first", "unicode/utf8.acceptRanges", "internal/bytealg.MaxLen"], apart := false, laid := [("unicode/utf8.acceptRanges", laid_unicode_utf8_acceptRanges), ("unicode/utf8.first", laid_unicode_utf8_first)], narrowed := true }
def WideParsesUptoSaid : Prop := wideParsesUptoRow.holds Tryd.pinned (OpenSpec.upto wideParsesSpec)

/-- 'lithophanelaw01.WideRules', WHERE WHAT IT READS IS OF BULK AT MOST 1048576: true; the input reads as it did. -/
def wideRulesUptoRow : OpenClaim := { program := "ytbhcmajeoamloaadoor", sum := "06485fe8259bfc433d0baafbca90dd77672a3d659784fc3d426d6fd3656e3843", func := "lithophane/lithophanelaw01.WideRules", spec := "wideRules", inPlace := ["internal/bytealg.IndexByteString", "internal/bytealg.IndexString"], unfollowed := true, recurses := true, named := ["unicode/utf8.first", "unicode/utf8.acceptRanges", "internal/bytealg.MaxLen"], apart := false, laid := [("unicode/utf8.acceptRanges", laid_unicode_utf8_acceptRanges), ("unicode/utf8.first", laid_unicode_utf8_first)], narrowed := true }
def WideRulesUptoSaid : Prop := wideRulesUptoRow.holds Tryd.pinned (OpenSpec.upto wideRulesSpec)

/-- 'lithophanelaw01.WideSums', WHERE WHAT IT READS IS OF BULK AT MOST 1048576: true; the input reads as it did. -/
def wideSumsUptoRow : OpenClaim := { program := "ytbhcmajeoamloaadoor", sum := "06485fe8259bfc433d0baafbca90dd77672a3d659784fc3d426d6fd3656e3843", func := "lithophane/lithophanelaw01.WideSums", spec := "wideSums", inPlace := ["internal/bytealg.IndexByteString", "internal/bytealg.IndexString"], unfollowed := true, recurses := true, named := ["unicode/utf8.first", "unicode/utf8.acceptRanges", "internal/bytealg.MaxLen"], apart := false, laid := [("unicode/utf8.acceptRanges", laid_unicode_utf8_acceptRanges), ("unicode/utf8.first", laid_unicode_utf8_first)], narrowed := true }
def WideSumsUptoSaid : Prop := wideSumsUptoRow.holds Tryd.pinned (OpenSpec.upto wideSumsSpec)

/-- 'lithophanelaw01.WideRemainders', WHERE WHAT IT READS IS OF BULK AT MOST 1048576: true; the input reads as it did. -/
def wideRemaindersUptoRow : OpenClaim := { program := "ytbhcmajeoamloaadoor", sum := "06485fe8259bfc433d0baafbca90dd77672a3d659784fc3d426d6fd3656e3843", func := "lithophane/lithophanelaw01.WideRemainders", spec := "wideRemainders", inPlace := ["internal/bytealg.IndexByteString", "internal/bytealg.IndexString"], unfollowed := true, recurses := true, named := ["unicode/utf8.first", "unicode/utf8.acceptRanges", "internal/bytealg.MaxLen"], apart := false, laid := [("unicode/utf8.acceptRanges", laid_unicode_utf8_acceptRanges), ("unicode/utf8.first", laid_unicode_utf8_first)], narrowed := true }
def WideRemaindersUptoSaid : Prop := wideRemaindersUptoRow.holds Tryd.pinned (OpenSpec.upto wideRemaindersSpec)

/-- 'lithophanelaw01.WideRoots', WHERE WHAT IT READS IS OF BULK AT MOST 1048576: true; the input reads as it did. -/
def wideRootsUptoRow : OpenClaim := { program := "ytbhcmajeoamloaadoor", sum := "06485fe8259bfc433d0baafbca90dd77672a3d659784fc3d426d6fd3656e3843", func := "lithophane/lithophanelaw01.WideRoots", spec := "wideRoots", inPlace := ["internal/bytealg.IndexByteString", "internal/bytealg.IndexString"], unfollowed := true, recurses := true, named := ["unicode/utf8.first", "unicode/utf8.acceptRanges", "internal/bytealg.MaxLen"], apart := false, laid := [("unicode/utf8.acceptRanges", laid_unicode_utf8_acceptRanges), ("unicode/utf8.first", laid_unicode_utf8_first)], narrowed := true }
def WideRootsUptoSaid : Prop := wideRootsUptoRow.holds Tryd.pinned (OpenSpec.upto wideRootsSpec)

/-- 'lithophanelaw01.WideFracs', WHERE WHAT IT READS IS OF BULK AT MOST 1048576: true; the input reads as it did. -/
def wideFracsUptoRow : OpenClaim := { program := "ytbhcmajeoamloaadoor", sum := "06485fe8259bfc433d0baafbca90dd77672a3d659784fc3d426d6fd3656e3843", func := "lithophane/lithophanelaw01.WideFracs", spec := "wideFracs", inPlace := ["internal/bytealg.IndexByteString", "internal/bytealg.IndexString"], unfollowed := true, recurses := true, named := ["unicode/utf8.first", "unicode/utf8.acceptRanges", "internal/bytealg.MaxLen"], apart := false, laid := [("unicode/utf8.acceptRanges", laid_unicode_utf8_acceptRanges), ("unicode/utf8.first", laid_unicode_utf8_first)], narrowed := true }
def WideFracsUptoSaid : Prop := wideFracsUptoRow.holds Tryd.pinned (OpenSpec.upto wideFracsSpec)

/-- 'lithophanelaw01.WideFracRules', WHERE WHAT IT READS IS OF BULK AT MOST 1048576: true; the input reads as it did. -/
def wideFracRulesUptoRow : OpenClaim := { program := "ytbhcmajeoamloaadoor", sum := "06485fe8259bfc433d0baafbca90dd77672a3d659784fc3d426d6fd3656e3843", func := "lithophane/lithophanelaw01.WideFracRules", spec := "wideFracRules", inPlace := ["internal/bytealg.IndexByteString", "internal/bytealg.IndexString"], unfollowed := true, recurses := true, named := ["unicode/utf8.first", "unicode/utf8.acceptRanges", "internal/bytealg.MaxLen"], apart := false, laid := [("unicode/utf8.acceptRanges", laid_unicode_utf8_acceptRanges), ("unicode/utf8.first", laid_unicode_utf8_first)], narrowed := true }
def WideFracRulesUptoSaid : Prop := wideFracRulesUptoRow.holds Tryd.pinned (OpenSpec.upto wideFracRulesSpec)

/-- 'lithophanelaw01.WideInts', WHERE WHAT IT READS IS OF BULK AT MOST 1048576: true; the input reads as it did. -/
def wideIntsUptoRow : OpenClaim := { program := "ytbhcmajeoamloaadoor", sum := "06485fe8259bfc433d0baafbca90dd77672a3d659784fc3d426d6fd3656e3843", func := "lithophane/lithophanelaw01.WideInts", spec := "wideInts", inPlace := ["internal/bytealg.IndexByteString", "internal/bytealg.IndexString"], unfollowed := true, recurses := true, named := ["unicode/utf8.first", "unicode/utf8.acceptRanges", "internal/bytealg.MaxLen"], apart := false, laid := [("unicode/utf8.acceptRanges", laid_unicode_utf8_acceptRanges), ("unicode/utf8.first", laid_unicode_utf8_first)], narrowed := true }
def WideIntsUptoSaid : Prop := wideIntsUptoRow.holds Tryd.pinned (OpenSpec.upto wideIntsSpec)

/-- 'lithophanelaw01.WideTexts', WHERE WHAT IT READS IS OF BULK AT MOST 1048576: true; the input reads as it did. -/
def wideTextsUptoRow : OpenClaim := { program := "ytbhcmajeoamloaadoor", sum := "06485fe8259bfc433d0baafbca90dd77672a3d659784fc3d426d6fd3656e3843", func := "lithophane/lithophanelaw01.WideTexts", spec := "wideTexts", inPlace := ["internal/bytealg.IndexByteString", "internal/bytealg.IndexString"], unfollowed := true, recurses := true, named := ["unicode/utf8.first", "unicode/utf8.acceptRanges", "internal/bytealg.MaxLen"], apart := false, laid := [("unicode/utf8.acceptRanges", laid_unicode_utf8_acceptRanges), ("unicode/utf8.first", laid_unicode_utf8_first)], narrowed := true }
def WideTextsUptoSaid : Prop := wideTextsUptoRow.holds Tryd.pinned (OpenSpec.upto wideTextsSpec)

end Rows
end Go.Proofs.YtbhcmajeoamloaaDoor
