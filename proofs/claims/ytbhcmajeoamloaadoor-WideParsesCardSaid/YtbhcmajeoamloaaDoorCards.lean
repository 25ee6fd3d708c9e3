/-
  DERIVED. GIVEN WITH THE SEED: THE CARDS: each row of YtbhcmajeoamloaaDoorRows.lean that lists a variable, with what it lists TIED to the program's text (the seventh form; the later family's looks); each row that meets fmt, with fmt's text TOLD by the authors' own Lean function (tested against real Go, not proved from fmt's source: count such statements apart). THE CARD IS WHAT COUNTS. Prove the row's statement (the work); the ties are given (YtbhcmajeoamloaaDoorTie.lean); close each card by the builder's one call (the guide's Derived/Test/ToyasCard.lean, 'card_holds'). Laid BY PROGRAM, IN A SANDBOX (cutbox-door.mjs). By AI agents, Wed Nov 11 2026. No macro, syntax, notation, axiom, sorry.
-/
import Derived.Test.YtbhcmajeoamloaaDoorRows
import GoSem.ClaimSeven
namespace Go.Proofs.YtbhcmajeoamloaaDoor
namespace Rows

/-- THE TIED CARD OF 'lithophanelaw01.WideProducts'. -/
def wideProductsCard : Claim7 := { stood := { row := wideProductsRow, standIns := [], harness := (true, "51fa714c9d2748119fdddcb2ab6be8cd03623e4aa6b618c387791992dd5c6b55"), looks := false }, kinds := [], alts := [], laidByText := true, laidKinds := [.data, .pinned], laidTests := true, laidLooks := .later }
def WideProductsCardSaid : Prop := Claim7.holds Tryd.pinned (.plain (OpenSpec.ofChange wideProductsSpec)) wideProductsCard

/-- THE TIED CARD OF 'lithophanelaw01.WideQuotients'. -/
def wideQuotientsCard : Claim7 := { stood := { row := wideQuotientsRow, standIns := [], harness := (true, "51fa714c9d2748119fdddcb2ab6be8cd03623e4aa6b618c387791992dd5c6b55"), looks := false }, kinds := [], alts := [], laidByText := true, laidKinds := [.data, .pinned], laidTests := true, laidLooks := .later }
def WideQuotientsCardSaid : Prop := Claim7.holds Tryd.pinned (.plain (OpenSpec.ofChange wideQuotientsSpec)) wideQuotientsCard

/-- THE TIED CARD OF 'lithophanelaw01.WideDivisors'. -/
def wideDivisorsCard : Claim7 := { stood := { row := wideDivisorsRow, standIns := [], harness := (true, "51fa714c9d2748119fdddcb2ab6be8cd03623e4aa6b618c387791992dd5c6b55"), looks := false }, kinds := [], alts := [], laidByText := true, laidKinds := [.data, .pinned], laidTests := true, laidLooks := .later }
def WideDivisorsCardSaid : Prop := Claim7.holds Tryd.pinned (.plain (OpenSpec.ofChange wideDivisorsSpec)) wideDivisorsCard

/-- THE TIED CARD OF 'lithophanelaw01.WideParses'. -/
def wideParsesCard : Claim7 := { stood := { row := wideParsesRow, standIns := [], harness := (true, "51fa714c9d2748119fdddcb2ab6be8cd03623e4aa6b618c387791992dd5c6b55"), looks := false }, kinds := [], alts := [], laidByText := true, laidKinds := [.data, .pinned], laidTests := true, laidLooks := .later }
def WideParsesCardSaid : Prop := Claim7.holds Tryd.pinned (.plain (OpenSpec.ofChange wideParsesSpec)) wideParsesCard

/-- THE TIED CARD OF 'lithophanelaw01.WideRules'. -/
def wideRulesCard : Claim7 := { stood := { row := wideRulesRow, standIns := [], harness := (true, "51fa714c9d2748119fdddcb2ab6be8cd03623e4aa6b618c387791992dd5c6b55"), looks := false }, kinds := [], alts := [], laidByText := true, laidKinds := [.data, .pinned], laidTests := true, laidLooks := .later }
def WideRulesCardSaid : Prop := Claim7.holds Tryd.pinned (.plain (OpenSpec.ofChange wideRulesSpec)) wideRulesCard

/-- THE TIED CARD OF 'lithophanelaw01.WideSums'. -/
def wideSumsCard : Claim7 := { stood := { row := wideSumsRow, standIns := [], harness := (true, "51fa714c9d2748119fdddcb2ab6be8cd03623e4aa6b618c387791992dd5c6b55"), looks := false }, kinds := [], alts := [], laidByText := true, laidKinds := [.data, .pinned], laidTests := true, laidLooks := .later }
def WideSumsCardSaid : Prop := Claim7.holds Tryd.pinned (.plain (OpenSpec.ofChange wideSumsSpec)) wideSumsCard

/-- THE TIED CARD OF 'lithophanelaw01.WideRemainders'. -/
def wideRemaindersCard : Claim7 := { stood := { row := wideRemaindersRow, standIns := [], harness := (true, "51fa714c9d2748119fdddcb2ab6be8cd03623e4aa6b618c387791992dd5c6b55"), looks := false }, kinds := [], alts := [], laidByText := true, laidKinds := [.data, .pinned], laidTests := true, laidLooks := .later }
def WideRemaindersCardSaid : Prop := Claim7.holds Tryd.pinned (.plain (OpenSpec.ofChange wideRemaindersSpec)) wideRemaindersCard

/-- THE TIED CARD OF 'lithophanelaw01.WideRoots'. -/
def wideRootsCard : Claim7 := { stood := { row := wideRootsRow, standIns := [], harness := (true, "51fa714c9d2748119fdddcb2ab6be8cd03623e4aa6b618c387791992dd5c6b55"), looks := false }, kinds := [], alts := [], laidByText := true, laidKinds := [.data, .pinned], laidTests := true, laidLooks := .later }
def WideRootsCardSaid : Prop := Claim7.holds Tryd.pinned (.plain (OpenSpec.ofChange wideRootsSpec)) wideRootsCard

/-- THE TIED CARD OF 'lithophanelaw01.WideFracs'. -/
def wideFracsCard : Claim7 := { stood := { row := wideFracsRow, standIns := [], harness := (true, "51fa714c9d2748119fdddcb2ab6be8cd03623e4aa6b618c387791992dd5c6b55"), looks := false }, kinds := [], alts := [], laidByText := true, laidKinds := [.data, .pinned], laidTests := true, laidLooks := .later }
def WideFracsCardSaid : Prop := Claim7.holds Tryd.pinned (.plain (OpenSpec.ofChange wideFracsSpec)) wideFracsCard

/-- THE TIED CARD OF 'lithophanelaw01.WideFracRules'. -/
def wideFracRulesCard : Claim7 := { stood := { row := wideFracRulesRow, standIns := [], harness := (true, "51fa714c9d2748119fdddcb2ab6be8cd03623e4aa6b618c387791992dd5c6b55"), looks := false }, kinds := [], alts := [], laidByText := true, laidKinds := [.data, .pinned], laidTests := true, laidLooks := .later }
def WideFracRulesCardSaid : Prop := Claim7.holds Tryd.pinned (.plain (OpenSpec.ofChange wideFracRulesSpec)) wideFracRulesCard

/-- THE TIED CARD OF 'lithophanelaw01.WideInts'. -/
def wideIntsCard : Claim7 := { stood := { row := wideIntsRow, standIns := [], harness := (true, "51fa714c9d2748119fdddcb2ab6be8cd03623e4aa6b618c387791992dd5c6b55"), looks := false }, kinds := [], alts := [], laidByText := true, laidKinds := [.data, .pinned], laidTests := true, laidLooks := .later }
def WideIntsCardSaid : Prop := Claim7.holds Tryd.pinned (.plain (OpenSpec.ofChange wideIntsSpec)) wideIntsCard

/-- THE TIED CARD OF 'lithophanelaw01.WideTexts'. -/
def wideTextsCard : Claim7 := { stood := { row := wideTextsRow, standIns := [], harness := (true, "51fa714c9d2748119fdddcb2ab6be8cd03623e4aa6b618c387791992dd5c6b55"), looks := false }, kinds := [], alts := [], laidByText := true, laidKinds := [.data, .pinned], laidTests := true, laidLooks := .later }
def WideTextsCardSaid : Prop := Claim7.holds Tryd.pinned (.plain (OpenSpec.ofChange wideTextsSpec)) wideTextsCard

/-- THE SECOND FORM's CARD OF 'lithophanelaw01.WideProducts'. -/
def wideProductsUptoCard : Claim7 := { stood := { row := wideProductsUptoRow, standIns := [], harness := (true, "51fa714c9d2748119fdddcb2ab6be8cd03623e4aa6b618c387791992dd5c6b55"), looks := false }, kinds := [], alts := [], laidByText := true, laidKinds := [.data, .pinned], laidTests := true, laidLooks := .later }
def WideProductsUptoCardSaid : Prop := Claim7.holds Tryd.pinned (.plain (OpenSpec.upto wideProductsSpec)) wideProductsUptoCard

/-- THE SECOND FORM's CARD OF 'lithophanelaw01.WideQuotients'. -/
def wideQuotientsUptoCard : Claim7 := { stood := { row := wideQuotientsUptoRow, standIns := [], harness := (true, "51fa714c9d2748119fdddcb2ab6be8cd03623e4aa6b618c387791992dd5c6b55"), looks := false }, kinds := [], alts := [], laidByText := true, laidKinds := [.data, .pinned], laidTests := true, laidLooks := .later }
def WideQuotientsUptoCardSaid : Prop := Claim7.holds Tryd.pinned (.plain (OpenSpec.upto wideQuotientsSpec)) wideQuotientsUptoCard

/-- THE SECOND FORM's CARD OF 'lithophanelaw01.WideDivisors'. -/
def wideDivisorsUptoCard : Claim7 := { stood := { row := wideDivisorsUptoRow, standIns := [], harness := (true, "51fa714c9d2748119fdddcb2ab6be8cd03623e4aa6b618c387791992dd5c6b55"), looks := false }, kinds := [], alts := [], laidByText := true, laidKinds := [.data, .pinned], laidTests := true, laidLooks := .later }
def WideDivisorsUptoCardSaid : Prop := Claim7.holds Tryd.pinned (.plain (OpenSpec.upto wideDivisorsSpec)) wideDivisorsUptoCard

/-- THE SECOND FORM's CARD OF 'lithophanelaw01.WideParses'. -/
def wideParsesUptoCard : Claim7 := { stood := { row := wideParsesUptoRow, standIns := [], harness := (true, "51fa714c9d2748119fdddcb2ab6be8cd03623e4aa6b618c387791992dd5c6b55"), looks := false }, kinds := [], alts := [], laidByText := true, laidKinds := [.data, .pinned], laidTests := true, laidLooks := .later }
def WideParsesUptoCardSaid : Prop := Claim7.holds Tryd.pinned (.plain (OpenSpec.upto wideParsesSpec)) wideParsesUptoCard

/-- THE SECOND FORM's CARD OF 'lithophanelaw01.WideRules'. -/
def wideRulesUptoCard : Claim7 := { stood := { row := wideRulesUptoRow, standIns := [], harness := (true, "51fa714c9d2748119fdddcb2ab6be8cd03623e4aa6b618c387791992dd5c6b55"), looks := false }, kinds := [], alts := [], laidByText := true, laidKinds := [.data, .pinned], laidTests := true, laidLooks := .later }
def WideRulesUptoCardSaid : Prop := Claim7.holds Tryd.pinned (.plain (OpenSpec.upto wideRulesSpec)) wideRulesUptoCard

/-- THE SECOND FORM's CARD OF 'lithophanelaw01.WideSums'. -/
def wideSumsUptoCard : Claim7 := { stood := { row := wideSumsUptoRow, standIns := [], harness := (true, "51fa714c9d2748119fdddcb2ab6be8cd03623e4aa6b618c387791992dd5c6b55"), looks := false }, kinds := [], alts := [], laidByText := true, laidKinds := [.data, .pinned], laidTests := true, laidLooks := .later }
def WideSumsUptoCardSaid : Prop := Claim7.holds Tryd.pinned (.plain (OpenSpec.upto wideSumsSpec)) wideSumsUptoCard

/-- THE SECOND FORM's CARD OF 'lithophanelaw01.WideRemainders'. -/
def wideRemaindersUptoCard : Claim7 := { stood := { row := wideRemaindersUptoRow, standIns := [], harness := (true, "51fa714c9d2748119fdddcb2ab6be8cd03623e4aa6b618c387791992dd5c6b55"), looks := false }, kinds := [], alts := [], laidByText := true, laidKinds := [.data, .pinned], laidTests := true, laidLooks := .later }
def WideRemaindersUptoCardSaid : Prop := Claim7.holds Tryd.pinned (.plain (OpenSpec.upto wideRemaindersSpec)) wideRemaindersUptoCard

/-- THE SECOND FORM's CARD OF 'lithophanelaw01.WideRoots'. -/
def wideRootsUptoCard : Claim7 := { stood := { row := wideRootsUptoRow, standIns := [], harness := (true, "51fa714c9d2748119fdddcb2ab6be8cd03623e4aa6b618c387791992dd5c6b55"), looks := false }, kinds := [], alts := [], laidByText := true, laidKinds := [.data, .pinned], laidTests := true, laidLooks := .later }
def WideRootsUptoCardSaid : Prop := Claim7.holds Tryd.pinned (.plain (OpenSpec.upto wideRootsSpec)) wideRootsUptoCard

/-- THE SECOND FORM's CARD OF 'lithophanelaw01.WideFracs'. -/
def wideFracsUptoCard : Claim7 := { stood := { row := wideFracsUptoRow, standIns := [], harness := (true, "51fa714c9d2748119fdddcb2ab6be8cd03623e4aa6b618c387791992dd5c6b55"), looks := false }, kinds := [], alts := [], laidByText := true, laidKinds := [.data, .pinned], laidTests := true, laidLooks := .later }
def WideFracsUptoCardSaid : Prop := Claim7.holds Tryd.pinned (.plain (OpenSpec.upto wideFracsSpec)) wideFracsUptoCard

/-- THE SECOND FORM's CARD OF 'lithophanelaw01.WideFracRules'. -/
def wideFracRulesUptoCard : Claim7 := { stood := { row := wideFracRulesUptoRow, standIns := [], harness := (true, "51fa714c9d2748119fdddcb2ab6be8cd03623e4aa6b618c387791992dd5c6b55"), looks := false }, kinds := [], alts := [], laidByText := true, laidKinds := [.data, .pinned], laidTests := true, laidLooks := .later }
def WideFracRulesUptoCardSaid : Prop := Claim7.holds Tryd.pinned (.plain (OpenSpec.upto wideFracRulesSpec)) wideFracRulesUptoCard

/-- THE SECOND FORM's CARD OF 'lithophanelaw01.WideInts'. -/
def wideIntsUptoCard : Claim7 := { stood := { row := wideIntsUptoRow, standIns := [], harness := (true, "51fa714c9d2748119fdddcb2ab6be8cd03623e4aa6b618c387791992dd5c6b55"), looks := false }, kinds := [], alts := [], laidByText := true, laidKinds := [.data, .pinned], laidTests := true, laidLooks := .later }
def WideIntsUptoCardSaid : Prop := Claim7.holds Tryd.pinned (.plain (OpenSpec.upto wideIntsSpec)) wideIntsUptoCard

/-- THE SECOND FORM's CARD OF 'lithophanelaw01.WideTexts'. -/
def wideTextsUptoCard : Claim7 := { stood := { row := wideTextsUptoRow, standIns := [], harness := (true, "51fa714c9d2748119fdddcb2ab6be8cd03623e4aa6b618c387791992dd5c6b55"), looks := false }, kinds := [], alts := [], laidByText := true, laidKinds := [.data, .pinned], laidTests := true, laidLooks := .later }
def WideTextsUptoCardSaid : Prop := Claim7.holds Tryd.pinned (.plain (OpenSpec.upto wideTextsSpec)) wideTextsUptoCard
end Rows
end Go.Proofs.YtbhcmajeoamloaaDoor
