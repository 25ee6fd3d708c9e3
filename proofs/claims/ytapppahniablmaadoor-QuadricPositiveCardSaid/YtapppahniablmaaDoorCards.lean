/-
  DERIVED. GIVEN WITH THE SEED: THE CARDS: each row of YtapppahniablmaaDoorRows.lean that lists a variable, with what it lists TIED to the program's text (the seventh form; the later family's looks); each row that meets fmt, with fmt's text TOLD by the authors' own Lean function (tested against real Go, not proved from fmt's source: count such statements apart). THE CARD IS WHAT COUNTS. Prove the row's statement (the work); the ties are given (YtapppahniablmaaDoorTie.lean); close each card by the builder's one call (the guide's Derived/Test/ToyasCard.lean, 'card_holds'). Laid BY PROGRAM, IN A SANDBOX (cutbox-door.mjs). By AI agents, Wed Nov 11 2026. No macro, syntax, notation, axiom, sorry.
-/
import Derived.Test.YtapppahniablmaaDoorRows
import GoSem.ClaimSeven
namespace Go.Proofs.YtapppahniablmaaDoor
namespace Rows

/-- THE TIED CARD OF 'lithophanelaw10.QuadricOf'. -/
def quadricOfCard : Claim7 := { stood := { row := quadricOfRow, standIns := [], harness := (true, "1a7e82066a41c42720557c000f56b60f43fe59105432f8014a3fbabcae2c6f3e"), looks := false }, kinds := [], alts := [], laidByText := true, laidKinds := [.data, .pinned], laidTests := true, laidLooks := .later }
def QuadricOfCardSaid : Prop := Claim7.holds Tryd.pinned (.plain (OpenSpec.ofChange quadricOfSpec)) quadricOfCard

/-- THE TIED CARD OF 'lithophanelaw10.QuadricValues'. -/
def quadricValuesCard : Claim7 := { stood := { row := quadricValuesRow, standIns := [], harness := (true, "1a7e82066a41c42720557c000f56b60f43fe59105432f8014a3fbabcae2c6f3e"), looks := false }, kinds := [], alts := [], laidByText := true, laidKinds := [.data, .pinned], laidTests := true, laidLooks := .later }
def QuadricValuesCardSaid : Prop := Claim7.holds Tryd.pinned (.plain (OpenSpec.ofChange quadricValuesSpec)) quadricValuesCard

/-- THE TIED CARD OF 'lithophanelaw10.QuadricAt'. -/
def quadricAtCard : Claim7 := { stood := { row := quadricAtRow, standIns := [], harness := (true, "1a7e82066a41c42720557c000f56b60f43fe59105432f8014a3fbabcae2c6f3e"), looks := false }, kinds := [], alts := [], laidByText := true, laidKinds := [.data, .pinned], laidTests := true, laidLooks := .later }
def QuadricAtCardSaid : Prop := Claim7.holds Tryd.pinned (.plain (OpenSpec.ofChange quadricAtSpec)) quadricAtCard

/-- THE TIED CARD OF 'lithophanelaw10.QuadricSums'. -/
def quadricSumsCard : Claim7 := { stood := { row := quadricSumsRow, standIns := [], harness := (true, "1a7e82066a41c42720557c000f56b60f43fe59105432f8014a3fbabcae2c6f3e"), looks := false }, kinds := [], alts := [], laidByText := true, laidKinds := [.data, .pinned], laidTests := true, laidLooks := .later }
def QuadricSumsCardSaid : Prop := Claim7.holds Tryd.pinned (.plain (OpenSpec.ofChange quadricSumsSpec)) quadricSumsCard

/-- THE TIED CARD OF 'lithophanelaw10.QuadricAround'. -/
def quadricAroundCard : Claim7 := { stood := { row := quadricAroundRow, standIns := [], harness := (true, "1a7e82066a41c42720557c000f56b60f43fe59105432f8014a3fbabcae2c6f3e"), looks := false }, kinds := [], alts := [], laidByText := true, laidKinds := [.data, .pinned], laidTests := true, laidLooks := .later }
def QuadricAroundCardSaid : Prop := Claim7.holds Tryd.pinned (.plain (OpenSpec.ofChange quadricAroundSpec)) quadricAroundCard

/-- THE TIED CARD OF 'lithophanelaw10.QuadricPositive'. -/
def quadricPositiveCard : Claim7 := { stood := { row := quadricPositiveRow, standIns := [], harness := (true, "1a7e82066a41c42720557c000f56b60f43fe59105432f8014a3fbabcae2c6f3e"), looks := false }, kinds := [], alts := [], laidByText := true, laidKinds := [.data, .pinned], laidTests := true, laidLooks := .later }
def QuadricPositiveCardSaid : Prop := Claim7.holds Tryd.pinned (.plain (OpenSpec.ofChange quadricPositiveSpec)) quadricPositiveCard

/-- THE TIED CARD OF 'lithophanelaw10.QuadricMoved'. -/
def quadricMovedCard : Claim7 := { stood := { row := quadricMovedRow, standIns := [], harness := (true, "1a7e82066a41c42720557c000f56b60f43fe59105432f8014a3fbabcae2c6f3e"), looks := false }, kinds := [], alts := [], laidByText := true, laidKinds := [.data, .pinned], laidTests := true, laidLooks := .later }
def QuadricMovedCardSaid : Prop := Claim7.holds Tryd.pinned (.plain (OpenSpec.ofChange quadricMovedSpec)) quadricMovedCard

/-- THE TIED CARD OF 'lithophanelaw10.QuadricKeeps'. -/
def quadricKeepsCard : Claim7 := { stood := { row := quadricKeepsRow, standIns := [], harness := (true, "1a7e82066a41c42720557c000f56b60f43fe59105432f8014a3fbabcae2c6f3e"), looks := false }, kinds := [], alts := [], laidByText := true, laidKinds := [.data, .pinned], laidTests := true, laidLooks := .later }
def QuadricKeepsCardSaid : Prop := Claim7.holds Tryd.pinned (.plain (OpenSpec.ofChange quadricKeepsSpec)) quadricKeepsCard

/-- THE SECOND FORM's CARD OF 'lithophanelaw10.QuadricOf'. -/
def quadricOfUptoCard : Claim7 := { stood := { row := quadricOfUptoRow, standIns := [], harness := (true, "1a7e82066a41c42720557c000f56b60f43fe59105432f8014a3fbabcae2c6f3e"), looks := false }, kinds := [], alts := [], laidByText := true, laidKinds := [.data, .pinned], laidTests := true, laidLooks := .later }
def QuadricOfUptoCardSaid : Prop := Claim7.holds Tryd.pinned (.plain (OpenSpec.upto quadricOfSpec)) quadricOfUptoCard

/-- THE SECOND FORM's CARD OF 'lithophanelaw10.QuadricValues'. -/
def quadricValuesUptoCard : Claim7 := { stood := { row := quadricValuesUptoRow, standIns := [], harness := (true, "1a7e82066a41c42720557c000f56b60f43fe59105432f8014a3fbabcae2c6f3e"), looks := false }, kinds := [], alts := [], laidByText := true, laidKinds := [.data, .pinned], laidTests := true, laidLooks := .later }
def QuadricValuesUptoCardSaid : Prop := Claim7.holds Tryd.pinned (.plain (OpenSpec.upto quadricValuesSpec)) quadricValuesUptoCard

/-- THE SECOND FORM's CARD OF 'lithophanelaw10.QuadricAt'. -/
def quadricAtUptoCard : Claim7 := { stood := { row := quadricAtUptoRow, standIns := [], harness := (true, "1a7e82066a41c42720557c000f56b60f43fe59105432f8014a3fbabcae2c6f3e"), looks := false }, kinds := [], alts := [], laidByText := true, laidKinds := [.data, .pinned], laidTests := true, laidLooks := .later }
def QuadricAtUptoCardSaid : Prop := Claim7.holds Tryd.pinned (.plain (OpenSpec.upto quadricAtSpec)) quadricAtUptoCard

/-- THE SECOND FORM's CARD OF 'lithophanelaw10.QuadricSums'. -/
def quadricSumsUptoCard : Claim7 := { stood := { row := quadricSumsUptoRow, standIns := [], harness := (true, "1a7e82066a41c42720557c000f56b60f43fe59105432f8014a3fbabcae2c6f3e"), looks := false }, kinds := [], alts := [], laidByText := true, laidKinds := [.data, .pinned], laidTests := true, laidLooks := .later }
def QuadricSumsUptoCardSaid : Prop := Claim7.holds Tryd.pinned (.plain (OpenSpec.upto quadricSumsSpec)) quadricSumsUptoCard

/-- THE SECOND FORM's CARD OF 'lithophanelaw10.QuadricAround'. -/
def quadricAroundUptoCard : Claim7 := { stood := { row := quadricAroundUptoRow, standIns := [], harness := (true, "1a7e82066a41c42720557c000f56b60f43fe59105432f8014a3fbabcae2c6f3e"), looks := false }, kinds := [], alts := [], laidByText := true, laidKinds := [.data, .pinned], laidTests := true, laidLooks := .later }
def QuadricAroundUptoCardSaid : Prop := Claim7.holds Tryd.pinned (.plain (OpenSpec.upto quadricAroundSpec)) quadricAroundUptoCard

/-- THE SECOND FORM's CARD OF 'lithophanelaw10.QuadricPositive'. -/
def quadricPositiveUptoCard : Claim7 := { stood := { row := quadricPositiveUptoRow, standIns := [], harness := (true, "1a7e82066a41c42720557c000f56b60f43fe59105432f8014a3fbabcae2c6f3e"), looks := false }, kinds := [], alts := [], laidByText := true, laidKinds := [.data, .pinned], laidTests := true, laidLooks := .later }
def QuadricPositiveUptoCardSaid : Prop := Claim7.holds Tryd.pinned (.plain (OpenSpec.upto quadricPositiveSpec)) quadricPositiveUptoCard

/-- THE SECOND FORM's CARD OF 'lithophanelaw10.QuadricMoved'. -/
def quadricMovedUptoCard : Claim7 := { stood := { row := quadricMovedUptoRow, standIns := [], harness := (true, "1a7e82066a41c42720557c000f56b60f43fe59105432f8014a3fbabcae2c6f3e"), looks := false }, kinds := [], alts := [], laidByText := true, laidKinds := [.data, .pinned], laidTests := true, laidLooks := .later }
def QuadricMovedUptoCardSaid : Prop := Claim7.holds Tryd.pinned (.plain (OpenSpec.upto quadricMovedSpec)) quadricMovedUptoCard

/-- THE SECOND FORM's CARD OF 'lithophanelaw10.QuadricKeeps'. -/
def quadricKeepsUptoCard : Claim7 := { stood := { row := quadricKeepsUptoRow, standIns := [], harness := (true, "1a7e82066a41c42720557c000f56b60f43fe59105432f8014a3fbabcae2c6f3e"), looks := false }, kinds := [], alts := [], laidByText := true, laidKinds := [.data, .pinned], laidTests := true, laidLooks := .later }
def QuadricKeepsUptoCardSaid : Prop := Claim7.holds Tryd.pinned (.plain (OpenSpec.upto quadricKeepsSpec)) quadricKeepsUptoCard
end Rows
end Go.Proofs.YtapppahniablmaaDoor
