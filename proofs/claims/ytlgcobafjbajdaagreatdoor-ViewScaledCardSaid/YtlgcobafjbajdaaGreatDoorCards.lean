/-
  DERIVED. GIVEN WITH THE SEED: THE CARDS: each row of YtlgcobafjbajdaaGreatDoorRows.lean that lists a variable, with what it lists TIED to the program's text (the seventh form; the later family's looks); each row that meets fmt, with fmt's text TOLD by the authors' own Lean function (tested against real Go, not proved from fmt's source: count such statements apart). THE CARD IS WHAT COUNTS. Prove the row's statement (the work); the ties are given (YtlgcobafjbajdaaGreatDoorTie.lean); close each card by the builder's one call (the guide's Derived/Test/ToyasCard.lean, 'card_holds'). Laid BY PROGRAM, IN A SANDBOX (cutbox-door.mjs). By AI agents, Wed Nov 11 2026. No macro, syntax, notation, axiom, sorry.
-/
import Derived.Test.YtlgcobafjbajdaaGreatDoorRows
import GoSem.ClaimSeven
namespace Go.Proofs.YtlgcobafjbajdaaGreatDoor
namespace Rows

/-- THE TIED CARD OF 'lithophanelaw24.ViewChooses'. -/
def viewChoosesCard : Claim7 := { stood := { row := viewChoosesRow, standIns := [], harness := (true, "64c8462908acd9440c9704edf94c96637fd3cc3740a5933ee33443c6582a6c60"), looks := false }, kinds := [], alts := [], laidByText := true, laidKinds := [.data, .pinned], laidTests := true, laidLooks := .later }
def ViewChoosesCardSaid : Prop := Claim7.holds Tryz.pinned (.plain (OpenSpec.ofChange viewChoosesSpec)) viewChoosesCard

/-- THE TIED CARD OF 'lithophanelaw24.ViewGreatest'. -/
def viewGreatestCard : Claim7 := { stood := { row := viewGreatestRow, standIns := [], harness := (true, "64c8462908acd9440c9704edf94c96637fd3cc3740a5933ee33443c6582a6c60"), looks := false }, kinds := [], alts := [], laidByText := true, laidKinds := [.data, .pinned], laidTests := true, laidLooks := .later }
def ViewGreatestCardSaid : Prop := Claim7.holds Tryz.pinned (.plain (OpenSpec.ofChange viewGreatestSpec)) viewGreatestCard

/-- THE TIED CARD OF 'lithophanelaw24.ViewNext'. -/
def viewNextCard : Claim7 := { stood := { row := viewNextRow, standIns := [], harness := (true, "64c8462908acd9440c9704edf94c96637fd3cc3740a5933ee33443c6582a6c60"), looks := false }, kinds := [], alts := [], laidByText := true, laidKinds := [.data, .pinned], laidTests := true, laidLooks := .later }
def ViewNextCardSaid : Prop := Claim7.holds Tryz.pinned (.plain (OpenSpec.ofChange viewNextSpec)) viewNextCard

/-- THE TIED CARD OF 'lithophanelaw24.ViewSteps'. -/
def viewStepsCard : Claim7 := { stood := { row := viewStepsRow, standIns := [], harness := (true, "64c8462908acd9440c9704edf94c96637fd3cc3740a5933ee33443c6582a6c60"), looks := false }, kinds := [], alts := [], laidByText := true, laidKinds := [.data, .pinned], laidTests := true, laidLooks := .later }
def ViewStepsCardSaid : Prop := Claim7.holds Tryz.pinned (.plain (OpenSpec.ofChange viewStepsSpec)) viewStepsCard

/-- THE TIED CARD OF 'lithophanelaw24.ViewCoarser'. -/
def viewCoarserCard : Claim7 := { stood := { row := viewCoarserRow, standIns := [], harness := (true, "64c8462908acd9440c9704edf94c96637fd3cc3740a5933ee33443c6582a6c60"), looks := false }, kinds := [], alts := [], laidByText := true, laidKinds := [.data, .pinned], laidTests := true, laidLooks := .later }
def ViewCoarserCardSaid : Prop := Claim7.holds Tryz.pinned (.plain (OpenSpec.ofChange viewCoarserSpec)) viewCoarserCard

/-- THE TIED CARD OF 'lithophanelaw24.ViewScaled'. -/
def viewScaledCard : Claim7 := { stood := { row := viewScaledRow, standIns := [], harness := (true, "64c8462908acd9440c9704edf94c96637fd3cc3740a5933ee33443c6582a6c60"), looks := false }, kinds := [], alts := [], laidByText := true, laidKinds := [.data, .pinned], laidTests := true, laidLooks := .later }
def ViewScaledCardSaid : Prop := Claim7.holds Tryz.pinned (.plain (OpenSpec.ofChange viewScaledSpec)) viewScaledCard

/-- THE TIED CARD OF 'lithophanelaw24.ViewSpoiled'. -/
def viewSpoiledCard : Claim7 := { stood := { row := viewSpoiledRow, standIns := [], harness := (true, "64c8462908acd9440c9704edf94c96637fd3cc3740a5933ee33443c6582a6c60"), looks := false }, kinds := [], alts := [], laidByText := true, laidKinds := [.data, .pinned], laidTests := true, laidLooks := .later }
def ViewSpoiledCardSaid : Prop := Claim7.holds Tryz.pinned (.plain (OpenSpec.ofChange viewSpoiledSpec)) viewSpoiledCard

/-- THE SECOND FORM's CARD OF 'lithophanelaw24.ViewChooses'. -/
def viewChoosesUptoCard : Claim7 := { stood := { row := viewChoosesUptoRow, standIns := [], harness := (true, "64c8462908acd9440c9704edf94c96637fd3cc3740a5933ee33443c6582a6c60"), looks := false }, kinds := [], alts := [], laidByText := true, laidKinds := [.data, .pinned], laidTests := true, laidLooks := .later }
def ViewChoosesUptoCardSaid : Prop := Claim7.holds Tryz.pinned (.plain (OpenSpec.upto viewChoosesSpec)) viewChoosesUptoCard

/-- THE SECOND FORM's CARD OF 'lithophanelaw24.ViewGreatest'. -/
def viewGreatestUptoCard : Claim7 := { stood := { row := viewGreatestUptoRow, standIns := [], harness := (true, "64c8462908acd9440c9704edf94c96637fd3cc3740a5933ee33443c6582a6c60"), looks := false }, kinds := [], alts := [], laidByText := true, laidKinds := [.data, .pinned], laidTests := true, laidLooks := .later }
def ViewGreatestUptoCardSaid : Prop := Claim7.holds Tryz.pinned (.plain (OpenSpec.upto viewGreatestSpec)) viewGreatestUptoCard

/-- THE SECOND FORM's CARD OF 'lithophanelaw24.ViewNext'. -/
def viewNextUptoCard : Claim7 := { stood := { row := viewNextUptoRow, standIns := [], harness := (true, "64c8462908acd9440c9704edf94c96637fd3cc3740a5933ee33443c6582a6c60"), looks := false }, kinds := [], alts := [], laidByText := true, laidKinds := [.data, .pinned], laidTests := true, laidLooks := .later }
def ViewNextUptoCardSaid : Prop := Claim7.holds Tryz.pinned (.plain (OpenSpec.upto viewNextSpec)) viewNextUptoCard

/-- THE SECOND FORM's CARD OF 'lithophanelaw24.ViewSteps'. -/
def viewStepsUptoCard : Claim7 := { stood := { row := viewStepsUptoRow, standIns := [], harness := (true, "64c8462908acd9440c9704edf94c96637fd3cc3740a5933ee33443c6582a6c60"), looks := false }, kinds := [], alts := [], laidByText := true, laidKinds := [.data, .pinned], laidTests := true, laidLooks := .later }
def ViewStepsUptoCardSaid : Prop := Claim7.holds Tryz.pinned (.plain (OpenSpec.upto viewStepsSpec)) viewStepsUptoCard

/-- THE SECOND FORM's CARD OF 'lithophanelaw24.ViewCoarser'. -/
def viewCoarserUptoCard : Claim7 := { stood := { row := viewCoarserUptoRow, standIns := [], harness := (true, "64c8462908acd9440c9704edf94c96637fd3cc3740a5933ee33443c6582a6c60"), looks := false }, kinds := [], alts := [], laidByText := true, laidKinds := [.data, .pinned], laidTests := true, laidLooks := .later }
def ViewCoarserUptoCardSaid : Prop := Claim7.holds Tryz.pinned (.plain (OpenSpec.upto viewCoarserSpec)) viewCoarserUptoCard

/-- THE SECOND FORM's CARD OF 'lithophanelaw24.ViewScaled'. -/
def viewScaledUptoCard : Claim7 := { stood := { row := viewScaledUptoRow, standIns := [], harness := (true, "64c8462908acd9440c9704edf94c96637fd3cc3740a5933ee33443c6582a6c60"), looks := false }, kinds := [], alts := [], laidByText := true, laidKinds := [.data, .pinned], laidTests := true, laidLooks := .later }
def ViewScaledUptoCardSaid : Prop := Claim7.holds Tryz.pinned (.plain (OpenSpec.upto viewScaledSpec)) viewScaledUptoCard

/-- THE SECOND FORM's CARD OF 'lithophanelaw24.ViewSpoiled'. -/
def viewSpoiledUptoCard : Claim7 := { stood := { row := viewSpoiledUptoRow, standIns := [], harness := (true, "64c8462908acd9440c9704edf94c96637fd3cc3740a5933ee33443c6582a6c60"), looks := false }, kinds := [], alts := [], laidByText := true, laidKinds := [.data, .pinned], laidTests := true, laidLooks := .later }
def ViewSpoiledUptoCardSaid : Prop := Claim7.holds Tryz.pinned (.plain (OpenSpec.upto viewSpoiledSpec)) viewSpoiledUptoCard
end Rows
end Go.Proofs.YtlgcobafjbajdaaGreatDoor
