/-
  DERIVED. GIVEN WITH THE SEED: THE CARDS: each row of YtefgchmbdijjdaaDoorRows.lean that lists a variable, with what it lists TIED to the program's text (the seventh form; the later family's looks); each row that meets fmt, with fmt's text TOLD by the authors' own Lean function (tested against real Go, not proved from fmt's source: count such statements apart). THE CARD IS WHAT COUNTS. Prove the row's statement (the work); the ties are given (YtefgchmbdijjdaaDoorTie.lean); close each card by the builder's one call (the guide's Derived/Test/ToyasCard.lean, 'card_holds'). Laid BY PROGRAM, IN A SANDBOX (cutbox-door.mjs). By AI agents, Wed Nov 11 2026. No macro, syntax, notation, axiom, sorry.
-/
import Derived.Test.YtefgchmbdijjdaaDoorRows
import GoSem.ClaimSeven
namespace Go.Proofs.YtefgchmbdijjdaaDoor
namespace Rows

/-- THE TIED CARD OF 'lithophanelaw22.RayScaled'. -/
def rayScaledCard : Claim7 := { stood := { row := rayScaledRow, standIns := [], harness := (true, "4b8ed4007f869fa18eb92bb8c482fb39fa15821d1b473b1edd5fdec0af95eed9"), looks := false }, kinds := [], alts := [], laidByText := true, laidKinds := [.data, .pinned], laidTests := true, laidLooks := .later }
def RayScaledCardSaid : Prop := Claim7.holds Tryd.pinned (.plain (OpenSpec.ofChange rayScaledSpec)) rayScaledCard

/-- THE TIED CARD OF 'lithophanelaw22.RayTurned'. -/
def rayTurnedCard : Claim7 := { stood := { row := rayTurnedRow, standIns := [], harness := (true, "4b8ed4007f869fa18eb92bb8c482fb39fa15821d1b473b1edd5fdec0af95eed9"), looks := false }, kinds := [], alts := [], laidByText := true, laidKinds := [.data, .pinned], laidTests := true, laidLooks := .later }
def RayTurnedCardSaid : Prop := Claim7.holds Tryd.pinned (.plain (OpenSpec.ofChange rayTurnedSpec)) rayTurnedCard

/-- THE TIED CARD OF 'lithophanelaw22.RayDivides'. -/
def rayDividesCard : Claim7 := { stood := { row := rayDividesRow, standIns := [], harness := (true, "4b8ed4007f869fa18eb92bb8c482fb39fa15821d1b473b1edd5fdec0af95eed9"), looks := false }, kinds := [], alts := [], laidByText := true, laidKinds := [.data, .pinned], laidTests := true, laidLooks := .later }
def RayDividesCardSaid : Prop := Claim7.holds Tryd.pinned (.plain (OpenSpec.ofChange rayDividesSpec)) rayDividesCard

/-- THE SECOND FORM's CARD OF 'lithophanelaw22.RayScaled'. -/
def rayScaledUptoCard : Claim7 := { stood := { row := rayScaledUptoRow, standIns := [], harness := (true, "4b8ed4007f869fa18eb92bb8c482fb39fa15821d1b473b1edd5fdec0af95eed9"), looks := false }, kinds := [], alts := [], laidByText := true, laidKinds := [.data, .pinned], laidTests := true, laidLooks := .later }
def RayScaledUptoCardSaid : Prop := Claim7.holds Tryd.pinned (.plain (OpenSpec.upto rayScaledSpec)) rayScaledUptoCard

/-- THE SECOND FORM's CARD OF 'lithophanelaw22.RayTurned'. -/
def rayTurnedUptoCard : Claim7 := { stood := { row := rayTurnedUptoRow, standIns := [], harness := (true, "4b8ed4007f869fa18eb92bb8c482fb39fa15821d1b473b1edd5fdec0af95eed9"), looks := false }, kinds := [], alts := [], laidByText := true, laidKinds := [.data, .pinned], laidTests := true, laidLooks := .later }
def RayTurnedUptoCardSaid : Prop := Claim7.holds Tryd.pinned (.plain (OpenSpec.upto rayTurnedSpec)) rayTurnedUptoCard

/-- THE SECOND FORM's CARD OF 'lithophanelaw22.RayDivides'. -/
def rayDividesUptoCard : Claim7 := { stood := { row := rayDividesUptoRow, standIns := [], harness := (true, "4b8ed4007f869fa18eb92bb8c482fb39fa15821d1b473b1edd5fdec0af95eed9"), looks := false }, kinds := [], alts := [], laidByText := true, laidKinds := [.data, .pinned], laidTests := true, laidLooks := .later }
def RayDividesUptoCardSaid : Prop := Claim7.holds Tryd.pinned (.plain (OpenSpec.upto rayDividesSpec)) rayDividesUptoCard
end Rows
end Go.Proofs.YtefgchmbdijjdaaDoor
