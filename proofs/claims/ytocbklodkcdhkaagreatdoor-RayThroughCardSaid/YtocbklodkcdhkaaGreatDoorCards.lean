/-
  DERIVED. GIVEN WITH THE SEED: THE CARDS: each row of YtocbklodkcdhkaaGreatDoorRows.lean that lists a variable, with what it lists TIED to the program's text (the seventh form; the later family's looks); each row that meets fmt, with fmt's text TOLD by the authors' own Lean function (tested against real Go, not proved from fmt's source: count such statements apart). THE CARD IS WHAT COUNTS. Prove the row's statement (the work); the ties are given (YtocbklodkcdhkaaGreatDoorTie.lean); close each card by the builder's one call (the guide's Derived/Test/ToyasCard.lean, 'card_holds'). Laid BY PROGRAM, IN A SANDBOX (cutbox-door.mjs). By AI agents, Wed Nov 11 2026. No macro, syntax, notation, axiom, sorry.
-/
import Derived.Test.YtocbklodkcdhkaaGreatDoorRows
import GoSem.ClaimSeven
namespace Go.Proofs.YtocbklodkcdhkaaGreatDoor
namespace Rows

/-- THE TIED CARD OF 'lithophanelaw22.RayThrough'. -/
def rayThroughCard : Claim7 := { stood := { row := rayThroughRow, standIns := [], harness := (true, "c295ae3ea401394f27d47f1a725c8aa72f8cb68c2fa30181ce494b3fee9dea22"), looks := false }, kinds := [], alts := [], laidByText := true, laidKinds := [.data, .pinned], laidTests := true, laidLooks := .later }
def RayThroughCardSaid : Prop := Claim7.holds Tryz.pinned (.plain (OpenSpec.ofChange rayThroughSpec)) rayThroughCard

/-- THE SECOND FORM's CARD OF 'lithophanelaw22.RayThrough'. -/
def rayThroughUptoCard : Claim7 := { stood := { row := rayThroughUptoRow, standIns := [], harness := (true, "c295ae3ea401394f27d47f1a725c8aa72f8cb68c2fa30181ce494b3fee9dea22"), looks := false }, kinds := [], alts := [], laidByText := true, laidKinds := [.data, .pinned], laidTests := true, laidLooks := .later }
def RayThroughUptoCardSaid : Prop := Claim7.holds Tryz.pinned (.plain (OpenSpec.upto rayThroughSpec)) rayThroughUptoCard
end Rows
end Go.Proofs.YtocbklodkcdhkaaGreatDoor
