/-
  DERIVED. GIVEN WITH THE SEED: THE CARDS: each row of YtefgchmbdijjdaaGreatDoorRows.lean that lists a variable, with what it lists TIED to the program's text (the seventh form; the later family's looks); each row that meets fmt, with fmt's text TOLD by the authors' own Lean function (tested against real Go, not proved from fmt's source: count such statements apart). THE CARD IS WHAT COUNTS. Prove the row's statement (the work); the ties are given (YtefgchmbdijjdaaGreatDoorTie.lean); close each card by the builder's one call (the guide's Derived/Test/ToyasCard.lean, 'card_holds'). Laid BY PROGRAM, IN A SANDBOX (cutbox-door.mjs). By AI agents, Wed Nov 11 2026. No macro, syntax, notation, axiom, sorry.
-/
import Derived.Test.YtefgchmbdijjdaaGreatDoorRows
import GoSem.ClaimSeven
namespace Go.Proofs.YtefgchmbdijjdaaGreatDoor
namespace Rows

/-- THE TIED CARD OF 'lithophanelaw22.RayCrosses'. -/
def rayCrossesCard : Claim7 := { stood := { row := rayCrossesRow, standIns := [], harness := (true, "9a3be8eeaeeb3130e61a5f90ac0de0843deb367aec0d9e15816fcc1e740e40a8"), looks := false }, kinds := [], alts := [], laidByText := true, laidKinds := [.data, .pinned], laidTests := true, laidLooks := .later }
def RayCrossesCardSaid : Prop := Claim7.holds Tryz.pinned (.plain (OpenSpec.ofChange rayCrossesSpec)) rayCrossesCard

/-- THE TIED CARD OF 'lithophanelaw22.RayBoxes'. -/
def rayBoxesCard : Claim7 := { stood := { row := rayBoxesRow, standIns := [], harness := (true, "9a3be8eeaeeb3130e61a5f90ac0de0843deb367aec0d9e15816fcc1e740e40a8"), looks := false }, kinds := [], alts := [], laidByText := true, laidKinds := [.data, .pinned], laidTests := true, laidLooks := .later }
def RayBoxesCardSaid : Prop := Claim7.holds Tryz.pinned (.plain (OpenSpec.ofChange rayBoxesSpec)) rayBoxesCard

/-- THE TIED CARD OF 'lithophanelaw22.RayHits'. -/
def rayHitsCard : Claim7 := { stood := { row := rayHitsRow, standIns := [], harness := (true, "9a3be8eeaeeb3130e61a5f90ac0de0843deb367aec0d9e15816fcc1e740e40a8"), looks := false }, kinds := [], alts := [], laidByText := true, laidKinds := [.data, .pinned], laidTests := true, laidLooks := .later }
def RayHitsCardSaid : Prop := Claim7.holds Tryz.pinned (.plain (OpenSpec.ofChange rayHitsSpec)) rayHitsCard

/-- THE TIED CARD OF 'lithophanelaw22.RayThrough'. -/
def rayThroughCard : Claim7 := { stood := { row := rayThroughRow, standIns := [], harness := (true, "9a3be8eeaeeb3130e61a5f90ac0de0843deb367aec0d9e15816fcc1e740e40a8"), looks := false }, kinds := [], alts := [], laidByText := true, laidKinds := [.data, .pinned], laidTests := true, laidLooks := .later }
def RayThroughCardSaid : Prop := Claim7.holds Tryz.pinned (.plain (OpenSpec.ofChange rayThroughSpec)) rayThroughCard

/-- THE TIED CARD OF 'lithophanelaw22.RayInside'. -/
def rayInsideCard : Claim7 := { stood := { row := rayInsideRow, standIns := [], harness := (true, "9a3be8eeaeeb3130e61a5f90ac0de0843deb367aec0d9e15816fcc1e740e40a8"), looks := false }, kinds := [], alts := [], laidByText := true, laidKinds := [.data, .pinned], laidTests := true, laidLooks := .later }
def RayInsideCardSaid : Prop := Claim7.holds Tryz.pinned (.plain (OpenSpec.ofChange rayInsideSpec)) rayInsideCard

/-- THE TIED CARD OF 'lithophanelaw22.RayCounts'. -/
def rayCountsCard : Claim7 := { stood := { row := rayCountsRow, standIns := [], harness := (true, "9a3be8eeaeeb3130e61a5f90ac0de0843deb367aec0d9e15816fcc1e740e40a8"), looks := false }, kinds := [], alts := [], laidByText := true, laidKinds := [.data, .pinned], laidTests := true, laidLooks := .later }
def RayCountsCardSaid : Prop := Claim7.holds Tryz.pinned (.plain (OpenSpec.ofChange rayCountsSpec)) rayCountsCard

/-- THE TIED CARD OF 'lithophanelaw22.RayFirst'. -/
def rayFirstCard : Claim7 := { stood := { row := rayFirstRow, standIns := [], harness := (true, "9a3be8eeaeeb3130e61a5f90ac0de0843deb367aec0d9e15816fcc1e740e40a8"), looks := false }, kinds := [], alts := [], laidByText := true, laidKinds := [.data, .pinned], laidTests := true, laidLooks := .later }
def RayFirstCardSaid : Prop := Claim7.holds Tryz.pinned (.plain (OpenSpec.ofChange rayFirstSpec)) rayFirstCard

/-- THE TIED CARD OF 'lithophanelaw22.RayKeeps'. -/
def rayKeepsCard : Claim7 := { stood := { row := rayKeepsRow, standIns := [], harness := (true, "9a3be8eeaeeb3130e61a5f90ac0de0843deb367aec0d9e15816fcc1e740e40a8"), looks := false }, kinds := [], alts := [], laidByText := true, laidKinds := [.data, .pinned], laidTests := true, laidLooks := .later }
def RayKeepsCardSaid : Prop := Claim7.holds Tryz.pinned (.plain (OpenSpec.ofChange rayKeepsSpec)) rayKeepsCard

/-- THE SECOND FORM's CARD OF 'lithophanelaw22.RayCrosses'. -/
def rayCrossesUptoCard : Claim7 := { stood := { row := rayCrossesUptoRow, standIns := [], harness := (true, "9a3be8eeaeeb3130e61a5f90ac0de0843deb367aec0d9e15816fcc1e740e40a8"), looks := false }, kinds := [], alts := [], laidByText := true, laidKinds := [.data, .pinned], laidTests := true, laidLooks := .later }
def RayCrossesUptoCardSaid : Prop := Claim7.holds Tryz.pinned (.plain (OpenSpec.upto rayCrossesSpec)) rayCrossesUptoCard

/-- THE SECOND FORM's CARD OF 'lithophanelaw22.RayBoxes'. -/
def rayBoxesUptoCard : Claim7 := { stood := { row := rayBoxesUptoRow, standIns := [], harness := (true, "9a3be8eeaeeb3130e61a5f90ac0de0843deb367aec0d9e15816fcc1e740e40a8"), looks := false }, kinds := [], alts := [], laidByText := true, laidKinds := [.data, .pinned], laidTests := true, laidLooks := .later }
def RayBoxesUptoCardSaid : Prop := Claim7.holds Tryz.pinned (.plain (OpenSpec.upto rayBoxesSpec)) rayBoxesUptoCard

/-- THE SECOND FORM's CARD OF 'lithophanelaw22.RayHits'. -/
def rayHitsUptoCard : Claim7 := { stood := { row := rayHitsUptoRow, standIns := [], harness := (true, "9a3be8eeaeeb3130e61a5f90ac0de0843deb367aec0d9e15816fcc1e740e40a8"), looks := false }, kinds := [], alts := [], laidByText := true, laidKinds := [.data, .pinned], laidTests := true, laidLooks := .later }
def RayHitsUptoCardSaid : Prop := Claim7.holds Tryz.pinned (.plain (OpenSpec.upto rayHitsSpec)) rayHitsUptoCard

/-- THE SECOND FORM's CARD OF 'lithophanelaw22.RayThrough'. -/
def rayThroughUptoCard : Claim7 := { stood := { row := rayThroughUptoRow, standIns := [], harness := (true, "9a3be8eeaeeb3130e61a5f90ac0de0843deb367aec0d9e15816fcc1e740e40a8"), looks := false }, kinds := [], alts := [], laidByText := true, laidKinds := [.data, .pinned], laidTests := true, laidLooks := .later }
def RayThroughUptoCardSaid : Prop := Claim7.holds Tryz.pinned (.plain (OpenSpec.upto rayThroughSpec)) rayThroughUptoCard

/-- THE SECOND FORM's CARD OF 'lithophanelaw22.RayInside'. -/
def rayInsideUptoCard : Claim7 := { stood := { row := rayInsideUptoRow, standIns := [], harness := (true, "9a3be8eeaeeb3130e61a5f90ac0de0843deb367aec0d9e15816fcc1e740e40a8"), looks := false }, kinds := [], alts := [], laidByText := true, laidKinds := [.data, .pinned], laidTests := true, laidLooks := .later }
def RayInsideUptoCardSaid : Prop := Claim7.holds Tryz.pinned (.plain (OpenSpec.upto rayInsideSpec)) rayInsideUptoCard

/-- THE SECOND FORM's CARD OF 'lithophanelaw22.RayCounts'. -/
def rayCountsUptoCard : Claim7 := { stood := { row := rayCountsUptoRow, standIns := [], harness := (true, "9a3be8eeaeeb3130e61a5f90ac0de0843deb367aec0d9e15816fcc1e740e40a8"), looks := false }, kinds := [], alts := [], laidByText := true, laidKinds := [.data, .pinned], laidTests := true, laidLooks := .later }
def RayCountsUptoCardSaid : Prop := Claim7.holds Tryz.pinned (.plain (OpenSpec.upto rayCountsSpec)) rayCountsUptoCard

/-- THE SECOND FORM's CARD OF 'lithophanelaw22.RayFirst'. -/
def rayFirstUptoCard : Claim7 := { stood := { row := rayFirstUptoRow, standIns := [], harness := (true, "9a3be8eeaeeb3130e61a5f90ac0de0843deb367aec0d9e15816fcc1e740e40a8"), looks := false }, kinds := [], alts := [], laidByText := true, laidKinds := [.data, .pinned], laidTests := true, laidLooks := .later }
def RayFirstUptoCardSaid : Prop := Claim7.holds Tryz.pinned (.plain (OpenSpec.upto rayFirstSpec)) rayFirstUptoCard

/-- THE SECOND FORM's CARD OF 'lithophanelaw22.RayKeeps'. -/
def rayKeepsUptoCard : Claim7 := { stood := { row := rayKeepsUptoRow, standIns := [], harness := (true, "9a3be8eeaeeb3130e61a5f90ac0de0843deb367aec0d9e15816fcc1e740e40a8"), looks := false }, kinds := [], alts := [], laidByText := true, laidKinds := [.data, .pinned], laidTests := true, laidLooks := .later }
def RayKeepsUptoCardSaid : Prop := Claim7.holds Tryz.pinned (.plain (OpenSpec.upto rayKeepsSpec)) rayKeepsUptoCard
end Rows
end Go.Proofs.YtefgchmbdijjdaaGreatDoor
