/-
  DERIVED. GIVEN WITH THE SEED: THE CARDS: each row of YtmooplnklcgfjaaDoorRows.lean that lists a variable, with what it lists TIED to the program's text (the seventh form; the later family's looks); each row that meets fmt, with fmt's text TOLD by the authors' own Lean function (tested against real Go, not proved from fmt's source: count such statements apart). THE CARD IS WHAT COUNTS. Prove the row's statement (the work); the ties are given (YtmooplnklcgfjaaDoorTie.lean); close each card by the builder's one call (the guide's Derived/Test/ToyasCard.lean, 'card_holds'). Laid BY PROGRAM, IN A SANDBOX (cutbox-door.mjs). By AI agents, Wed Nov 11 2026. No macro, syntax, notation, axiom, sorry.
-/
import Derived.Test.YtmooplnklcgfjaaDoorRows
import GoSem.ClaimSeven
namespace Go.Proofs.YtmooplnklcgfjaaDoor
namespace Rows

/-- THE TIED CARD OF 'lithophanelaw02.ExactTouches'. -/
def exactTouchesCard : Claim7 := { stood := { row := exactTouchesRow, standIns := [], harness := (true, "ca435a53be29f3c000ac6b8cdc99581d39aadfb54d9d13ff04f5b402ecc472e8"), looks := false }, kinds := [], alts := [], laidByText := true, laidKinds := [.data, .pinned], laidTests := true, laidLooks := .later }
def ExactTouchesCardSaid : Prop := Claim7.holds Tryd.pinned (.plain (OpenSpec.ofChange exactTouchesSpec)) exactTouchesCard

/-- THE TIED CARD OF 'lithophanelaw02.ExactOrders'. -/
def exactOrdersCard : Claim7 := { stood := { row := exactOrdersRow, standIns := [], harness := (true, "ca435a53be29f3c000ac6b8cdc99581d39aadfb54d9d13ff04f5b402ecc472e8"), looks := false }, kinds := [], alts := [], laidByText := true, laidKinds := [.data, .pinned], laidTests := true, laidLooks := .later }
def ExactOrdersCardSaid : Prop := Claim7.holds Tryd.pinned (.plain (OpenSpec.ofChange exactOrdersSpec)) exactOrdersCard

/-- THE TIED CARD OF 'lithophanelaw02.ExactInside'. -/
def exactInsideCard : Claim7 := { stood := { row := exactInsideRow, standIns := [], harness := (true, "ca435a53be29f3c000ac6b8cdc99581d39aadfb54d9d13ff04f5b402ecc472e8"), looks := false }, kinds := [], alts := [], laidByText := true, laidKinds := [.data, .pinned], laidTests := true, laidLooks := .later }
def ExactInsideCardSaid : Prop := Claim7.holds Tryd.pinned (.plain (OpenSpec.ofChange exactInsideSpec)) exactInsideCard

/-- THE TIED CARD OF 'lithophanelaw02.ExactMoved'. -/
def exactMovedCard : Claim7 := { stood := { row := exactMovedRow, standIns := [], harness := (true, "ca435a53be29f3c000ac6b8cdc99581d39aadfb54d9d13ff04f5b402ecc472e8"), looks := false }, kinds := [], alts := [], laidByText := true, laidKinds := [.data, .pinned], laidTests := true, laidLooks := .later }
def ExactMovedCardSaid : Prop := Claim7.holds Tryd.pinned (.plain (OpenSpec.ofChange exactMovedSpec)) exactMovedCard

/-- THE TIED CARD OF 'lithophanelaw02.ExactNormals'. -/
def exactNormalsCard : Claim7 := { stood := { row := exactNormalsRow, standIns := [], harness := (true, "ca435a53be29f3c000ac6b8cdc99581d39aadfb54d9d13ff04f5b402ecc472e8"), looks := false }, kinds := [], alts := [], laidByText := true, laidKinds := [.data, .pinned], laidTests := true, laidLooks := .later }
def ExactNormalsCardSaid : Prop := Claim7.holds Tryd.pinned (.plain (OpenSpec.ofChange exactNormalsSpec)) exactNormalsCard

/-- THE TIED CARD OF 'lithophanelaw02.ExactDistances'. -/
def exactDistancesCard : Claim7 := { stood := { row := exactDistancesRow, standIns := [], harness := (true, "ca435a53be29f3c000ac6b8cdc99581d39aadfb54d9d13ff04f5b402ecc472e8"), looks := false }, kinds := [], alts := [], laidByText := true, laidKinds := [.data, .pinned], laidTests := true, laidLooks := .later }
def ExactDistancesCardSaid : Prop := Claim7.holds Tryd.pinned (.plain (OpenSpec.ofChange exactDistancesSpec)) exactDistancesCard

/-- THE SECOND FORM's CARD OF 'lithophanelaw02.ExactTouches'. -/
def exactTouchesUptoCard : Claim7 := { stood := { row := exactTouchesUptoRow, standIns := [], harness := (true, "ca435a53be29f3c000ac6b8cdc99581d39aadfb54d9d13ff04f5b402ecc472e8"), looks := false }, kinds := [], alts := [], laidByText := true, laidKinds := [.data, .pinned], laidTests := true, laidLooks := .later }
def ExactTouchesUptoCardSaid : Prop := Claim7.holds Tryd.pinned (.plain (OpenSpec.upto exactTouchesSpec)) exactTouchesUptoCard

/-- THE SECOND FORM's CARD OF 'lithophanelaw02.ExactOrders'. -/
def exactOrdersUptoCard : Claim7 := { stood := { row := exactOrdersUptoRow, standIns := [], harness := (true, "ca435a53be29f3c000ac6b8cdc99581d39aadfb54d9d13ff04f5b402ecc472e8"), looks := false }, kinds := [], alts := [], laidByText := true, laidKinds := [.data, .pinned], laidTests := true, laidLooks := .later }
def ExactOrdersUptoCardSaid : Prop := Claim7.holds Tryd.pinned (.plain (OpenSpec.upto exactOrdersSpec)) exactOrdersUptoCard

/-- THE SECOND FORM's CARD OF 'lithophanelaw02.ExactInside'. -/
def exactInsideUptoCard : Claim7 := { stood := { row := exactInsideUptoRow, standIns := [], harness := (true, "ca435a53be29f3c000ac6b8cdc99581d39aadfb54d9d13ff04f5b402ecc472e8"), looks := false }, kinds := [], alts := [], laidByText := true, laidKinds := [.data, .pinned], laidTests := true, laidLooks := .later }
def ExactInsideUptoCardSaid : Prop := Claim7.holds Tryd.pinned (.plain (OpenSpec.upto exactInsideSpec)) exactInsideUptoCard

/-- THE SECOND FORM's CARD OF 'lithophanelaw02.ExactMoved'. -/
def exactMovedUptoCard : Claim7 := { stood := { row := exactMovedUptoRow, standIns := [], harness := (true, "ca435a53be29f3c000ac6b8cdc99581d39aadfb54d9d13ff04f5b402ecc472e8"), looks := false }, kinds := [], alts := [], laidByText := true, laidKinds := [.data, .pinned], laidTests := true, laidLooks := .later }
def ExactMovedUptoCardSaid : Prop := Claim7.holds Tryd.pinned (.plain (OpenSpec.upto exactMovedSpec)) exactMovedUptoCard

/-- THE SECOND FORM's CARD OF 'lithophanelaw02.ExactNormals'. -/
def exactNormalsUptoCard : Claim7 := { stood := { row := exactNormalsUptoRow, standIns := [], harness := (true, "ca435a53be29f3c000ac6b8cdc99581d39aadfb54d9d13ff04f5b402ecc472e8"), looks := false }, kinds := [], alts := [], laidByText := true, laidKinds := [.data, .pinned], laidTests := true, laidLooks := .later }
def ExactNormalsUptoCardSaid : Prop := Claim7.holds Tryd.pinned (.plain (OpenSpec.upto exactNormalsSpec)) exactNormalsUptoCard

/-- THE SECOND FORM's CARD OF 'lithophanelaw02.ExactDistances'. -/
def exactDistancesUptoCard : Claim7 := { stood := { row := exactDistancesUptoRow, standIns := [], harness := (true, "ca435a53be29f3c000ac6b8cdc99581d39aadfb54d9d13ff04f5b402ecc472e8"), looks := false }, kinds := [], alts := [], laidByText := true, laidKinds := [.data, .pinned], laidTests := true, laidLooks := .later }
def ExactDistancesUptoCardSaid : Prop := Claim7.holds Tryd.pinned (.plain (OpenSpec.upto exactDistancesSpec)) exactDistancesUptoCard
end Rows
end Go.Proofs.YtmooplnklcgfjaaDoor
