/-
  DERIVED. GIVEN WITH THE SEED: THE CARDS: each row of YtmooplnklcgfjaaGreatDoorRows.lean that lists a variable, with what it lists TIED to the program's text (the seventh form; the later family's looks); each row that meets fmt, with fmt's text TOLD by the authors' own Lean function (tested against real Go, not proved from fmt's source: count such statements apart). THE CARD IS WHAT COUNTS. Prove the row's statement (the work); the ties are given (YtmooplnklcgfjaaGreatDoorTie.lean); close each card by the builder's one call (the guide's Derived/Test/ToyasCard.lean, 'card_holds'). Laid BY PROGRAM, IN A SANDBOX (cutbox-door.mjs). By AI agents, Wed Nov 11 2026. No macro, syntax, notation, axiom, sorry.
-/
import Derived.Test.YtmooplnklcgfjaaGreatDoorRows
import GoSem.ClaimSeven
namespace Go.Proofs.YtmooplnklcgfjaaGreatDoor
namespace Rows

/-- THE TIED CARD OF 'lithophanelaw02.ExactMeets'. -/
def exactMeetsCard : Claim7 := { stood := { row := exactMeetsRow, standIns := [], harness := (true, "3e86aa7f77f43c327bfb34979c60654cebf9105fe952456b2c8b6439cbccb314"), looks := false }, kinds := [], alts := [], laidByText := true, laidKinds := [.data, .pinned], laidTests := true, laidLooks := .later }
def ExactMeetsCardSaid : Prop := Claim7.holds Tryz.pinned (.plain (OpenSpec.ofChange exactMeetsSpec)) exactMeetsCard

/-- THE TIED CARD OF 'lithophanelaw02.ExactShared'. -/
def exactSharedCard : Claim7 := { stood := { row := exactSharedRow, standIns := [], harness := (true, "3e86aa7f77f43c327bfb34979c60654cebf9105fe952456b2c8b6439cbccb314"), looks := false }, kinds := [], alts := [], laidByText := true, laidKinds := [.data, .pinned], laidTests := true, laidLooks := .later }
def ExactSharedCardSaid : Prop := Claim7.holds Tryz.pinned (.plain (OpenSpec.ofChange exactSharedSpec)) exactSharedCard

/-- THE TIED CARD OF 'lithophanelaw02.ExactPoints'. -/
def exactPointsCard : Claim7 := { stood := { row := exactPointsRow, standIns := [], harness := (true, "3e86aa7f77f43c327bfb34979c60654cebf9105fe952456b2c8b6439cbccb314"), looks := false }, kinds := [], alts := [], laidByText := true, laidKinds := [.data, .pinned], laidTests := true, laidLooks := .later }
def ExactPointsCardSaid : Prop := Claim7.holds Tryz.pinned (.plain (OpenSpec.ofChange exactPointsSpec)) exactPointsCard

/-- THE TIED CARD OF 'lithophanelaw02.ExactGrid'. -/
def exactGridCard : Claim7 := { stood := { row := exactGridRow, standIns := [], harness := (true, "3e86aa7f77f43c327bfb34979c60654cebf9105fe952456b2c8b6439cbccb314"), looks := false }, kinds := [], alts := [], laidByText := true, laidKinds := [.data, .pinned], laidTests := true, laidLooks := .later }
def ExactGridCardSaid : Prop := Claim7.holds Tryz.pinned (.plain (OpenSpec.ofChange exactGridSpec)) exactGridCard

/-- THE SECOND FORM's CARD OF 'lithophanelaw02.ExactMeets'. -/
def exactMeetsUptoCard : Claim7 := { stood := { row := exactMeetsUptoRow, standIns := [], harness := (true, "3e86aa7f77f43c327bfb34979c60654cebf9105fe952456b2c8b6439cbccb314"), looks := false }, kinds := [], alts := [], laidByText := true, laidKinds := [.data, .pinned], laidTests := true, laidLooks := .later }
def ExactMeetsUptoCardSaid : Prop := Claim7.holds Tryz.pinned (.plain (OpenSpec.upto exactMeetsSpec)) exactMeetsUptoCard

/-- THE SECOND FORM's CARD OF 'lithophanelaw02.ExactShared'. -/
def exactSharedUptoCard : Claim7 := { stood := { row := exactSharedUptoRow, standIns := [], harness := (true, "3e86aa7f77f43c327bfb34979c60654cebf9105fe952456b2c8b6439cbccb314"), looks := false }, kinds := [], alts := [], laidByText := true, laidKinds := [.data, .pinned], laidTests := true, laidLooks := .later }
def ExactSharedUptoCardSaid : Prop := Claim7.holds Tryz.pinned (.plain (OpenSpec.upto exactSharedSpec)) exactSharedUptoCard

/-- THE SECOND FORM's CARD OF 'lithophanelaw02.ExactPoints'. -/
def exactPointsUptoCard : Claim7 := { stood := { row := exactPointsUptoRow, standIns := [], harness := (true, "3e86aa7f77f43c327bfb34979c60654cebf9105fe952456b2c8b6439cbccb314"), looks := false }, kinds := [], alts := [], laidByText := true, laidKinds := [.data, .pinned], laidTests := true, laidLooks := .later }
def ExactPointsUptoCardSaid : Prop := Claim7.holds Tryz.pinned (.plain (OpenSpec.upto exactPointsSpec)) exactPointsUptoCard

/-- THE SECOND FORM's CARD OF 'lithophanelaw02.ExactGrid'. -/
def exactGridUptoCard : Claim7 := { stood := { row := exactGridUptoRow, standIns := [], harness := (true, "3e86aa7f77f43c327bfb34979c60654cebf9105fe952456b2c8b6439cbccb314"), looks := false }, kinds := [], alts := [], laidByText := true, laidKinds := [.data, .pinned], laidTests := true, laidLooks := .later }
def ExactGridUptoCardSaid : Prop := Claim7.holds Tryz.pinned (.plain (OpenSpec.upto exactGridSpec)) exactGridUptoCard
end Rows
end Go.Proofs.YtmooplnklcgfjaaGreatDoor
