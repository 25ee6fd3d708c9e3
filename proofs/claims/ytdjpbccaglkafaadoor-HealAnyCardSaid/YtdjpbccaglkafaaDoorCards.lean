/-
  DERIVED. GIVEN WITH THE SEED: THE CARDS: each row of YtdjpbccaglkafaaDoorRows.lean that lists a variable, with what it lists TIED to the program's text (the seventh form; the later family's looks); each row that meets fmt, with fmt's text TOLD by the authors' own Lean function (tested against real Go, not proved from fmt's source: count such statements apart). THE CARD IS WHAT COUNTS. Prove the row's statement (the work); the ties are given (YtdjpbccaglkafaaDoorTie.lean); close each card by the builder's one call (the guide's Derived/Test/ToyasCard.lean, 'card_holds'). Laid BY PROGRAM, IN A SANDBOX (cutbox-door.mjs). By AI agents, Wed Nov 11 2026. No macro, syntax, notation, axiom, sorry.
-/
import Derived.Test.YtdjpbccaglkafaaDoorRows
import GoSem.ClaimSeven
namespace Go.Proofs.YtdjpbccaglkafaaDoor
namespace Rows

/-- THE TIED CARD OF 'lithophanelaw05.HealExact'. -/
def healExactCard : Claim7 := { stood := { row := healExactRow, standIns := [], harness := (true, "b7008d86f4b597f2dadefba72f08910ae5e52f1d82c7f532dc342ab075b5c844"), looks := false }, kinds := [], alts := [], laidByText := true, laidKinds := [.data, .pinned], laidTests := true, laidLooks := .later }
def HealExactCardSaid : Prop := Claim7.holds Tryd.pinned (.plain (OpenSpec.ofChange healExactSpec)) healExactCard

/-- THE TIED CARD OF 'lithophanelaw05.HealAny'. -/
def healAnyCard : Claim7 := { stood := { row := healAnyRow, standIns := [], harness := (true, "b7008d86f4b597f2dadefba72f08910ae5e52f1d82c7f532dc342ab075b5c844"), looks := false }, kinds := [], alts := [], laidByText := true, laidKinds := [.data, .pinned], laidTests := true, laidLooks := .later }
def HealAnyCardSaid : Prop := Claim7.holds Tryd.pinned (.plain (OpenSpec.ofChange healAnySpec)) healAnyCard

/-- THE TIED CARD OF 'lithophanelaw05.HealFans'. -/
def healFansCard : Claim7 := { stood := { row := healFansRow, standIns := [], harness := (true, "b7008d86f4b597f2dadefba72f08910ae5e52f1d82c7f532dc342ab075b5c844"), looks := false }, kinds := [], alts := [], laidByText := true, laidKinds := [.data, .pinned], laidTests := true, laidLooks := .later }
def HealFansCardSaid : Prop := Claim7.holds Tryd.pinned (.plain (OpenSpec.ofChange healFansSpec)) healFansCard

/-- THE TIED CARD OF 'lithophanelaw05.HealClean'. -/
def healCleanCard : Claim7 := { stood := { row := healCleanRow, standIns := [], harness := (true, "b7008d86f4b597f2dadefba72f08910ae5e52f1d82c7f532dc342ab075b5c844"), looks := false }, kinds := [], alts := [], laidByText := true, laidKinds := [.data, .pinned], laidTests := true, laidLooks := .later }
def HealCleanCardSaid : Prop := Claim7.holds Tryd.pinned (.plain (OpenSpec.ofChange healCleanSpec)) healCleanCard

/-- THE TIED CARD OF 'lithophanelaw05.HealTurned'. -/
def healTurnedCard : Claim7 := { stood := { row := healTurnedRow, standIns := [], harness := (true, "b7008d86f4b597f2dadefba72f08910ae5e52f1d82c7f532dc342ab075b5c844"), looks := false }, kinds := [], alts := [], laidByText := true, laidKinds := [.data, .pinned], laidTests := true, laidLooks := .later }
def HealTurnedCardSaid : Prop := Claim7.holds Tryd.pinned (.plain (OpenSpec.ofChange healTurnedSpec)) healTurnedCard

/-- THE TIED CARD OF 'lithophanelaw05.HealFlat'. -/
def healFlatCard : Claim7 := { stood := { row := healFlatRow, standIns := [], harness := (true, "b7008d86f4b597f2dadefba72f08910ae5e52f1d82c7f532dc342ab075b5c844"), looks := false }, kinds := [], alts := [], laidByText := true, laidKinds := [.data, .pinned], laidTests := true, laidLooks := .later }
def HealFlatCardSaid : Prop := Claim7.holds Tryd.pinned (.plain (OpenSpec.ofChange healFlatSpec)) healFlatCard

/-- THE TIED CARD OF 'lithophanelaw05.HealOrder'. -/
def healOrderCard : Claim7 := { stood := { row := healOrderRow, standIns := [], harness := (true, "b7008d86f4b597f2dadefba72f08910ae5e52f1d82c7f532dc342ab075b5c844"), looks := false }, kinds := [], alts := [], laidByText := true, laidKinds := [.data, .pinned], laidTests := true, laidLooks := .later }
def HealOrderCardSaid : Prop := Claim7.holds Tryd.pinned (.plain (OpenSpec.ofChange healOrderSpec)) healOrderCard

/-- THE TIED CARD OF 'lithophanelaw05.HealMoved'. -/
def healMovedCard : Claim7 := { stood := { row := healMovedRow, standIns := [], harness := (true, "b7008d86f4b597f2dadefba72f08910ae5e52f1d82c7f532dc342ab075b5c844"), looks := false }, kinds := [], alts := [], laidByText := true, laidKinds := [.data, .pinned], laidTests := true, laidLooks := .later }
def HealMovedCardSaid : Prop := Claim7.holds Tryd.pinned (.plain (OpenSpec.ofChange healMovedSpec)) healMovedCard

/-- THE SECOND FORM's CARD OF 'lithophanelaw05.HealExact'. -/
def healExactUptoCard : Claim7 := { stood := { row := healExactUptoRow, standIns := [], harness := (true, "b7008d86f4b597f2dadefba72f08910ae5e52f1d82c7f532dc342ab075b5c844"), looks := false }, kinds := [], alts := [], laidByText := true, laidKinds := [.data, .pinned], laidTests := true, laidLooks := .later }
def HealExactUptoCardSaid : Prop := Claim7.holds Tryd.pinned (.plain (OpenSpec.upto healExactSpec)) healExactUptoCard

/-- THE SECOND FORM's CARD OF 'lithophanelaw05.HealAny'. -/
def healAnyUptoCard : Claim7 := { stood := { row := healAnyUptoRow, standIns := [], harness := (true, "b7008d86f4b597f2dadefba72f08910ae5e52f1d82c7f532dc342ab075b5c844"), looks := false }, kinds := [], alts := [], laidByText := true, laidKinds := [.data, .pinned], laidTests := true, laidLooks := .later }
def HealAnyUptoCardSaid : Prop := Claim7.holds Tryd.pinned (.plain (OpenSpec.upto healAnySpec)) healAnyUptoCard

/-- THE SECOND FORM's CARD OF 'lithophanelaw05.HealFans'. -/
def healFansUptoCard : Claim7 := { stood := { row := healFansUptoRow, standIns := [], harness := (true, "b7008d86f4b597f2dadefba72f08910ae5e52f1d82c7f532dc342ab075b5c844"), looks := false }, kinds := [], alts := [], laidByText := true, laidKinds := [.data, .pinned], laidTests := true, laidLooks := .later }
def HealFansUptoCardSaid : Prop := Claim7.holds Tryd.pinned (.plain (OpenSpec.upto healFansSpec)) healFansUptoCard

/-- THE SECOND FORM's CARD OF 'lithophanelaw05.HealClean'. -/
def healCleanUptoCard : Claim7 := { stood := { row := healCleanUptoRow, standIns := [], harness := (true, "b7008d86f4b597f2dadefba72f08910ae5e52f1d82c7f532dc342ab075b5c844"), looks := false }, kinds := [], alts := [], laidByText := true, laidKinds := [.data, .pinned], laidTests := true, laidLooks := .later }
def HealCleanUptoCardSaid : Prop := Claim7.holds Tryd.pinned (.plain (OpenSpec.upto healCleanSpec)) healCleanUptoCard

/-- THE SECOND FORM's CARD OF 'lithophanelaw05.HealTurned'. -/
def healTurnedUptoCard : Claim7 := { stood := { row := healTurnedUptoRow, standIns := [], harness := (true, "b7008d86f4b597f2dadefba72f08910ae5e52f1d82c7f532dc342ab075b5c844"), looks := false }, kinds := [], alts := [], laidByText := true, laidKinds := [.data, .pinned], laidTests := true, laidLooks := .later }
def HealTurnedUptoCardSaid : Prop := Claim7.holds Tryd.pinned (.plain (OpenSpec.upto healTurnedSpec)) healTurnedUptoCard

/-- THE SECOND FORM's CARD OF 'lithophanelaw05.HealFlat'. -/
def healFlatUptoCard : Claim7 := { stood := { row := healFlatUptoRow, standIns := [], harness := (true, "b7008d86f4b597f2dadefba72f08910ae5e52f1d82c7f532dc342ab075b5c844"), looks := false }, kinds := [], alts := [], laidByText := true, laidKinds := [.data, .pinned], laidTests := true, laidLooks := .later }
def HealFlatUptoCardSaid : Prop := Claim7.holds Tryd.pinned (.plain (OpenSpec.upto healFlatSpec)) healFlatUptoCard

/-- THE SECOND FORM's CARD OF 'lithophanelaw05.HealOrder'. -/
def healOrderUptoCard : Claim7 := { stood := { row := healOrderUptoRow, standIns := [], harness := (true, "b7008d86f4b597f2dadefba72f08910ae5e52f1d82c7f532dc342ab075b5c844"), looks := false }, kinds := [], alts := [], laidByText := true, laidKinds := [.data, .pinned], laidTests := true, laidLooks := .later }
def HealOrderUptoCardSaid : Prop := Claim7.holds Tryd.pinned (.plain (OpenSpec.upto healOrderSpec)) healOrderUptoCard

/-- THE SECOND FORM's CARD OF 'lithophanelaw05.HealMoved'. -/
def healMovedUptoCard : Claim7 := { stood := { row := healMovedUptoRow, standIns := [], harness := (true, "b7008d86f4b597f2dadefba72f08910ae5e52f1d82c7f532dc342ab075b5c844"), looks := false }, kinds := [], alts := [], laidByText := true, laidKinds := [.data, .pinned], laidTests := true, laidLooks := .later }
def HealMovedUptoCardSaid : Prop := Claim7.holds Tryd.pinned (.plain (OpenSpec.upto healMovedSpec)) healMovedUptoCard
end Rows
end Go.Proofs.YtdjpbccaglkafaaDoor
