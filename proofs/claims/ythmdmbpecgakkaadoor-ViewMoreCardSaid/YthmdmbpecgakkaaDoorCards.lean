/-
  DERIVED. GIVEN WITH THE SEED: THE CARDS: each row of YthmdmbpecgakkaaDoorRows.lean that lists a variable, with what it lists TIED to the program's text (the seventh form; the later family's looks); each row that meets fmt, with fmt's text TOLD by the authors' own Lean function (tested against real Go, not proved from fmt's source: count such statements apart). THE CARD IS WHAT COUNTS. Prove the row's statement (the work); the ties are given (YthmdmbpecgakkaaDoorTie.lean); close each card by the builder's one call (the guide's Derived/Test/ToyasCard.lean, 'card_holds'). Laid BY PROGRAM, IN A SANDBOX (cutbox-door.mjs). By AI agents, Wed Nov 11 2026. No macro, syntax, notation, axiom, sorry.
-/
import Derived.Test.YthmdmbpecgakkaaDoorRows
import GoSem.ClaimSeven
namespace Go.Proofs.YthmdmbpecgakkaaDoor
namespace Rows

/-- THE TIED CARD OF 'lithophanelaw24.ViewFits'. -/
def viewFitsCard : Claim7 := { stood := { row := viewFitsRow, standIns := [], harness := (true, "e641d3e620d2b511089d7a786f9b5fdadfd27b093520904a4c31a40b1fd51229"), looks := false }, kinds := [], alts := [], laidByText := true, laidKinds := [.data, .pinned], laidTests := true, laidLooks := .later }
def ViewFitsCardSaid : Prop := Claim7.holds Tryd.pinned (.plain (OpenSpec.ofChange viewFitsSpec)) viewFitsCard

/-- THE TIED CARD OF 'lithophanelaw24.ViewEdges'. -/
def viewEdgesCard : Claim7 := { stood := { row := viewEdgesRow, standIns := [], harness := (true, "e641d3e620d2b511089d7a786f9b5fdadfd27b093520904a4c31a40b1fd51229"), looks := false }, kinds := [], alts := [], laidByText := true, laidKinds := [.data, .pinned], laidTests := true, laidLooks := .later }
def ViewEdgesCardSaid : Prop := Claim7.holds Tryd.pinned (.plain (OpenSpec.ofChange viewEdgesSpec)) viewEdgesCard

/-- THE TIED CARD OF 'lithophanelaw24.ViewMore'. -/
def viewMoreCard : Claim7 := { stood := { row := viewMoreRow, standIns := [], harness := (true, "e641d3e620d2b511089d7a786f9b5fdadfd27b093520904a4c31a40b1fd51229"), looks := false }, kinds := [], alts := [], laidByText := true, laidKinds := [.data, .pinned], laidTests := true, laidLooks := .later }
def ViewMoreCardSaid : Prop := Claim7.holds Tryd.pinned (.plain (OpenSpec.ofChange viewMoreSpec)) viewMoreCard

/-- THE SECOND FORM's CARD OF 'lithophanelaw24.ViewFits'. -/
def viewFitsUptoCard : Claim7 := { stood := { row := viewFitsUptoRow, standIns := [], harness := (true, "e641d3e620d2b511089d7a786f9b5fdadfd27b093520904a4c31a40b1fd51229"), looks := false }, kinds := [], alts := [], laidByText := true, laidKinds := [.data, .pinned], laidTests := true, laidLooks := .later }
def ViewFitsUptoCardSaid : Prop := Claim7.holds Tryd.pinned (.plain (OpenSpec.upto viewFitsSpec)) viewFitsUptoCard

/-- THE SECOND FORM's CARD OF 'lithophanelaw24.ViewEdges'. -/
def viewEdgesUptoCard : Claim7 := { stood := { row := viewEdgesUptoRow, standIns := [], harness := (true, "e641d3e620d2b511089d7a786f9b5fdadfd27b093520904a4c31a40b1fd51229"), looks := false }, kinds := [], alts := [], laidByText := true, laidKinds := [.data, .pinned], laidTests := true, laidLooks := .later }
def ViewEdgesUptoCardSaid : Prop := Claim7.holds Tryd.pinned (.plain (OpenSpec.upto viewEdgesSpec)) viewEdgesUptoCard

/-- THE SECOND FORM's CARD OF 'lithophanelaw24.ViewMore'. -/
def viewMoreUptoCard : Claim7 := { stood := { row := viewMoreUptoRow, standIns := [], harness := (true, "e641d3e620d2b511089d7a786f9b5fdadfd27b093520904a4c31a40b1fd51229"), looks := false }, kinds := [], alts := [], laidByText := true, laidKinds := [.data, .pinned], laidTests := true, laidLooks := .later }
def ViewMoreUptoCardSaid : Prop := Claim7.holds Tryd.pinned (.plain (OpenSpec.upto viewMoreSpec)) viewMoreUptoCard
end Rows
end Go.Proofs.YthmdmbpecgakkaaDoor
