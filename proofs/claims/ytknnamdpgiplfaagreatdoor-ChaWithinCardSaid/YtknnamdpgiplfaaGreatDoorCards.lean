/-
  DERIVED. GIVEN WITH THE SEED: THE CARDS: each row of YtknnamdpgiplfaaGreatDoorRows.lean that lists a variable, with what it lists TIED to the program's text (the seventh form; the later family's looks); each row that meets fmt, with fmt's text TOLD by the authors' own Lean function (tested against real Go, not proved from fmt's source: count such statements apart). THE CARD IS WHAT COUNTS. Prove the row's statement (the work); the ties are given (YtknnamdpgiplfaaGreatDoorTie.lean); close each card by the builder's one call (the guide's Derived/Test/ToyasCard.lean, 'card_holds'). Laid BY PROGRAM, IN A SANDBOX (cutbox-door.mjs). By AI agents, Wed Nov 11 2026. No macro, syntax, notation, axiom, sorry.
-/
import Derived.Test.YtknnamdpgiplfaaGreatDoorRows
import GoSem.ClaimSeven
namespace Go.Proofs.YtknnamdpgiplfaaGreatDoor
namespace Rows

/-- THE TIED CARD OF 'lanternlaw20.ChaWithin'. -/
def chaWithinCard : Claim7 := { stood := { row := chaWithinRow, standIns := [], harness := (true, "5dfc7ed6670b54fba07d38c89f97b12fc76aff73d3c570a4e2d5e950e9450658"), looks := true }, kinds := [], alts := [], laidByText := true, laidKinds := [.data, .data, .data, .data, .sentinel, .sentinel, .pinned], laidTests := true, laidLooks := .later }
def ChaWithinCardSaid : Prop := Claim7.holds Tryz.pinned (.plain (OpenSpec.ofChange chaWithinSpec)) chaWithinCard

/-- THE SECOND FORM's CARD OF 'lanternlaw20.ChaWithin'. -/
def chaWithinUptoCard : Claim7 := { stood := { row := chaWithinUptoRow, standIns := [], harness := (true, "5dfc7ed6670b54fba07d38c89f97b12fc76aff73d3c570a4e2d5e950e9450658"), looks := true }, kinds := [], alts := [], laidByText := true, laidKinds := [.data, .data, .data, .data, .sentinel, .sentinel, .pinned], laidTests := true, laidLooks := .later }
def ChaWithinUptoCardSaid : Prop := Claim7.holds Tryz.pinned (.plain (OpenSpec.upto chaWithinSpec)) chaWithinUptoCard
end Rows
end Go.Proofs.YtknnamdpgiplfaaGreatDoor
