/-
  DERIVED. GIVEN WITH THE SEED: THE CARDS: each row of YtbmeldgbmlfmgaaGreatDoorRows.lean that lists a variable, with what it lists TIED to the program's text (the seventh form; the later family's looks); each row that meets fmt, with fmt's text TOLD by the authors' own Lean function (tested against real Go, not proved from fmt's source: count such statements apart). THE CARD IS WHAT COUNTS. Prove the row's statement (the work); the ties are given (YtbmeldgbmlfmgaaGreatDoorTie.lean); close each card by the builder's one call (the guide's Derived/Test/ToyasCard.lean, 'card_holds'). Laid BY PROGRAM, IN A SANDBOX (cutbox-door.mjs). By AI agents, Wed Nov 11 2026. No macro, syntax, notation, axiom, sorry.
-/
import Derived.Test.YtbmeldgbmlfmgaaGreatDoorRows
import GoSem.ClaimSeven
namespace Go.Proofs.YtbmeldgbmlfmgaaGreatDoor
namespace Rows

/-- THE TIED CARD OF 'lanternlaw13.RegirTexts'. -/
def regirTextsCard : Claim7 := { stood := { row := regirTextsRow, standIns := [], harness := (true, "ec8c6acfc53a2701fc9c95d6c8bba2681bd148ae6591b8d86b1038650d29c780"), looks := true }, kinds := [], alts := [], laidByText := true, laidKinds := [.data, .data, .data, .data, .sentinel, .sentinel, .pinned], laidTests := true, laidLooks := .later }
def RegirTextsCardSaid : Prop := Claim7.holds Tryz.pinned (.plain (OpenSpec.ofChange regirTextsSpec)) regirTextsCard

/-- THE SECOND FORM's CARD OF 'lanternlaw13.RegirTexts'. -/
def regirTextsUptoCard : Claim7 := { stood := { row := regirTextsUptoRow, standIns := [], harness := (true, "ec8c6acfc53a2701fc9c95d6c8bba2681bd148ae6591b8d86b1038650d29c780"), looks := true }, kinds := [], alts := [], laidByText := true, laidKinds := [.data, .data, .data, .data, .sentinel, .sentinel, .pinned], laidTests := true, laidLooks := .later }
def RegirTextsUptoCardSaid : Prop := Claim7.holds Tryz.pinned (.plain (OpenSpec.upto regirTextsSpec)) regirTextsUptoCard
end Rows
end Go.Proofs.YtbmeldgbmlfmgaaGreatDoor
