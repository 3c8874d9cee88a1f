/-
  DERIVED. GIVEN WITH THE SEED: THE CARDS: each row of YtflmnikjipdhkaaGreatDoorRows.lean that lists a variable, with what it lists TIED to the program's text (the seventh form; the later family's looks); each row that meets fmt, with fmt's text TOLD by the authors' own Lean function (tested against real Go, not proved from fmt's source: count such statements apart). THE CARD IS WHAT COUNTS. Prove the row's statement (the work); the ties are given (YtflmnikjipdhkaaGreatDoorTie.lean); close each card by the builder's one call (the guide's Derived/Test/ToyasCard.lean, 'card_holds'). Laid BY PROGRAM, IN A SANDBOX (cutbox-door.mjs). By AI agents, Wed Nov 11 2026. No macro, syntax, notation, axiom, sorry.
-/
import Derived.Test.YtflmnikjipdhkaaGreatDoorRows
import GoSem.ClaimSeven
namespace Go.Proofs.YtflmnikjipdhkaaGreatDoor
namespace Rows

/-- THE TIED CARD OF 'lanternlaw18.SolveFields'. -/
def solveFieldsCard : Claim7 := { stood := { row := solveFieldsRow, standIns := [], harness := (true, "cef0be740e3b27318c26b9fa094add41e73477ee6d6228d6e7e5ea2822bdfcae"), looks := true }, kinds := [], alts := [], laidByText := true, laidKinds := [.data, .data, .data, .data, .sentinel, .sentinel, .pinned], laidTests := true, laidLooks := .later }
def SolveFieldsCardSaid : Prop := Claim7.holds Tryz.pinned (.plain (OpenSpec.ofChange solveFieldsSpec)) solveFieldsCard

/-- THE TIED CARD OF 'lanternlaw18.SolveArrays'. -/
def solveArraysCard : Claim7 := { stood := { row := solveArraysRow, standIns := [], harness := (true, "cef0be740e3b27318c26b9fa094add41e73477ee6d6228d6e7e5ea2822bdfcae"), looks := true }, kinds := [], alts := [], laidByText := true, laidKinds := [.data, .data, .data, .data, .sentinel, .sentinel, .pinned], laidTests := true, laidLooks := .later }
def SolveArraysCardSaid : Prop := Claim7.holds Tryz.pinned (.plain (OpenSpec.ofChange solveArraysSpec)) solveArraysCard

/-- THE SECOND FORM's CARD OF 'lanternlaw18.SolveFields'. -/
def solveFieldsUptoCard : Claim7 := { stood := { row := solveFieldsUptoRow, standIns := [], harness := (true, "cef0be740e3b27318c26b9fa094add41e73477ee6d6228d6e7e5ea2822bdfcae"), looks := true }, kinds := [], alts := [], laidByText := true, laidKinds := [.data, .data, .data, .data, .sentinel, .sentinel, .pinned], laidTests := true, laidLooks := .later }
def SolveFieldsUptoCardSaid : Prop := Claim7.holds Tryz.pinned (.plain (OpenSpec.upto solveFieldsSpec)) solveFieldsUptoCard

/-- THE SECOND FORM's CARD OF 'lanternlaw18.SolveArrays'. -/
def solveArraysUptoCard : Claim7 := { stood := { row := solveArraysUptoRow, standIns := [], harness := (true, "cef0be740e3b27318c26b9fa094add41e73477ee6d6228d6e7e5ea2822bdfcae"), looks := true }, kinds := [], alts := [], laidByText := true, laidKinds := [.data, .data, .data, .data, .sentinel, .sentinel, .pinned], laidTests := true, laidLooks := .later }
def SolveArraysUptoCardSaid : Prop := Claim7.holds Tryz.pinned (.plain (OpenSpec.upto solveArraysSpec)) solveArraysUptoCard
end Rows
end Go.Proofs.YtflmnikjipdhkaaGreatDoor
