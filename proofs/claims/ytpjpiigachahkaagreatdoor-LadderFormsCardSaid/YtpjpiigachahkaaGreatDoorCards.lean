/-
  DERIVED. GIVEN WITH THE SEED: THE CARDS: each row of YtpjpiigachahkaaGreatDoorRows.lean that lists a variable, with what it lists TIED to the program's text (the seventh form; the later family's looks); each row that meets fmt, with fmt's text TOLD by the authors' own Lean function (tested against real Go, not proved from fmt's source: count such statements apart). THE CARD IS WHAT COUNTS. Prove the row's statement (the work); the ties are given (YtpjpiigachahkaaGreatDoorTie.lean); close each card by the builder's one call (the guide's Derived/Test/ToyasCard.lean, 'card_holds'). Laid BY PROGRAM, IN A SANDBOX (cutbox-door.mjs). By AI agents, Wed Nov 11 2026. No macro, syntax, notation, axiom, sorry.
-/
import Derived.Test.YtpjpiigachahkaaGreatDoorRows
import GoSem.ClaimSeven
namespace Go.Proofs.YtpjpiigachahkaaGreatDoor
namespace Rows

/-- THE TIED CARD OF 'lanternlaw17.ConsSame'. -/
def consSameCard : Claim7 := { stood := { row := consSameRow, standIns := [], harness := (true, "84024fc5dd4583f0200a66df708927dde5427f888f47d13860b4e0bc0fc12d16"), looks := true }, kinds := [], alts := [], laidByText := true, laidKinds := [.data, .data, .data, .data, .sentinel, .sentinel, .pinned], laidTests := true, laidLooks := .later }
def ConsSameCardSaid : Prop := Claim7.holds Tryz.pinned (.plain (OpenSpec.ofChange consSameSpec)) consSameCard

/-- THE TIED CARD OF 'lanternlaw22.LadderForms'. -/
def ladderFormsCard : Claim7 := { stood := { row := ladderFormsRow, standIns := [], harness := (true, "84024fc5dd4583f0200a66df708927dde5427f888f47d13860b4e0bc0fc12d16"), looks := true }, kinds := [], alts := [], laidByText := true, laidKinds := [.data, .data, .data, .data, .sentinel, .sentinel, .pinned], laidTests := true, laidLooks := .later }
def LadderFormsCardSaid : Prop := Claim7.holds Tryz.pinned (.plain (OpenSpec.ofChange ladderFormsSpec)) ladderFormsCard

/-- THE SECOND FORM's CARD OF 'lanternlaw17.ConsSame'. -/
def consSameUptoCard : Claim7 := { stood := { row := consSameUptoRow, standIns := [], harness := (true, "84024fc5dd4583f0200a66df708927dde5427f888f47d13860b4e0bc0fc12d16"), looks := true }, kinds := [], alts := [], laidByText := true, laidKinds := [.data, .data, .data, .data, .sentinel, .sentinel, .pinned], laidTests := true, laidLooks := .later }
def ConsSameUptoCardSaid : Prop := Claim7.holds Tryz.pinned (.plain (OpenSpec.upto consSameSpec)) consSameUptoCard

/-- THE SECOND FORM's CARD OF 'lanternlaw22.LadderForms'. -/
def ladderFormsUptoCard : Claim7 := { stood := { row := ladderFormsUptoRow, standIns := [], harness := (true, "84024fc5dd4583f0200a66df708927dde5427f888f47d13860b4e0bc0fc12d16"), looks := true }, kinds := [], alts := [], laidByText := true, laidKinds := [.data, .data, .data, .data, .sentinel, .sentinel, .pinned], laidTests := true, laidLooks := .later }
def LadderFormsUptoCardSaid : Prop := Claim7.holds Tryz.pinned (.plain (OpenSpec.upto ladderFormsSpec)) ladderFormsUptoCard
end Rows
end Go.Proofs.YtpjpiigachahkaaGreatDoor
