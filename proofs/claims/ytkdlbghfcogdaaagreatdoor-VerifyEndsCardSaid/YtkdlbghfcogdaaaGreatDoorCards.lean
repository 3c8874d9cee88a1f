/-
  DERIVED. GIVEN WITH THE SEED: THE CARDS: each row of YtkdlbghfcogdaaaGreatDoorRows.lean that lists a variable, with what it lists TIED to the program's text (the seventh form; the later family's looks); each row that meets fmt, with fmt's text TOLD by the authors' own Lean function (tested against real Go, not proved from fmt's source: count such statements apart). THE CARD IS WHAT COUNTS. Prove the row's statement (the work); the ties are given (YtkdlbghfcogdaaaGreatDoorTie.lean); close each card by the builder's one call (the guide's Derived/Test/ToyasCard.lean, 'card_holds'). Laid BY PROGRAM, IN A SANDBOX (cutbox-door.mjs). By AI agents, Wed Nov 11 2026. No macro, syntax, notation, axiom, sorry.
-/
import Derived.Test.YtkdlbghfcogdaaaGreatDoorRows
import GoSem.ClaimSeven
namespace Go.Proofs.YtkdlbghfcogdaaaGreatDoor
namespace Rows

/-- THE TIED CARD OF 'lanternlaw13.RegirTexts'. -/
def regirTextsCard : Claim7 := { stood := { row := regirTextsRow, standIns := [], harness := (true, "d9373d95d6966d2b6ded0317d6a7f62ac1329804d9fe9ab5564335cba9b0f8c0"), looks := true }, kinds := [], alts := [], laidByText := true, laidKinds := [.data, .data, .data, .data, .sentinel, .sentinel, .pinned], laidTests := true, laidLooks := .later }
def RegirTextsCardSaid : Prop := Claim7.holds Tryz.pinned (.plain (OpenSpec.ofChange regirTextsSpec)) regirTextsCard

/-- THE TIED CARD OF 'lanternlaw12.VerifyMade'. -/
def verifyMadeCard : Claim7 := { stood := { row := verifyMadeRow, standIns := [], harness := (true, "d9373d95d6966d2b6ded0317d6a7f62ac1329804d9fe9ab5564335cba9b0f8c0"), looks := true }, kinds := [], alts := [], laidByText := true, laidKinds := [.data, .data, .data, .data, .sentinel, .sentinel, .pinned], laidTests := true, laidLooks := .later }
def VerifyMadeCardSaid : Prop := Claim7.holds Tryz.pinned (.plain (OpenSpec.ofChange verifyMadeSpec)) verifyMadeCard

/-- THE TIED CARD OF 'lanternlaw12.VerifyMeets'. -/
def verifyMeetsCard : Claim7 := { stood := { row := verifyMeetsRow, standIns := [], harness := (true, "d9373d95d6966d2b6ded0317d6a7f62ac1329804d9fe9ab5564335cba9b0f8c0"), looks := true }, kinds := [], alts := [], laidByText := true, laidKinds := [.data, .data, .data, .data, .sentinel, .sentinel, .pinned], laidTests := true, laidLooks := .later }
def VerifyMeetsCardSaid : Prop := Claim7.holds Tryz.pinned (.plain (OpenSpec.ofChange verifyMeetsSpec)) verifyMeetsCard

/-- THE TIED CARD OF 'lanternlaw12.VerifyEnds'. -/
def verifyEndsCard : Claim7 := { stood := { row := verifyEndsRow, standIns := [], harness := (true, "d9373d95d6966d2b6ded0317d6a7f62ac1329804d9fe9ab5564335cba9b0f8c0"), looks := true }, kinds := [], alts := [], laidByText := true, laidKinds := [.data, .data, .data, .data, .sentinel, .sentinel, .pinned], laidTests := true, laidLooks := .later }
def VerifyEndsCardSaid : Prop := Claim7.holds Tryz.pinned (.plain (OpenSpec.ofChange verifyEndsSpec)) verifyEndsCard

/-- THE SECOND FORM's CARD OF 'lanternlaw13.RegirTexts'. -/
def regirTextsUptoCard : Claim7 := { stood := { row := regirTextsUptoRow, standIns := [], harness := (true, "d9373d95d6966d2b6ded0317d6a7f62ac1329804d9fe9ab5564335cba9b0f8c0"), looks := true }, kinds := [], alts := [], laidByText := true, laidKinds := [.data, .data, .data, .data, .sentinel, .sentinel, .pinned], laidTests := true, laidLooks := .later }
def RegirTextsUptoCardSaid : Prop := Claim7.holds Tryz.pinned (.plain (OpenSpec.upto regirTextsSpec)) regirTextsUptoCard

/-- THE SECOND FORM's CARD OF 'lanternlaw12.VerifyMade'. -/
def verifyMadeUptoCard : Claim7 := { stood := { row := verifyMadeUptoRow, standIns := [], harness := (true, "d9373d95d6966d2b6ded0317d6a7f62ac1329804d9fe9ab5564335cba9b0f8c0"), looks := true }, kinds := [], alts := [], laidByText := true, laidKinds := [.data, .data, .data, .data, .sentinel, .sentinel, .pinned], laidTests := true, laidLooks := .later }
def VerifyMadeUptoCardSaid : Prop := Claim7.holds Tryz.pinned (.plain (OpenSpec.upto verifyMadeSpec)) verifyMadeUptoCard

/-- THE SECOND FORM's CARD OF 'lanternlaw12.VerifyMeets'. -/
def verifyMeetsUptoCard : Claim7 := { stood := { row := verifyMeetsUptoRow, standIns := [], harness := (true, "d9373d95d6966d2b6ded0317d6a7f62ac1329804d9fe9ab5564335cba9b0f8c0"), looks := true }, kinds := [], alts := [], laidByText := true, laidKinds := [.data, .data, .data, .data, .sentinel, .sentinel, .pinned], laidTests := true, laidLooks := .later }
def VerifyMeetsUptoCardSaid : Prop := Claim7.holds Tryz.pinned (.plain (OpenSpec.upto verifyMeetsSpec)) verifyMeetsUptoCard

/-- THE SECOND FORM's CARD OF 'lanternlaw12.VerifyEnds'. -/
def verifyEndsUptoCard : Claim7 := { stood := { row := verifyEndsUptoRow, standIns := [], harness := (true, "d9373d95d6966d2b6ded0317d6a7f62ac1329804d9fe9ab5564335cba9b0f8c0"), looks := true }, kinds := [], alts := [], laidByText := true, laidKinds := [.data, .data, .data, .data, .sentinel, .sentinel, .pinned], laidTests := true, laidLooks := .later }
def VerifyEndsUptoCardSaid : Prop := Claim7.holds Tryz.pinned (.plain (OpenSpec.upto verifyEndsSpec)) verifyEndsUptoCard
end Rows
end Go.Proofs.YtkdlbghfcogdaaaGreatDoor
