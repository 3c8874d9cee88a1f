/-
  DERIVED. GIVEN WITH THE SEED: THE CARDS: each row of YtcfknlkgnolndaaGreatDoorRows.lean that lists a variable, with what it lists TIED to the program's text (the seventh form; the later family's looks); each row that meets fmt, with fmt's text TOLD by the authors' own Lean function (tested against real Go, not proved from fmt's source: count such statements apart). THE CARD IS WHAT COUNTS. Prove the row's statement (the work); the ties are given (YtcfknlkgnolndaaGreatDoorTie.lean); close each card by the builder's one call (the guide's Derived/Test/ToyasCard.lean, 'card_holds'). Laid BY PROGRAM, IN A SANDBOX (cutbox-door.mjs). By AI agents, Wed Nov 11 2026. No macro, syntax, notation, axiom, sorry.
-/
import Derived.Test.YtcfknlkgnolndaaGreatDoorRows
import GoSem.ClaimSeven
namespace Go.Proofs.YtcfknlkgnolndaaGreatDoor
namespace Rows

/-- THE TIED CARD OF 'lanternlaw20.ChaWithin'. -/
def chaWithinCard : Claim7 := { stood := { row := chaWithinRow, standIns := [], harness := (true, "aa760101097e6b564c983772a5e065727eb7dbbfc9471e97f21e253367497a13"), looks := true }, kinds := [], alts := [], laidByText := true, laidKinds := [.data, .data, .data, .data, .sentinel, .sentinel, .pinned], laidTests := true, laidLooks := .later }
def ChaWithinCardSaid : Prop := Claim7.holds Tryz.pinned (.plain (OpenSpec.ofChange chaWithinSpec)) chaWithinCard

/-- THE TIED CARD OF 'lanternlaw22.LadderForms'. -/
def ladderFormsCard : Claim7 := { stood := { row := ladderFormsRow, standIns := [], harness := (true, "aa760101097e6b564c983772a5e065727eb7dbbfc9471e97f21e253367497a13"), looks := true }, kinds := [], alts := [], laidByText := true, laidKinds := [.data, .data, .data, .data, .sentinel, .sentinel, .pinned], laidTests := true, laidLooks := .later }
def LadderFormsCardSaid : Prop := Claim7.holds Tryz.pinned (.plain (OpenSpec.ofChange ladderFormsSpec)) ladderFormsCard

/-- THE TIED CARD OF 'lanternlaw25.AnalyseTexts'. -/
def analyseTextsCard : Claim7 := { stood := { row := analyseTextsRow, standIns := [], harness := (true, "aa760101097e6b564c983772a5e065727eb7dbbfc9471e97f21e253367497a13"), looks := true }, kinds := [], alts := [], laidByText := true, laidKinds := [.data, .data, .data, .data, .sentinel, .sentinel, .pinned], laidTests := true, laidLooks := .later }
def AnalyseTextsCardSaid : Prop := Claim7.holds Tryz.pinned (.plain (OpenSpec.ofChange analyseTextsSpec)) analyseTextsCard

/-- THE TIED CARD OF 'lanternlaw25.AnalyseSteps'. -/
def analyseStepsCard : Claim7 := { stood := { row := analyseStepsRow, standIns := [], harness := (true, "aa760101097e6b564c983772a5e065727eb7dbbfc9471e97f21e253367497a13"), looks := true }, kinds := [], alts := [], laidByText := true, laidKinds := [.data, .data, .data, .data, .sentinel, .sentinel, .pinned], laidTests := true, laidLooks := .later }
def AnalyseStepsCardSaid : Prop := Claim7.holds Tryz.pinned (.plain (OpenSpec.ofChange analyseStepsSpec)) analyseStepsCard

/-- THE SECOND FORM's CARD OF 'lanternlaw20.ChaWithin'. -/
def chaWithinUptoCard : Claim7 := { stood := { row := chaWithinUptoRow, standIns := [], harness := (true, "aa760101097e6b564c983772a5e065727eb7dbbfc9471e97f21e253367497a13"), looks := true }, kinds := [], alts := [], laidByText := true, laidKinds := [.data, .data, .data, .data, .sentinel, .sentinel, .pinned], laidTests := true, laidLooks := .later }
def ChaWithinUptoCardSaid : Prop := Claim7.holds Tryz.pinned (.plain (OpenSpec.upto chaWithinSpec)) chaWithinUptoCard

/-- THE SECOND FORM's CARD OF 'lanternlaw22.LadderForms'. -/
def ladderFormsUptoCard : Claim7 := { stood := { row := ladderFormsUptoRow, standIns := [], harness := (true, "aa760101097e6b564c983772a5e065727eb7dbbfc9471e97f21e253367497a13"), looks := true }, kinds := [], alts := [], laidByText := true, laidKinds := [.data, .data, .data, .data, .sentinel, .sentinel, .pinned], laidTests := true, laidLooks := .later }
def LadderFormsUptoCardSaid : Prop := Claim7.holds Tryz.pinned (.plain (OpenSpec.upto ladderFormsSpec)) ladderFormsUptoCard

/-- THE SECOND FORM's CARD OF 'lanternlaw25.AnalyseTexts'. -/
def analyseTextsUptoCard : Claim7 := { stood := { row := analyseTextsUptoRow, standIns := [], harness := (true, "aa760101097e6b564c983772a5e065727eb7dbbfc9471e97f21e253367497a13"), looks := true }, kinds := [], alts := [], laidByText := true, laidKinds := [.data, .data, .data, .data, .sentinel, .sentinel, .pinned], laidTests := true, laidLooks := .later }
def AnalyseTextsUptoCardSaid : Prop := Claim7.holds Tryz.pinned (.plain (OpenSpec.upto analyseTextsSpec)) analyseTextsUptoCard

/-- THE SECOND FORM's CARD OF 'lanternlaw25.AnalyseSteps'. -/
def analyseStepsUptoCard : Claim7 := { stood := { row := analyseStepsUptoRow, standIns := [], harness := (true, "aa760101097e6b564c983772a5e065727eb7dbbfc9471e97f21e253367497a13"), looks := true }, kinds := [], alts := [], laidByText := true, laidKinds := [.data, .data, .data, .data, .sentinel, .sentinel, .pinned], laidTests := true, laidLooks := .later }
def AnalyseStepsUptoCardSaid : Prop := Claim7.holds Tryz.pinned (.plain (OpenSpec.upto analyseStepsSpec)) analyseStepsUptoCard
end Rows
end Go.Proofs.YtcfknlkgnolndaaGreatDoor
