/- AnalyseTexts: closed facts of the card, one by one. -/
import Derived.Test.YtcfknlkgnolndaaGreatDoorTzAF
import Derived.SevenTiedAt
set_option linter.unusedVariables false
set_option linter.unusedSimpArgs false
set_option linter.unusedSectionVars false
namespace Go.Proofs.YtcfknlkgnolndaaGreatDoor
open Go.Sh Go.ChangeShapes Go.WideShapes Go.ChangeAt Go.RowKit Go.Shelf
set_option maxRecDepth 100000
theorem card_main : Tryz.prog.mainIs = some (true, "aa760101097e6b564c983772a5e065727eb7dbbfc9471e97f21e253367497a13".toList) := by kernel_rfl
theorem card_wf : Rows.analyseTextsRow.wfByText (OpenSpec.ofChange Rows.analyseTextsSpec) = true := by kernel_rfl
theorem card_stand : ([3, 3, 3, 9, 3, 3].all fun u => !Tryz.prog.wantsStandIn u) = true := by kernel_rfl
end Go.Proofs.YtcfknlkgnolndaaGreatDoor
