/- AnalyseSteps: closed facts of the row and of the card, one by one. -/
import Derived.Test.YtcfknlkgnolndaaGreatDoorTzSE
import Derived.JoinedOf
import Derived.SevenTiedAt
set_option linter.unusedVariables false
set_option linter.unusedSimpArgs false
set_option linter.unusedSectionVars false
namespace Go.Proofs.YtcfknlkgnolndaaGreatDoor
open Go.Sh Go.ChangeShapes Go.WideShapes Go.ChangeAt Go.RowKit Go.Shelf
set_option maxRecDepth 100000
attribute [local instance] powHeld
theorem card_main : Tryz.prog.mainIs = some (true, "aa760101097e6b564c983772a5e065727eb7dbbfc9471e97f21e253367497a13".toList) := by kernel_rfl
theorem card_wf : Rows.analyseStepsRow.wfByText (OpenSpec.ofChange Rows.analyseStepsSpec) = true := by kernel_rfl
theorem card_stand : (!Tryz.prog.wantsStandIn 4) = true := by kernel_rfl
end Go.Proofs.YtcfknlkgnolndaaGreatDoor
