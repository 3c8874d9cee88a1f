/- ChaWithin: closed facts of the row and of the card, one by one. -/
import Derived.Test.YtknnamdpgiplfaaGreatDoorTzCY
import Derived.JoinedOf
import Derived.SevenTiedAt
set_option linter.unusedVariables false
set_option linter.unusedSimpArgs false
set_option linter.unusedSectionVars false
namespace Go.Proofs.YtknnamdpgiplfaaGreatDoor
open Go.Sh Go.ChangeShapes Go.WideShapes Go.ChangeAt Go.RowKit Go.Shelf
set_option maxRecDepth 100000
attribute [local instance] powHeld
theorem card_main : Tryz.prog.mainIs = some (true, "5dfc7ed6670b54fba07d38c89f97b12fc76aff73d3c570a4e2d5e950e9450658".toList) := by kernel_rfl
theorem card_wf : Rows.chaWithinRow.wfByText (OpenSpec.ofChange Rows.chaWithinSpec) = true := by kernel_rfl
theorem card_stand25 : (!Tryz.prog.wantsStandIn 25) = true := by kernel_rfl
end Go.Proofs.YtknnamdpgiplfaaGreatDoor
