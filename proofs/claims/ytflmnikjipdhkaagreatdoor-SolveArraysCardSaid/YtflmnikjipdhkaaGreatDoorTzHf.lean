/- SolveArrays: closed facts of the row and of the card, one by one. -/
import Derived.Test.YtflmnikjipdhkaaGreatDoorTzEW4
import Derived.JoinedOf
import Derived.SevenTiedAt
set_option linter.unusedVariables false
set_option linter.unusedSimpArgs false
set_option linter.unusedSectionVars false
namespace Go.Proofs.YtflmnikjipdhkaaGreatDoor
open Go.Sh Go.ChangeShapes Go.WideShapes Go.ChangeAt Go.RowKit Go.Shelf
set_option maxRecDepth 100000
attribute [local instance] powHeld
theorem card_main : Tryz.prog.mainIs = some (true, "cef0be740e3b27318c26b9fa094add41e73477ee6d6228d6e7e5ea2822bdfcae".toList) := by kernel_rfl
theorem card_wf : Rows.solveArraysRow.wfByText (OpenSpec.ofChange Rows.solveArraysSpec) = true := by kernel_rfl
theorem card_stand4 : (!Tryz.prog.wantsStandIn 4) = true := by kernel_rfl
end Go.Proofs.YtflmnikjipdhkaaGreatDoor
