/- AnalyseTexts: closed facts of the row, one by one. -/
import Derived.Test.YtcfknlkgnolndaaGreatDoorTzAF
import Derived.JoinedOf
set_option linter.unusedVariables false
set_option linter.unusedSimpArgs false
set_option linter.unusedSectionVars false
namespace Go.Proofs.YtcfknlkgnolndaaGreatDoor
open Go.Sh Go.ChangeShapes Go.WideShapes Go.ChangeAt Go.RowKit Go.Shelf
set_option maxRecDepth 100000
theorem row_inp : (Rows.analyseTextsRow.inPlace == Tryz.prog.inPlace 5) = true := by kernel_rfl
theorem row_unf : (Rows.analyseTextsRow.unfollowed == Tryz.prog.unfollowed 5) = true := by kernel_rfl
end Go.Proofs.YtcfknlkgnolndaaGreatDoor
