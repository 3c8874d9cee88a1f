/- AnalyseTexts: closed facts of the row, one by one. -/
import Derived.Test.YtcfknlkgnolndaaGreatDoorTzAF
import Derived.JoinedOf
set_option linter.unusedVariables false
set_option linter.unusedSimpArgs false
set_option linter.unusedSectionVars false
namespace Go.Proofs.YtcfknlkgnolndaaGreatDoor
open Go.Sh Go.ChangeShapes Go.WideShapes Go.ChangeAt Go.RowKit Go.Shelf
set_option maxRecDepth 100000
theorem row_recs : (Rows.analyseTextsRow.recurses == Tryz.prog.recurses 5) = true := by kernel_rfl
theorem row_named : (Rows.analyseTextsRow.named == Tryz.prog.varsNamed 5) = true := by kernel_rfl
end Go.Proofs.YtcfknlkgnolndaaGreatDoor
