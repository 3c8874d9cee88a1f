/- AnalyseTexts: closed facts of the row, one by one. -/
import Derived.Test.YtcfknlkgnolndaaGreatDoorTzAF
import Derived.JoinedOf
set_option linter.unusedVariables false
set_option linter.unusedSimpArgs false
set_option linter.unusedSectionVars false
namespace Go.Proofs.YtcfknlkgnolndaaGreatDoor
open Go.Sh Go.ChangeShapes Go.WideShapes Go.ChangeAt Go.RowKit Go.Shelf
set_option maxRecDepth 100000
theorem row_rowed : (mapsRowed Tryz.prog) = true := by kernel_rfl
theorem row_enter : (Tryz.prog.mayEnter) = true := by kernel_rfl
theorem row_heard : (Tryz.prog.stopsHeard) = true := by kernel_rfl
theorem row_lift : (Rows.analyseTextsRow.lifted == Tryz.prog.liftsFinal) = true := by kernel_rfl
theorem row_make : (Tryz.prog.make == some Rows.analyseTextsRow.make) = true := by kernel_rfl
theorem row_tie : (namedTie Tryz.prog Rows.analyseTextsRow.named Rows.analyseTextsSpec.vars) = true := by kernel_rfl
theorem row_func : Tryz.prog.funcNamed Rows.analyseTextsRow.func = some 5 := by kernel_rfl
end Go.Proofs.YtcfknlkgnolndaaGreatDoor
