/- AnalyseSteps: runs of the compiled machine. -/
import Derived.Test.YtcfknlkgnolndaaGreatDoorTzAC
set_option linter.unusedVariables false
set_option linter.unusedSimpArgs false
set_option linter.unusedSectionVars false
namespace Go.Proofs
open Go.Sh
set_option linter.unusedVariables false
set_option maxRecDepth 100000
attribute [local instance] powHeld
theorem Tryz.r6fftt : ((kcall Tryz.kTab.get Tryz.X2 100000 6 [.bool false, .bool false, .bool true, .bool true] .empty).map (·.1)) = some (.bool true) := by kernel_rfl
theorem Tryz.r6ftff : ((kcall Tryz.kTab.get Tryz.X2 100000 6 [.bool false, .bool true, .bool false, .bool false] .empty).map (·.1)) = some (.bool true) := by kernel_rfl
theorem Tryz.r6ftft : ((kcall Tryz.kTab.get Tryz.X2 100000 6 [.bool false, .bool true, .bool false, .bool true] .empty).map (·.1)) = some (.bool true) := by kernel_rfl
end Go.Proofs
