/- 'awake' answers true: a run of the compiled machine. -/
import Derived.Test.YtcfknlkgnolndaaGreatDoorTzAA
set_option linter.unusedVariables false
set_option linter.unusedSimpArgs false
set_option linter.unusedSectionVars false
namespace Go.Proofs
open Go.Sh
set_option linter.unusedVariables false
set_option maxRecDepth 100000
attribute [local instance] powHeld
theorem Tryz.awake24 : ((kcall Tryz.kTab.get Tryz.X 100000 24 [] .empty).map (·.1)) = some (.bool true) := by kernel_rfl
end Go.Proofs
