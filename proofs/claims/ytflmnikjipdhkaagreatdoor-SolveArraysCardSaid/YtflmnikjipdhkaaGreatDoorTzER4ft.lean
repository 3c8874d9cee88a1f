/- A run of the compiled machine. -/
import Derived.Test.YtflmnikjipdhkaaGreatDoorTzG4
set_option linter.unusedVariables false
set_option linter.unusedSimpArgs false
set_option linter.unusedSectionVars false
namespace Go.Proofs
open Go.Sh
set_option maxRecDepth 100000
attribute [local instance] powHeld
theorem Tryz.r4ft : ((kcall Tryz.kTab.get Tryz.X4 100000 4 [.bool false, .bool true] .empty).map (·.1)) = some (.bool true) := by kernel_rfl
end Go.Proofs
