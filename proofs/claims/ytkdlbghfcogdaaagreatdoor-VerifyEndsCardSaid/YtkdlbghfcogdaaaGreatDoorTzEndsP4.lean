/- VerifyEnds: what it answers, by the kernel, at some lengths of the code. -/
import Derived.Test.YtkdlbghfcogdaaaGreatDoorTzY
set_option linter.unusedVariables false
set_option linter.unusedSimpArgs false
set_option linter.unusedSectionVars false
namespace Go.Proofs
open Go.Sh
set_option maxRecDepth 100000
theorem Tryz.ends_4tt : ((kcall Tryz.kTab.get Tryz.X2 50001 6 [.int .i64 (.ofNat 4), .bool true, .bool true] .empty).map (·.1)) = some (.bool true) := by kernel_rfl
theorem Tryz.ends_4tf : ((kcall Tryz.kTab.get Tryz.X2 50001 6 [.int .i64 (.ofNat 4), .bool true, .bool false] .empty).map (·.1)) = some (.bool true) := by kernel_rfl
theorem Tryz.ends_4ft : ((kcall Tryz.kTab.get Tryz.X2 50001 6 [.int .i64 (.ofNat 4), .bool false, .bool true] .empty).map (·.1)) = some (.bool true) := by kernel_rfl
theorem Tryz.ends_4ff : ((kcall Tryz.kTab.get Tryz.X2 50001 6 [.int .i64 (.ofNat 4), .bool false, .bool false] .empty).map (·.1)) = some (.bool true) := by kernel_rfl
theorem Tryz.ends_10tt : ((kcall Tryz.kTab.get Tryz.X2 50001 6 [.int .i64 (.ofNat 10), .bool true, .bool true] .empty).map (·.1)) = some (.bool true) := by kernel_rfl
theorem Tryz.ends_10tf : ((kcall Tryz.kTab.get Tryz.X2 50001 6 [.int .i64 (.ofNat 10), .bool true, .bool false] .empty).map (·.1)) = some (.bool true) := by kernel_rfl
theorem Tryz.ends_10ft : ((kcall Tryz.kTab.get Tryz.X2 50001 6 [.int .i64 (.ofNat 10), .bool false, .bool true] .empty).map (·.1)) = some (.bool true) := by kernel_rfl
theorem Tryz.ends_10ff : ((kcall Tryz.kTab.get Tryz.X2 50001 6 [.int .i64 (.ofNat 10), .bool false, .bool false] .empty).map (·.1)) = some (.bool true) := by kernel_rfl
theorem Tryz.ends_16tt : ((kcall Tryz.kTab.get Tryz.X2 50001 6 [.int .i64 (.ofNat 16), .bool true, .bool true] .empty).map (·.1)) = some (.bool true) := by kernel_rfl
theorem Tryz.ends_16tf : ((kcall Tryz.kTab.get Tryz.X2 50001 6 [.int .i64 (.ofNat 16), .bool true, .bool false] .empty).map (·.1)) = some (.bool true) := by kernel_rfl
theorem Tryz.ends_16ft : ((kcall Tryz.kTab.get Tryz.X2 50001 6 [.int .i64 (.ofNat 16), .bool false, .bool true] .empty).map (·.1)) = some (.bool true) := by kernel_rfl
theorem Tryz.ends_16ff : ((kcall Tryz.kTab.get Tryz.X2 50001 6 [.int .i64 (.ofNat 16), .bool false, .bool false] .empty).map (·.1)) = some (.bool true) := by kernel_rfl
theorem Tryz.ends_22tt : ((kcall Tryz.kTab.get Tryz.X2 50001 6 [.int .i64 (.ofNat 22), .bool true, .bool true] .empty).map (·.1)) = some (.bool true) := by kernel_rfl
theorem Tryz.ends_22tf : ((kcall Tryz.kTab.get Tryz.X2 50001 6 [.int .i64 (.ofNat 22), .bool true, .bool false] .empty).map (·.1)) = some (.bool true) := by kernel_rfl
theorem Tryz.ends_22ft : ((kcall Tryz.kTab.get Tryz.X2 50001 6 [.int .i64 (.ofNat 22), .bool false, .bool true] .empty).map (·.1)) = some (.bool true) := by kernel_rfl
theorem Tryz.ends_22ff : ((kcall Tryz.kTab.get Tryz.X2 50001 6 [.int .i64 (.ofNat 22), .bool false, .bool false] .empty).map (·.1)) = some (.bool true) := by kernel_rfl
theorem Tryz.ends_28tt : ((kcall Tryz.kTab.get Tryz.X2 50001 6 [.int .i64 (.ofNat 28), .bool true, .bool true] .empty).map (·.1)) = some (.bool true) := by kernel_rfl
theorem Tryz.ends_28tf : ((kcall Tryz.kTab.get Tryz.X2 50001 6 [.int .i64 (.ofNat 28), .bool true, .bool false] .empty).map (·.1)) = some (.bool true) := by kernel_rfl
theorem Tryz.ends_28ft : ((kcall Tryz.kTab.get Tryz.X2 50001 6 [.int .i64 (.ofNat 28), .bool false, .bool true] .empty).map (·.1)) = some (.bool true) := by kernel_rfl
theorem Tryz.ends_28ff : ((kcall Tryz.kTab.get Tryz.X2 50001 6 [.int .i64 (.ofNat 28), .bool false, .bool false] .empty).map (·.1)) = some (.bool true) := by kernel_rfl
theorem Tryz.ends_34tt : ((kcall Tryz.kTab.get Tryz.X2 50001 6 [.int .i64 (.ofNat 34), .bool true, .bool true] .empty).map (·.1)) = some (.bool true) := by kernel_rfl
theorem Tryz.ends_34tf : ((kcall Tryz.kTab.get Tryz.X2 50001 6 [.int .i64 (.ofNat 34), .bool true, .bool false] .empty).map (·.1)) = some (.bool true) := by kernel_rfl
theorem Tryz.ends_34ft : ((kcall Tryz.kTab.get Tryz.X2 50001 6 [.int .i64 (.ofNat 34), .bool false, .bool true] .empty).map (·.1)) = some (.bool true) := by kernel_rfl
theorem Tryz.ends_34ff : ((kcall Tryz.kTab.get Tryz.X2 50001 6 [.int .i64 (.ofNat 34), .bool false, .bool false] .empty).map (·.1)) = some (.bool true) := by kernel_rfl
theorem Tryz.ends_40tt : ((kcall Tryz.kTab.get Tryz.X2 50001 6 [.int .i64 (.ofNat 40), .bool true, .bool true] .empty).map (·.1)) = some (.bool true) := by kernel_rfl
theorem Tryz.ends_40tf : ((kcall Tryz.kTab.get Tryz.X2 50001 6 [.int .i64 (.ofNat 40), .bool true, .bool false] .empty).map (·.1)) = some (.bool true) := by kernel_rfl
theorem Tryz.ends_40ft : ((kcall Tryz.kTab.get Tryz.X2 50001 6 [.int .i64 (.ofNat 40), .bool false, .bool true] .empty).map (·.1)) = some (.bool true) := by kernel_rfl
theorem Tryz.ends_40ff : ((kcall Tryz.kTab.get Tryz.X2 50001 6 [.int .i64 (.ofNat 40), .bool false, .bool false] .empty).map (·.1)) = some (.bool true) := by kernel_rfl
theorem Tryz.ends_46tt : ((kcall Tryz.kTab.get Tryz.X2 50001 6 [.int .i64 (.ofNat 46), .bool true, .bool true] .empty).map (·.1)) = some (.bool true) := by kernel_rfl
theorem Tryz.ends_46tf : ((kcall Tryz.kTab.get Tryz.X2 50001 6 [.int .i64 (.ofNat 46), .bool true, .bool false] .empty).map (·.1)) = some (.bool true) := by kernel_rfl
theorem Tryz.ends_46ft : ((kcall Tryz.kTab.get Tryz.X2 50001 6 [.int .i64 (.ofNat 46), .bool false, .bool true] .empty).map (·.1)) = some (.bool true) := by kernel_rfl
theorem Tryz.ends_46ff : ((kcall Tryz.kTab.get Tryz.X2 50001 6 [.int .i64 (.ofNat 46), .bool false, .bool false] .empty).map (·.1)) = some (.bool true) := by kernel_rfl
end Go.Proofs
