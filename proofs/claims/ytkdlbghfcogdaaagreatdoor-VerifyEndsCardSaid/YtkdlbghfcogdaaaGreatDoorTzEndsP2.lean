/- VerifyEnds: what it answers, by the kernel, at some lengths of the code. -/
import Derived.Test.YtkdlbghfcogdaaaGreatDoorTzY
set_option linter.unusedVariables false
set_option linter.unusedSimpArgs false
set_option linter.unusedSectionVars false
namespace Go.Proofs
open Go.Sh
set_option maxRecDepth 100000
theorem Tryz.ends_2tt : ((kcall Tryz.kTab.get Tryz.X2 50001 6 [.int .i64 (.ofNat 2), .bool true, .bool true] .empty).map (·.1)) = some (.bool true) := by kernel_rfl
theorem Tryz.ends_2tf : ((kcall Tryz.kTab.get Tryz.X2 50001 6 [.int .i64 (.ofNat 2), .bool true, .bool false] .empty).map (·.1)) = some (.bool true) := by kernel_rfl
theorem Tryz.ends_2ft : ((kcall Tryz.kTab.get Tryz.X2 50001 6 [.int .i64 (.ofNat 2), .bool false, .bool true] .empty).map (·.1)) = some (.bool true) := by kernel_rfl
theorem Tryz.ends_2ff : ((kcall Tryz.kTab.get Tryz.X2 50001 6 [.int .i64 (.ofNat 2), .bool false, .bool false] .empty).map (·.1)) = some (.bool true) := by kernel_rfl
theorem Tryz.ends_8tt : ((kcall Tryz.kTab.get Tryz.X2 50001 6 [.int .i64 (.ofNat 8), .bool true, .bool true] .empty).map (·.1)) = some (.bool true) := by kernel_rfl
theorem Tryz.ends_8tf : ((kcall Tryz.kTab.get Tryz.X2 50001 6 [.int .i64 (.ofNat 8), .bool true, .bool false] .empty).map (·.1)) = some (.bool true) := by kernel_rfl
theorem Tryz.ends_8ft : ((kcall Tryz.kTab.get Tryz.X2 50001 6 [.int .i64 (.ofNat 8), .bool false, .bool true] .empty).map (·.1)) = some (.bool true) := by kernel_rfl
theorem Tryz.ends_8ff : ((kcall Tryz.kTab.get Tryz.X2 50001 6 [.int .i64 (.ofNat 8), .bool false, .bool false] .empty).map (·.1)) = some (.bool true) := by kernel_rfl
theorem Tryz.ends_14tt : ((kcall Tryz.kTab.get Tryz.X2 50001 6 [.int .i64 (.ofNat 14), .bool true, .bool true] .empty).map (·.1)) = some (.bool true) := by kernel_rfl
theorem Tryz.ends_14tf : ((kcall Tryz.kTab.get Tryz.X2 50001 6 [.int .i64 (.ofNat 14), .bool true, .bool false] .empty).map (·.1)) = some (.bool true) := by kernel_rfl
theorem Tryz.ends_14ft : ((kcall Tryz.kTab.get Tryz.X2 50001 6 [.int .i64 (.ofNat 14), .bool false, .bool true] .empty).map (·.1)) = some (.bool true) := by kernel_rfl
theorem Tryz.ends_14ff : ((kcall Tryz.kTab.get Tryz.X2 50001 6 [.int .i64 (.ofNat 14), .bool false, .bool false] .empty).map (·.1)) = some (.bool true) := by kernel_rfl
theorem Tryz.ends_20tt : ((kcall Tryz.kTab.get Tryz.X2 50001 6 [.int .i64 (.ofNat 20), .bool true, .bool true] .empty).map (·.1)) = some (.bool true) := by kernel_rfl
theorem Tryz.ends_20tf : ((kcall Tryz.kTab.get Tryz.X2 50001 6 [.int .i64 (.ofNat 20), .bool true, .bool false] .empty).map (·.1)) = some (.bool true) := by kernel_rfl
theorem Tryz.ends_20ft : ((kcall Tryz.kTab.get Tryz.X2 50001 6 [.int .i64 (.ofNat 20), .bool false, .bool true] .empty).map (·.1)) = some (.bool true) := by kernel_rfl
theorem Tryz.ends_20ff : ((kcall Tryz.kTab.get Tryz.X2 50001 6 [.int .i64 (.ofNat 20), .bool false, .bool false] .empty).map (·.1)) = some (.bool true) := by kernel_rfl
theorem Tryz.ends_26tt : ((kcall Tryz.kTab.get Tryz.X2 50001 6 [.int .i64 (.ofNat 26), .bool true, .bool true] .empty).map (·.1)) = some (.bool true) := by kernel_rfl
theorem Tryz.ends_26tf : ((kcall Tryz.kTab.get Tryz.X2 50001 6 [.int .i64 (.ofNat 26), .bool true, .bool false] .empty).map (·.1)) = some (.bool true) := by kernel_rfl
theorem Tryz.ends_26ft : ((kcall Tryz.kTab.get Tryz.X2 50001 6 [.int .i64 (.ofNat 26), .bool false, .bool true] .empty).map (·.1)) = some (.bool true) := by kernel_rfl
theorem Tryz.ends_26ff : ((kcall Tryz.kTab.get Tryz.X2 50001 6 [.int .i64 (.ofNat 26), .bool false, .bool false] .empty).map (·.1)) = some (.bool true) := by kernel_rfl
theorem Tryz.ends_32tt : ((kcall Tryz.kTab.get Tryz.X2 50001 6 [.int .i64 (.ofNat 32), .bool true, .bool true] .empty).map (·.1)) = some (.bool true) := by kernel_rfl
theorem Tryz.ends_32tf : ((kcall Tryz.kTab.get Tryz.X2 50001 6 [.int .i64 (.ofNat 32), .bool true, .bool false] .empty).map (·.1)) = some (.bool true) := by kernel_rfl
theorem Tryz.ends_32ft : ((kcall Tryz.kTab.get Tryz.X2 50001 6 [.int .i64 (.ofNat 32), .bool false, .bool true] .empty).map (·.1)) = some (.bool true) := by kernel_rfl
theorem Tryz.ends_32ff : ((kcall Tryz.kTab.get Tryz.X2 50001 6 [.int .i64 (.ofNat 32), .bool false, .bool false] .empty).map (·.1)) = some (.bool true) := by kernel_rfl
theorem Tryz.ends_38tt : ((kcall Tryz.kTab.get Tryz.X2 50001 6 [.int .i64 (.ofNat 38), .bool true, .bool true] .empty).map (·.1)) = some (.bool true) := by kernel_rfl
theorem Tryz.ends_38tf : ((kcall Tryz.kTab.get Tryz.X2 50001 6 [.int .i64 (.ofNat 38), .bool true, .bool false] .empty).map (·.1)) = some (.bool true) := by kernel_rfl
theorem Tryz.ends_38ft : ((kcall Tryz.kTab.get Tryz.X2 50001 6 [.int .i64 (.ofNat 38), .bool false, .bool true] .empty).map (·.1)) = some (.bool true) := by kernel_rfl
theorem Tryz.ends_38ff : ((kcall Tryz.kTab.get Tryz.X2 50001 6 [.int .i64 (.ofNat 38), .bool false, .bool false] .empty).map (·.1)) = some (.bool true) := by kernel_rfl
theorem Tryz.ends_44tt : ((kcall Tryz.kTab.get Tryz.X2 50001 6 [.int .i64 (.ofNat 44), .bool true, .bool true] .empty).map (·.1)) = some (.bool true) := by kernel_rfl
theorem Tryz.ends_44tf : ((kcall Tryz.kTab.get Tryz.X2 50001 6 [.int .i64 (.ofNat 44), .bool true, .bool false] .empty).map (·.1)) = some (.bool true) := by kernel_rfl
theorem Tryz.ends_44ft : ((kcall Tryz.kTab.get Tryz.X2 50001 6 [.int .i64 (.ofNat 44), .bool false, .bool true] .empty).map (·.1)) = some (.bool true) := by kernel_rfl
theorem Tryz.ends_44ff : ((kcall Tryz.kTab.get Tryz.X2 50001 6 [.int .i64 (.ofNat 44), .bool false, .bool false] .empty).map (·.1)) = some (.bool true) := by kernel_rfl
theorem Tryz.ends_50tt : ((kcall Tryz.kTab.get Tryz.X2 50001 6 [.int .i64 (.ofNat 50), .bool true, .bool true] .empty).map (·.1)) = some (.bool true) := by kernel_rfl
theorem Tryz.ends_50tf : ((kcall Tryz.kTab.get Tryz.X2 50001 6 [.int .i64 (.ofNat 50), .bool true, .bool false] .empty).map (·.1)) = some (.bool true) := by kernel_rfl
theorem Tryz.ends_50ft : ((kcall Tryz.kTab.get Tryz.X2 50001 6 [.int .i64 (.ofNat 50), .bool false, .bool true] .empty).map (·.1)) = some (.bool true) := by kernel_rfl
theorem Tryz.ends_50ff : ((kcall Tryz.kTab.get Tryz.X2 50001 6 [.int .i64 (.ofNat 50), .bool false, .bool false] .empty).map (·.1)) = some (.bool true) := by kernel_rfl
end Go.Proofs
