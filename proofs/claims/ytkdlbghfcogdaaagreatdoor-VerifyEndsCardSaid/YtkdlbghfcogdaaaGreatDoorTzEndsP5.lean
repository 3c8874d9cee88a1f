/- VerifyEnds: what it answers, by the kernel, at some lengths of the code. -/
import Derived.Test.YtkdlbghfcogdaaaGreatDoorTzY
set_option linter.unusedVariables false
set_option linter.unusedSimpArgs false
set_option linter.unusedSectionVars false
namespace Go.Proofs
open Go.Sh
set_option maxRecDepth 100000
theorem Tryz.ends_5tt : ((kcall Tryz.kTab.get Tryz.X2 50001 6 [.int .i64 (.ofNat 5), .bool true, .bool true] .empty).map (·.1)) = some (.bool true) := by kernel_rfl
theorem Tryz.ends_5tf : ((kcall Tryz.kTab.get Tryz.X2 50001 6 [.int .i64 (.ofNat 5), .bool true, .bool false] .empty).map (·.1)) = some (.bool true) := by kernel_rfl
theorem Tryz.ends_5ft : ((kcall Tryz.kTab.get Tryz.X2 50001 6 [.int .i64 (.ofNat 5), .bool false, .bool true] .empty).map (·.1)) = some (.bool true) := by kernel_rfl
theorem Tryz.ends_5ff : ((kcall Tryz.kTab.get Tryz.X2 50001 6 [.int .i64 (.ofNat 5), .bool false, .bool false] .empty).map (·.1)) = some (.bool true) := by kernel_rfl
theorem Tryz.ends_11tt : ((kcall Tryz.kTab.get Tryz.X2 50001 6 [.int .i64 (.ofNat 11), .bool true, .bool true] .empty).map (·.1)) = some (.bool true) := by kernel_rfl
theorem Tryz.ends_11tf : ((kcall Tryz.kTab.get Tryz.X2 50001 6 [.int .i64 (.ofNat 11), .bool true, .bool false] .empty).map (·.1)) = some (.bool true) := by kernel_rfl
theorem Tryz.ends_11ft : ((kcall Tryz.kTab.get Tryz.X2 50001 6 [.int .i64 (.ofNat 11), .bool false, .bool true] .empty).map (·.1)) = some (.bool true) := by kernel_rfl
theorem Tryz.ends_11ff : ((kcall Tryz.kTab.get Tryz.X2 50001 6 [.int .i64 (.ofNat 11), .bool false, .bool false] .empty).map (·.1)) = some (.bool true) := by kernel_rfl
theorem Tryz.ends_17tt : ((kcall Tryz.kTab.get Tryz.X2 50001 6 [.int .i64 (.ofNat 17), .bool true, .bool true] .empty).map (·.1)) = some (.bool true) := by kernel_rfl
theorem Tryz.ends_17tf : ((kcall Tryz.kTab.get Tryz.X2 50001 6 [.int .i64 (.ofNat 17), .bool true, .bool false] .empty).map (·.1)) = some (.bool true) := by kernel_rfl
theorem Tryz.ends_17ft : ((kcall Tryz.kTab.get Tryz.X2 50001 6 [.int .i64 (.ofNat 17), .bool false, .bool true] .empty).map (·.1)) = some (.bool true) := by kernel_rfl
theorem Tryz.ends_17ff : ((kcall Tryz.kTab.get Tryz.X2 50001 6 [.int .i64 (.ofNat 17), .bool false, .bool false] .empty).map (·.1)) = some (.bool true) := by kernel_rfl
theorem Tryz.ends_23tt : ((kcall Tryz.kTab.get Tryz.X2 50001 6 [.int .i64 (.ofNat 23), .bool true, .bool true] .empty).map (·.1)) = some (.bool true) := by kernel_rfl
theorem Tryz.ends_23tf : ((kcall Tryz.kTab.get Tryz.X2 50001 6 [.int .i64 (.ofNat 23), .bool true, .bool false] .empty).map (·.1)) = some (.bool true) := by kernel_rfl
theorem Tryz.ends_23ft : ((kcall Tryz.kTab.get Tryz.X2 50001 6 [.int .i64 (.ofNat 23), .bool false, .bool true] .empty).map (·.1)) = some (.bool true) := by kernel_rfl
theorem Tryz.ends_23ff : ((kcall Tryz.kTab.get Tryz.X2 50001 6 [.int .i64 (.ofNat 23), .bool false, .bool false] .empty).map (·.1)) = some (.bool true) := by kernel_rfl
theorem Tryz.ends_29tt : ((kcall Tryz.kTab.get Tryz.X2 50001 6 [.int .i64 (.ofNat 29), .bool true, .bool true] .empty).map (·.1)) = some (.bool true) := by kernel_rfl
theorem Tryz.ends_29tf : ((kcall Tryz.kTab.get Tryz.X2 50001 6 [.int .i64 (.ofNat 29), .bool true, .bool false] .empty).map (·.1)) = some (.bool true) := by kernel_rfl
theorem Tryz.ends_29ft : ((kcall Tryz.kTab.get Tryz.X2 50001 6 [.int .i64 (.ofNat 29), .bool false, .bool true] .empty).map (·.1)) = some (.bool true) := by kernel_rfl
theorem Tryz.ends_29ff : ((kcall Tryz.kTab.get Tryz.X2 50001 6 [.int .i64 (.ofNat 29), .bool false, .bool false] .empty).map (·.1)) = some (.bool true) := by kernel_rfl
theorem Tryz.ends_35tt : ((kcall Tryz.kTab.get Tryz.X2 50001 6 [.int .i64 (.ofNat 35), .bool true, .bool true] .empty).map (·.1)) = some (.bool true) := by kernel_rfl
theorem Tryz.ends_35tf : ((kcall Tryz.kTab.get Tryz.X2 50001 6 [.int .i64 (.ofNat 35), .bool true, .bool false] .empty).map (·.1)) = some (.bool true) := by kernel_rfl
theorem Tryz.ends_35ft : ((kcall Tryz.kTab.get Tryz.X2 50001 6 [.int .i64 (.ofNat 35), .bool false, .bool true] .empty).map (·.1)) = some (.bool true) := by kernel_rfl
theorem Tryz.ends_35ff : ((kcall Tryz.kTab.get Tryz.X2 50001 6 [.int .i64 (.ofNat 35), .bool false, .bool false] .empty).map (·.1)) = some (.bool true) := by kernel_rfl
theorem Tryz.ends_41tt : ((kcall Tryz.kTab.get Tryz.X2 50001 6 [.int .i64 (.ofNat 41), .bool true, .bool true] .empty).map (·.1)) = some (.bool true) := by kernel_rfl
theorem Tryz.ends_41tf : ((kcall Tryz.kTab.get Tryz.X2 50001 6 [.int .i64 (.ofNat 41), .bool true, .bool false] .empty).map (·.1)) = some (.bool true) := by kernel_rfl
theorem Tryz.ends_41ft : ((kcall Tryz.kTab.get Tryz.X2 50001 6 [.int .i64 (.ofNat 41), .bool false, .bool true] .empty).map (·.1)) = some (.bool true) := by kernel_rfl
theorem Tryz.ends_41ff : ((kcall Tryz.kTab.get Tryz.X2 50001 6 [.int .i64 (.ofNat 41), .bool false, .bool false] .empty).map (·.1)) = some (.bool true) := by kernel_rfl
theorem Tryz.ends_47tt : ((kcall Tryz.kTab.get Tryz.X2 50001 6 [.int .i64 (.ofNat 47), .bool true, .bool true] .empty).map (·.1)) = some (.bool true) := by kernel_rfl
theorem Tryz.ends_47tf : ((kcall Tryz.kTab.get Tryz.X2 50001 6 [.int .i64 (.ofNat 47), .bool true, .bool false] .empty).map (·.1)) = some (.bool true) := by kernel_rfl
theorem Tryz.ends_47ft : ((kcall Tryz.kTab.get Tryz.X2 50001 6 [.int .i64 (.ofNat 47), .bool false, .bool true] .empty).map (·.1)) = some (.bool true) := by kernel_rfl
theorem Tryz.ends_47ff : ((kcall Tryz.kTab.get Tryz.X2 50001 6 [.int .i64 (.ofNat 47), .bool false, .bool false] .empty).map (·.1)) = some (.bool true) := by kernel_rfl
end Go.Proofs
