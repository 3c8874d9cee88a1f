/- VerifyEnds: what it answers, by the kernel, at some lengths of the code. -/
import Derived.Test.YtkdlbghfcogdaaaGreatDoorTzY
set_option linter.unusedVariables false
set_option linter.unusedSimpArgs false
set_option linter.unusedSectionVars false
namespace Go.Proofs
open Go.Sh
set_option maxRecDepth 100000
theorem Tryz.ends_1tt : ((kcall Tryz.kTab.get Tryz.X2 50001 6 [.int .i64 (.ofNat 1), .bool true, .bool true] .empty).map (·.1)) = some (.bool true) := by kernel_rfl
theorem Tryz.ends_1tf : ((kcall Tryz.kTab.get Tryz.X2 50001 6 [.int .i64 (.ofNat 1), .bool true, .bool false] .empty).map (·.1)) = some (.bool true) := by kernel_rfl
theorem Tryz.ends_1ft : ((kcall Tryz.kTab.get Tryz.X2 50001 6 [.int .i64 (.ofNat 1), .bool false, .bool true] .empty).map (·.1)) = some (.bool true) := by kernel_rfl
theorem Tryz.ends_1ff : ((kcall Tryz.kTab.get Tryz.X2 50001 6 [.int .i64 (.ofNat 1), .bool false, .bool false] .empty).map (·.1)) = some (.bool true) := by kernel_rfl
theorem Tryz.ends_7tt : ((kcall Tryz.kTab.get Tryz.X2 50001 6 [.int .i64 (.ofNat 7), .bool true, .bool true] .empty).map (·.1)) = some (.bool true) := by kernel_rfl
theorem Tryz.ends_7tf : ((kcall Tryz.kTab.get Tryz.X2 50001 6 [.int .i64 (.ofNat 7), .bool true, .bool false] .empty).map (·.1)) = some (.bool true) := by kernel_rfl
theorem Tryz.ends_7ft : ((kcall Tryz.kTab.get Tryz.X2 50001 6 [.int .i64 (.ofNat 7), .bool false, .bool true] .empty).map (·.1)) = some (.bool true) := by kernel_rfl
theorem Tryz.ends_7ff : ((kcall Tryz.kTab.get Tryz.X2 50001 6 [.int .i64 (.ofNat 7), .bool false, .bool false] .empty).map (·.1)) = some (.bool true) := by kernel_rfl
theorem Tryz.ends_13tt : ((kcall Tryz.kTab.get Tryz.X2 50001 6 [.int .i64 (.ofNat 13), .bool true, .bool true] .empty).map (·.1)) = some (.bool true) := by kernel_rfl
theorem Tryz.ends_13tf : ((kcall Tryz.kTab.get Tryz.X2 50001 6 [.int .i64 (.ofNat 13), .bool true, .bool false] .empty).map (·.1)) = some (.bool true) := by kernel_rfl
theorem Tryz.ends_13ft : ((kcall Tryz.kTab.get Tryz.X2 50001 6 [.int .i64 (.ofNat 13), .bool false, .bool true] .empty).map (·.1)) = some (.bool true) := by kernel_rfl
theorem Tryz.ends_13ff : ((kcall Tryz.kTab.get Tryz.X2 50001 6 [.int .i64 (.ofNat 13), .bool false, .bool false] .empty).map (·.1)) = some (.bool true) := by kernel_rfl
theorem Tryz.ends_19tt : ((kcall Tryz.kTab.get Tryz.X2 50001 6 [.int .i64 (.ofNat 19), .bool true, .bool true] .empty).map (·.1)) = some (.bool true) := by kernel_rfl
theorem Tryz.ends_19tf : ((kcall Tryz.kTab.get Tryz.X2 50001 6 [.int .i64 (.ofNat 19), .bool true, .bool false] .empty).map (·.1)) = some (.bool true) := by kernel_rfl
theorem Tryz.ends_19ft : ((kcall Tryz.kTab.get Tryz.X2 50001 6 [.int .i64 (.ofNat 19), .bool false, .bool true] .empty).map (·.1)) = some (.bool true) := by kernel_rfl
theorem Tryz.ends_19ff : ((kcall Tryz.kTab.get Tryz.X2 50001 6 [.int .i64 (.ofNat 19), .bool false, .bool false] .empty).map (·.1)) = some (.bool true) := by kernel_rfl
theorem Tryz.ends_25tt : ((kcall Tryz.kTab.get Tryz.X2 50001 6 [.int .i64 (.ofNat 25), .bool true, .bool true] .empty).map (·.1)) = some (.bool true) := by kernel_rfl
theorem Tryz.ends_25tf : ((kcall Tryz.kTab.get Tryz.X2 50001 6 [.int .i64 (.ofNat 25), .bool true, .bool false] .empty).map (·.1)) = some (.bool true) := by kernel_rfl
theorem Tryz.ends_25ft : ((kcall Tryz.kTab.get Tryz.X2 50001 6 [.int .i64 (.ofNat 25), .bool false, .bool true] .empty).map (·.1)) = some (.bool true) := by kernel_rfl
theorem Tryz.ends_25ff : ((kcall Tryz.kTab.get Tryz.X2 50001 6 [.int .i64 (.ofNat 25), .bool false, .bool false] .empty).map (·.1)) = some (.bool true) := by kernel_rfl
theorem Tryz.ends_31tt : ((kcall Tryz.kTab.get Tryz.X2 50001 6 [.int .i64 (.ofNat 31), .bool true, .bool true] .empty).map (·.1)) = some (.bool true) := by kernel_rfl
theorem Tryz.ends_31tf : ((kcall Tryz.kTab.get Tryz.X2 50001 6 [.int .i64 (.ofNat 31), .bool true, .bool false] .empty).map (·.1)) = some (.bool true) := by kernel_rfl
theorem Tryz.ends_31ft : ((kcall Tryz.kTab.get Tryz.X2 50001 6 [.int .i64 (.ofNat 31), .bool false, .bool true] .empty).map (·.1)) = some (.bool true) := by kernel_rfl
theorem Tryz.ends_31ff : ((kcall Tryz.kTab.get Tryz.X2 50001 6 [.int .i64 (.ofNat 31), .bool false, .bool false] .empty).map (·.1)) = some (.bool true) := by kernel_rfl
theorem Tryz.ends_37tt : ((kcall Tryz.kTab.get Tryz.X2 50001 6 [.int .i64 (.ofNat 37), .bool true, .bool true] .empty).map (·.1)) = some (.bool true) := by kernel_rfl
theorem Tryz.ends_37tf : ((kcall Tryz.kTab.get Tryz.X2 50001 6 [.int .i64 (.ofNat 37), .bool true, .bool false] .empty).map (·.1)) = some (.bool true) := by kernel_rfl
theorem Tryz.ends_37ft : ((kcall Tryz.kTab.get Tryz.X2 50001 6 [.int .i64 (.ofNat 37), .bool false, .bool true] .empty).map (·.1)) = some (.bool true) := by kernel_rfl
theorem Tryz.ends_37ff : ((kcall Tryz.kTab.get Tryz.X2 50001 6 [.int .i64 (.ofNat 37), .bool false, .bool false] .empty).map (·.1)) = some (.bool true) := by kernel_rfl
theorem Tryz.ends_43tt : ((kcall Tryz.kTab.get Tryz.X2 50001 6 [.int .i64 (.ofNat 43), .bool true, .bool true] .empty).map (·.1)) = some (.bool true) := by kernel_rfl
theorem Tryz.ends_43tf : ((kcall Tryz.kTab.get Tryz.X2 50001 6 [.int .i64 (.ofNat 43), .bool true, .bool false] .empty).map (·.1)) = some (.bool true) := by kernel_rfl
theorem Tryz.ends_43ft : ((kcall Tryz.kTab.get Tryz.X2 50001 6 [.int .i64 (.ofNat 43), .bool false, .bool true] .empty).map (·.1)) = some (.bool true) := by kernel_rfl
theorem Tryz.ends_43ff : ((kcall Tryz.kTab.get Tryz.X2 50001 6 [.int .i64 (.ofNat 43), .bool false, .bool false] .empty).map (·.1)) = some (.bool true) := by kernel_rfl
theorem Tryz.ends_49tt : ((kcall Tryz.kTab.get Tryz.X2 50001 6 [.int .i64 (.ofNat 49), .bool true, .bool true] .empty).map (·.1)) = some (.bool true) := by kernel_rfl
theorem Tryz.ends_49tf : ((kcall Tryz.kTab.get Tryz.X2 50001 6 [.int .i64 (.ofNat 49), .bool true, .bool false] .empty).map (·.1)) = some (.bool true) := by kernel_rfl
theorem Tryz.ends_49ft : ((kcall Tryz.kTab.get Tryz.X2 50001 6 [.int .i64 (.ofNat 49), .bool false, .bool true] .empty).map (·.1)) = some (.bool true) := by kernel_rfl
theorem Tryz.ends_49ff : ((kcall Tryz.kTab.get Tryz.X2 50001 6 [.int .i64 (.ofNat 49), .bool false, .bool false] .empty).map (·.1)) = some (.bool true) := by kernel_rfl
end Go.Proofs
