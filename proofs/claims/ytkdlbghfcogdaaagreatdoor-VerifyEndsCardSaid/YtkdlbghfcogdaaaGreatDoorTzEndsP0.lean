/- VerifyEnds: what it answers, by the kernel, at some lengths of the code. -/
import Derived.Test.YtkdlbghfcogdaaaGreatDoorTzY
set_option linter.unusedVariables false
set_option linter.unusedSimpArgs false
set_option linter.unusedSectionVars false
namespace Go.Proofs
open Go.Sh
set_option maxRecDepth 100000
theorem Tryz.ends_0tt : ((kcall Tryz.kTab.get Tryz.X2 50001 6 [.int .i64 (.ofNat 0), .bool true, .bool true] .empty).map (·.1)) = some (.bool true) := by kernel_rfl
theorem Tryz.ends_0tf : ((kcall Tryz.kTab.get Tryz.X2 50001 6 [.int .i64 (.ofNat 0), .bool true, .bool false] .empty).map (·.1)) = some (.bool true) := by kernel_rfl
theorem Tryz.ends_0ft : ((kcall Tryz.kTab.get Tryz.X2 50001 6 [.int .i64 (.ofNat 0), .bool false, .bool true] .empty).map (·.1)) = some (.bool true) := by kernel_rfl
theorem Tryz.ends_0ff : ((kcall Tryz.kTab.get Tryz.X2 50001 6 [.int .i64 (.ofNat 0), .bool false, .bool false] .empty).map (·.1)) = some (.bool true) := by kernel_rfl
theorem Tryz.ends_6tt : ((kcall Tryz.kTab.get Tryz.X2 50001 6 [.int .i64 (.ofNat 6), .bool true, .bool true] .empty).map (·.1)) = some (.bool true) := by kernel_rfl
theorem Tryz.ends_6tf : ((kcall Tryz.kTab.get Tryz.X2 50001 6 [.int .i64 (.ofNat 6), .bool true, .bool false] .empty).map (·.1)) = some (.bool true) := by kernel_rfl
theorem Tryz.ends_6ft : ((kcall Tryz.kTab.get Tryz.X2 50001 6 [.int .i64 (.ofNat 6), .bool false, .bool true] .empty).map (·.1)) = some (.bool true) := by kernel_rfl
theorem Tryz.ends_6ff : ((kcall Tryz.kTab.get Tryz.X2 50001 6 [.int .i64 (.ofNat 6), .bool false, .bool false] .empty).map (·.1)) = some (.bool true) := by kernel_rfl
theorem Tryz.ends_12tt : ((kcall Tryz.kTab.get Tryz.X2 50001 6 [.int .i64 (.ofNat 12), .bool true, .bool true] .empty).map (·.1)) = some (.bool true) := by kernel_rfl
theorem Tryz.ends_12tf : ((kcall Tryz.kTab.get Tryz.X2 50001 6 [.int .i64 (.ofNat 12), .bool true, .bool false] .empty).map (·.1)) = some (.bool true) := by kernel_rfl
theorem Tryz.ends_12ft : ((kcall Tryz.kTab.get Tryz.X2 50001 6 [.int .i64 (.ofNat 12), .bool false, .bool true] .empty).map (·.1)) = some (.bool true) := by kernel_rfl
theorem Tryz.ends_12ff : ((kcall Tryz.kTab.get Tryz.X2 50001 6 [.int .i64 (.ofNat 12), .bool false, .bool false] .empty).map (·.1)) = some (.bool true) := by kernel_rfl
theorem Tryz.ends_18tt : ((kcall Tryz.kTab.get Tryz.X2 50001 6 [.int .i64 (.ofNat 18), .bool true, .bool true] .empty).map (·.1)) = some (.bool true) := by kernel_rfl
theorem Tryz.ends_18tf : ((kcall Tryz.kTab.get Tryz.X2 50001 6 [.int .i64 (.ofNat 18), .bool true, .bool false] .empty).map (·.1)) = some (.bool true) := by kernel_rfl
theorem Tryz.ends_18ft : ((kcall Tryz.kTab.get Tryz.X2 50001 6 [.int .i64 (.ofNat 18), .bool false, .bool true] .empty).map (·.1)) = some (.bool true) := by kernel_rfl
theorem Tryz.ends_18ff : ((kcall Tryz.kTab.get Tryz.X2 50001 6 [.int .i64 (.ofNat 18), .bool false, .bool false] .empty).map (·.1)) = some (.bool true) := by kernel_rfl
theorem Tryz.ends_24tt : ((kcall Tryz.kTab.get Tryz.X2 50001 6 [.int .i64 (.ofNat 24), .bool true, .bool true] .empty).map (·.1)) = some (.bool true) := by kernel_rfl
theorem Tryz.ends_24tf : ((kcall Tryz.kTab.get Tryz.X2 50001 6 [.int .i64 (.ofNat 24), .bool true, .bool false] .empty).map (·.1)) = some (.bool true) := by kernel_rfl
theorem Tryz.ends_24ft : ((kcall Tryz.kTab.get Tryz.X2 50001 6 [.int .i64 (.ofNat 24), .bool false, .bool true] .empty).map (·.1)) = some (.bool true) := by kernel_rfl
theorem Tryz.ends_24ff : ((kcall Tryz.kTab.get Tryz.X2 50001 6 [.int .i64 (.ofNat 24), .bool false, .bool false] .empty).map (·.1)) = some (.bool true) := by kernel_rfl
theorem Tryz.ends_30tt : ((kcall Tryz.kTab.get Tryz.X2 50001 6 [.int .i64 (.ofNat 30), .bool true, .bool true] .empty).map (·.1)) = some (.bool true) := by kernel_rfl
theorem Tryz.ends_30tf : ((kcall Tryz.kTab.get Tryz.X2 50001 6 [.int .i64 (.ofNat 30), .bool true, .bool false] .empty).map (·.1)) = some (.bool true) := by kernel_rfl
theorem Tryz.ends_30ft : ((kcall Tryz.kTab.get Tryz.X2 50001 6 [.int .i64 (.ofNat 30), .bool false, .bool true] .empty).map (·.1)) = some (.bool true) := by kernel_rfl
theorem Tryz.ends_30ff : ((kcall Tryz.kTab.get Tryz.X2 50001 6 [.int .i64 (.ofNat 30), .bool false, .bool false] .empty).map (·.1)) = some (.bool true) := by kernel_rfl
theorem Tryz.ends_36tt : ((kcall Tryz.kTab.get Tryz.X2 50001 6 [.int .i64 (.ofNat 36), .bool true, .bool true] .empty).map (·.1)) = some (.bool true) := by kernel_rfl
theorem Tryz.ends_36tf : ((kcall Tryz.kTab.get Tryz.X2 50001 6 [.int .i64 (.ofNat 36), .bool true, .bool false] .empty).map (·.1)) = some (.bool true) := by kernel_rfl
theorem Tryz.ends_36ft : ((kcall Tryz.kTab.get Tryz.X2 50001 6 [.int .i64 (.ofNat 36), .bool false, .bool true] .empty).map (·.1)) = some (.bool true) := by kernel_rfl
theorem Tryz.ends_36ff : ((kcall Tryz.kTab.get Tryz.X2 50001 6 [.int .i64 (.ofNat 36), .bool false, .bool false] .empty).map (·.1)) = some (.bool true) := by kernel_rfl
theorem Tryz.ends_42tt : ((kcall Tryz.kTab.get Tryz.X2 50001 6 [.int .i64 (.ofNat 42), .bool true, .bool true] .empty).map (·.1)) = some (.bool true) := by kernel_rfl
theorem Tryz.ends_42tf : ((kcall Tryz.kTab.get Tryz.X2 50001 6 [.int .i64 (.ofNat 42), .bool true, .bool false] .empty).map (·.1)) = some (.bool true) := by kernel_rfl
theorem Tryz.ends_42ft : ((kcall Tryz.kTab.get Tryz.X2 50001 6 [.int .i64 (.ofNat 42), .bool false, .bool true] .empty).map (·.1)) = some (.bool true) := by kernel_rfl
theorem Tryz.ends_42ff : ((kcall Tryz.kTab.get Tryz.X2 50001 6 [.int .i64 (.ofNat 42), .bool false, .bool false] .empty).map (·.1)) = some (.bool true) := by kernel_rfl
theorem Tryz.ends_48tt : ((kcall Tryz.kTab.get Tryz.X2 50001 6 [.int .i64 (.ofNat 48), .bool true, .bool true] .empty).map (·.1)) = some (.bool true) := by kernel_rfl
theorem Tryz.ends_48tf : ((kcall Tryz.kTab.get Tryz.X2 50001 6 [.int .i64 (.ofNat 48), .bool true, .bool false] .empty).map (·.1)) = some (.bool true) := by kernel_rfl
theorem Tryz.ends_48ft : ((kcall Tryz.kTab.get Tryz.X2 50001 6 [.int .i64 (.ofNat 48), .bool false, .bool true] .empty).map (·.1)) = some (.bool true) := by kernel_rfl
theorem Tryz.ends_48ff : ((kcall Tryz.kTab.get Tryz.X2 50001 6 [.int .i64 (.ofNat 48), .bool false, .bool false] .empty).map (·.1)) = some (.bool true) := by kernel_rfl
end Go.Proofs
