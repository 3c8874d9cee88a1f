/- VerifyEnds: what it answers. -/
import Derived.Test.YtkdlbghfcogdaaaGreatDoorTzEndsP0
import Derived.Test.YtkdlbghfcogdaaaGreatDoorTzEndsP1
import Derived.Test.YtkdlbghfcogdaaaGreatDoorTzEndsP2
import Derived.Test.YtkdlbghfcogdaaaGreatDoorTzEndsP3
import Derived.Test.YtkdlbghfcogdaaaGreatDoorTzEndsP4
import Derived.Test.YtkdlbghfcogdaaaGreatDoorTzEndsP5
set_option linter.unusedVariables false
set_option linter.unusedSimpArgs false
set_option linter.unusedSectionVars false
namespace Go.Proofs
open Go.Sh
set_option maxRecDepth 100000
theorem Tryz.ends_neg (m : Nat) (a b : Bool) : ((kcall Tryz.kTab.get Tryz.X2 50001 6 [.int .i64 (.negSucc m), .bool a, .bool b] .empty).map (·.1)) = some (.bool true) := by kernel_rfl
theorem Tryz.ends_big (m : Nat) (a b : Bool) : ((kcall Tryz.kTab.get Tryz.X2 50001 6 [.int .i64 (.ofNat (m + 51)), .bool a, .bool b] .empty).map (·.1)) = some (.bool true) := by kernel_rfl
theorem Tryz.ends_all (n : Nat) (a b : Bool) : ((kcall Tryz.kTab.get Tryz.X2 50001 6 [.int .i64 (.ofNat n), .bool a, .bool b] .empty).map (·.1)) = some (.bool true) := by
  match n, a, b with
  | 0, true, true => exact Tryz.ends_0tt
  | 0, true, false => exact Tryz.ends_0tf
  | 0, false, true => exact Tryz.ends_0ft
  | 0, false, false => exact Tryz.ends_0ff
  | 1, true, true => exact Tryz.ends_1tt
  | 1, true, false => exact Tryz.ends_1tf
  | 1, false, true => exact Tryz.ends_1ft
  | 1, false, false => exact Tryz.ends_1ff
  | 2, true, true => exact Tryz.ends_2tt
  | 2, true, false => exact Tryz.ends_2tf
  | 2, false, true => exact Tryz.ends_2ft
  | 2, false, false => exact Tryz.ends_2ff
  | 3, true, true => exact Tryz.ends_3tt
  | 3, true, false => exact Tryz.ends_3tf
  | 3, false, true => exact Tryz.ends_3ft
  | 3, false, false => exact Tryz.ends_3ff
  | 4, true, true => exact Tryz.ends_4tt
  | 4, true, false => exact Tryz.ends_4tf
  | 4, false, true => exact Tryz.ends_4ft
  | 4, false, false => exact Tryz.ends_4ff
  | 5, true, true => exact Tryz.ends_5tt
  | 5, true, false => exact Tryz.ends_5tf
  | 5, false, true => exact Tryz.ends_5ft
  | 5, false, false => exact Tryz.ends_5ff
  | 6, true, true => exact Tryz.ends_6tt
  | 6, true, false => exact Tryz.ends_6tf
  | 6, false, true => exact Tryz.ends_6ft
  | 6, false, false => exact Tryz.ends_6ff
  | 7, true, true => exact Tryz.ends_7tt
  | 7, true, false => exact Tryz.ends_7tf
  | 7, false, true => exact Tryz.ends_7ft
  | 7, false, false => exact Tryz.ends_7ff
  | 8, true, true => exact Tryz.ends_8tt
  | 8, true, false => exact Tryz.ends_8tf
  | 8, false, true => exact Tryz.ends_8ft
  | 8, false, false => exact Tryz.ends_8ff
  | 9, true, true => exact Tryz.ends_9tt
  | 9, true, false => exact Tryz.ends_9tf
  | 9, false, true => exact Tryz.ends_9ft
  | 9, false, false => exact Tryz.ends_9ff
  | 10, true, true => exact Tryz.ends_10tt
  | 10, true, false => exact Tryz.ends_10tf
  | 10, false, true => exact Tryz.ends_10ft
  | 10, false, false => exact Tryz.ends_10ff
  | 11, true, true => exact Tryz.ends_11tt
  | 11, true, false => exact Tryz.ends_11tf
  | 11, false, true => exact Tryz.ends_11ft
  | 11, false, false => exact Tryz.ends_11ff
  | 12, true, true => exact Tryz.ends_12tt
  | 12, true, false => exact Tryz.ends_12tf
  | 12, false, true => exact Tryz.ends_12ft
  | 12, false, false => exact Tryz.ends_12ff
  | 13, true, true => exact Tryz.ends_13tt
  | 13, true, false => exact Tryz.ends_13tf
  | 13, false, true => exact Tryz.ends_13ft
  | 13, false, false => exact Tryz.ends_13ff
  | 14, true, true => exact Tryz.ends_14tt
  | 14, true, false => exact Tryz.ends_14tf
  | 14, false, true => exact Tryz.ends_14ft
  | 14, false, false => exact Tryz.ends_14ff
  | 15, true, true => exact Tryz.ends_15tt
  | 15, true, false => exact Tryz.ends_15tf
  | 15, false, true => exact Tryz.ends_15ft
  | 15, false, false => exact Tryz.ends_15ff
  | 16, true, true => exact Tryz.ends_16tt
  | 16, true, false => exact Tryz.ends_16tf
  | 16, false, true => exact Tryz.ends_16ft
  | 16, false, false => exact Tryz.ends_16ff
  | 17, true, true => exact Tryz.ends_17tt
  | 17, true, false => exact Tryz.ends_17tf
  | 17, false, true => exact Tryz.ends_17ft
  | 17, false, false => exact Tryz.ends_17ff
  | 18, true, true => exact Tryz.ends_18tt
  | 18, true, false => exact Tryz.ends_18tf
  | 18, false, true => exact Tryz.ends_18ft
  | 18, false, false => exact Tryz.ends_18ff
  | 19, true, true => exact Tryz.ends_19tt
  | 19, true, false => exact Tryz.ends_19tf
  | 19, false, true => exact Tryz.ends_19ft
  | 19, false, false => exact Tryz.ends_19ff
  | 20, true, true => exact Tryz.ends_20tt
  | 20, true, false => exact Tryz.ends_20tf
  | 20, false, true => exact Tryz.ends_20ft
  | 20, false, false => exact Tryz.ends_20ff
  | 21, true, true => exact Tryz.ends_21tt
  | 21, true, false => exact Tryz.ends_21tf
  | 21, false, true => exact Tryz.ends_21ft
  | 21, false, false => exact Tryz.ends_21ff
  | 22, true, true => exact Tryz.ends_22tt
  | 22, true, false => exact Tryz.ends_22tf
  | 22, false, true => exact Tryz.ends_22ft
  | 22, false, false => exact Tryz.ends_22ff
  | 23, true, true => exact Tryz.ends_23tt
  | 23, true, false => exact Tryz.ends_23tf
  | 23, false, true => exact Tryz.ends_23ft
  | 23, false, false => exact Tryz.ends_23ff
  | 24, true, true => exact Tryz.ends_24tt
  | 24, true, false => exact Tryz.ends_24tf
  | 24, false, true => exact Tryz.ends_24ft
  | 24, false, false => exact Tryz.ends_24ff
  | 25, true, true => exact Tryz.ends_25tt
  | 25, true, false => exact Tryz.ends_25tf
  | 25, false, true => exact Tryz.ends_25ft
  | 25, false, false => exact Tryz.ends_25ff
  | 26, true, true => exact Tryz.ends_26tt
  | 26, true, false => exact Tryz.ends_26tf
  | 26, false, true => exact Tryz.ends_26ft
  | 26, false, false => exact Tryz.ends_26ff
  | 27, true, true => exact Tryz.ends_27tt
  | 27, true, false => exact Tryz.ends_27tf
  | 27, false, true => exact Tryz.ends_27ft
  | 27, false, false => exact Tryz.ends_27ff
  | 28, true, true => exact Tryz.ends_28tt
  | 28, true, false => exact Tryz.ends_28tf
  | 28, false, true => exact Tryz.ends_28ft
  | 28, false, false => exact Tryz.ends_28ff
  | 29, true, true => exact Tryz.ends_29tt
  | 29, true, false => exact Tryz.ends_29tf
  | 29, false, true => exact Tryz.ends_29ft
  | 29, false, false => exact Tryz.ends_29ff
  | 30, true, true => exact Tryz.ends_30tt
  | 30, true, false => exact Tryz.ends_30tf
  | 30, false, true => exact Tryz.ends_30ft
  | 30, false, false => exact Tryz.ends_30ff
  | 31, true, true => exact Tryz.ends_31tt
  | 31, true, false => exact Tryz.ends_31tf
  | 31, false, true => exact Tryz.ends_31ft
  | 31, false, false => exact Tryz.ends_31ff
  | 32, true, true => exact Tryz.ends_32tt
  | 32, true, false => exact Tryz.ends_32tf
  | 32, false, true => exact Tryz.ends_32ft
  | 32, false, false => exact Tryz.ends_32ff
  | 33, true, true => exact Tryz.ends_33tt
  | 33, true, false => exact Tryz.ends_33tf
  | 33, false, true => exact Tryz.ends_33ft
  | 33, false, false => exact Tryz.ends_33ff
  | 34, true, true => exact Tryz.ends_34tt
  | 34, true, false => exact Tryz.ends_34tf
  | 34, false, true => exact Tryz.ends_34ft
  | 34, false, false => exact Tryz.ends_34ff
  | 35, true, true => exact Tryz.ends_35tt
  | 35, true, false => exact Tryz.ends_35tf
  | 35, false, true => exact Tryz.ends_35ft
  | 35, false, false => exact Tryz.ends_35ff
  | 36, true, true => exact Tryz.ends_36tt
  | 36, true, false => exact Tryz.ends_36tf
  | 36, false, true => exact Tryz.ends_36ft
  | 36, false, false => exact Tryz.ends_36ff
  | 37, true, true => exact Tryz.ends_37tt
  | 37, true, false => exact Tryz.ends_37tf
  | 37, false, true => exact Tryz.ends_37ft
  | 37, false, false => exact Tryz.ends_37ff
  | 38, true, true => exact Tryz.ends_38tt
  | 38, true, false => exact Tryz.ends_38tf
  | 38, false, true => exact Tryz.ends_38ft
  | 38, false, false => exact Tryz.ends_38ff
  | 39, true, true => exact Tryz.ends_39tt
  | 39, true, false => exact Tryz.ends_39tf
  | 39, false, true => exact Tryz.ends_39ft
  | 39, false, false => exact Tryz.ends_39ff
  | 40, true, true => exact Tryz.ends_40tt
  | 40, true, false => exact Tryz.ends_40tf
  | 40, false, true => exact Tryz.ends_40ft
  | 40, false, false => exact Tryz.ends_40ff
  | 41, true, true => exact Tryz.ends_41tt
  | 41, true, false => exact Tryz.ends_41tf
  | 41, false, true => exact Tryz.ends_41ft
  | 41, false, false => exact Tryz.ends_41ff
  | 42, true, true => exact Tryz.ends_42tt
  | 42, true, false => exact Tryz.ends_42tf
  | 42, false, true => exact Tryz.ends_42ft
  | 42, false, false => exact Tryz.ends_42ff
  | 43, true, true => exact Tryz.ends_43tt
  | 43, true, false => exact Tryz.ends_43tf
  | 43, false, true => exact Tryz.ends_43ft
  | 43, false, false => exact Tryz.ends_43ff
  | 44, true, true => exact Tryz.ends_44tt
  | 44, true, false => exact Tryz.ends_44tf
  | 44, false, true => exact Tryz.ends_44ft
  | 44, false, false => exact Tryz.ends_44ff
  | 45, true, true => exact Tryz.ends_45tt
  | 45, true, false => exact Tryz.ends_45tf
  | 45, false, true => exact Tryz.ends_45ft
  | 45, false, false => exact Tryz.ends_45ff
  | 46, true, true => exact Tryz.ends_46tt
  | 46, true, false => exact Tryz.ends_46tf
  | 46, false, true => exact Tryz.ends_46ft
  | 46, false, false => exact Tryz.ends_46ff
  | 47, true, true => exact Tryz.ends_47tt
  | 47, true, false => exact Tryz.ends_47tf
  | 47, false, true => exact Tryz.ends_47ft
  | 47, false, false => exact Tryz.ends_47ff
  | 48, true, true => exact Tryz.ends_48tt
  | 48, true, false => exact Tryz.ends_48tf
  | 48, false, true => exact Tryz.ends_48ft
  | 48, false, false => exact Tryz.ends_48ff
  | 49, true, true => exact Tryz.ends_49tt
  | 49, true, false => exact Tryz.ends_49tf
  | 49, false, true => exact Tryz.ends_49ft
  | 49, false, false => exact Tryz.ends_49ff
  | 50, true, true => exact Tryz.ends_50tt
  | 50, true, false => exact Tryz.ends_50tf
  | 50, false, true => exact Tryz.ends_50ft
  | 50, false, false => exact Tryz.ends_50ff
  | m + 51, a, b => exact Tryz.ends_big m a b
theorem Tryz.run6 (k : Int) (a b : Bool) : ∃ h', kcall Tryz.kTab.get Tryz.X2 50001 6 [.int .i64 k, .bool a, .bool b] .empty = some (.bool true, h') := by
  have h1 : ((kcall Tryz.kTab.get Tryz.X2 50001 6 [.int .i64 k, .bool a, .bool b] .empty).map (·.1)) = some (.bool true) := by
    cases k with
    | ofNat n => exact Tryz.ends_all n a b
    | negSucc m => exact Tryz.ends_neg m a b
  cases h2 : kcall Tryz.kTab.get Tryz.X2 50001 6 [.int .i64 k, .bool a, .bool b] .empty with
  | none => rw [h2] at h1; cases h1
  | some r =>
    rw [h2] at h1
    obtain ⟨v, h'⟩ := r
    cases h1
    exact ⟨h', rfl⟩
end Go.Proofs
