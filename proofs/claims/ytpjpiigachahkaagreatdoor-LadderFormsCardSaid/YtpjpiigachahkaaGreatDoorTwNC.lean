/- 'awake' of LadderForms answers true: a run of the compiled machine. -/
import Derived.Test.YtpjpiigachahkaaGreatDoorTwNA
import Derived.Test.YtpjpiigachahkaaGreatDoorSh20
set_option linter.unusedVariables false
set_option linter.unusedSimpArgs false
set_option linter.unusedSectionVars false
namespace Go.Proofs
open Go.Sh
set_option maxRecDepth 100000
attribute [local instance] powHeld
noncomputable def Tryz.OLa:OrL:=[(244,xIndex),(149,xOr (xSorted 206) (xSorted 219)),(154,xNoKeys 224 156)]
noncomputable def Tryz.Xa:FuncId→Option (List SV→H→Option (SV × H)):=orGet Tryz.Xn Tryz.OLa
theorem Tryz.awakeRun:((kcall Tryz.kTab.get Tryz.Xa 200000 13 [] .empty).map (·.1))=some (.bool true):=by kernel_rfl
end Go.Proofs
