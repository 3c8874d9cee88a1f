/- LadderForms: the oracles of the contracts. -/
import Derived.Test.YtpjpiigachahkaaGreatDoorTwAKT
import Derived.Test.YtpjpiigachahkaaGreatDoorSh15
import Derived.Test.YtpjpiigachahkaaGreatDoorSh18
import Derived.Test.YtpjpiigachahkaaGreatDoorSh16
import Derived.Lib.LaidTab
set_option linter.unusedVariables false
set_option linter.unusedSimpArgs false
set_option linter.unusedSectionVars false
namespace Go.Proofs
open Go.Sh
set_option maxRecDepth 100000
noncomputable section
@[reducible] def powHeld:Held:=heldNone
attribute [local instance] powHeld
def Tryz.Xn (f:FuncId):Option (List SV→H→Option (SV × H)):=none
def Tryz.OL:OrL:=[]
def Tryz.X:FuncId→Option (List SV→H→Option (SV × H)):=orGet Tryz.Xn Tryz.OL
def Tryz.OL2:OrL:=[(13,xBool true)]
def Tryz.X2:FuncId→Option (List SV→H→Option (SV × H)):=orGet Tryz.X Tryz.OL2
abbrev Tryz.l2:CF:=(lim Tryz.prog Tryz.X2).call
theorem Tryz.awake13 (h:H):Tryz.l2 13 [] h=some (.bool true,h):=lc_or (g:=xBool true) rfl _ _
theorem Tryz.en {f:FuncId} {kf:KF} (hk:Tryz.kTab.get f=some kf) {n:Nat} {args:List SV} {h:H} {r:SV × H} (e:kenter kf n Tryz.l2 args h=some r) (hX:Tryz.X2 f=none:=by rfl):Tryz.l2 f args h=some r:=lim_enter Tryz.kTab_ok hX hk e
end
end Go.Proofs
