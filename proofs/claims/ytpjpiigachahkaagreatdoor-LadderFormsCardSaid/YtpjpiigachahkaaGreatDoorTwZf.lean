/- LadderForms: closed facts of the row and of the card, one by one. -/
import Derived.Test.YtpjpiigachahkaaGreatDoorTwZX
import Derived.JoinedOf
import Derived.SevenTiedAt
set_option linter.unusedVariables false
set_option linter.unusedSimpArgs false
set_option linter.unusedSectionVars false
namespace Go.Proofs.YtpjpiigachahkaaGreatDoor
open Go.Sh Go.ChangeShapes Go.WideShapes Go.ChangeAt Go.RowKit Go.Shelf
set_option maxRecDepth 100000
attribute [local instance] powHeld
theorem card_main : Tryz.prog.mainIs = some (true, "84024fc5dd4583f0200a66df708927dde5427f888f47d13860b4e0bc0fc12d16".toList) := by kernel_rfl
theorem card_wf:Rows.ladderFormsRow.wfByText (OpenSpec.ofChange Rows.ladderFormsSpec)=true:=by kernel_rfl
theorem card_stand36:(!Tryz.prog.wantsStandIn 36)=true:=by kernel_rfl
theorem card_stand37:(!Tryz.prog.wantsStandIn 37)=true:=by kernel_rfl
end Go.Proofs.YtpjpiigachahkaaGreatDoor
