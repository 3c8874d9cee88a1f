/- LadderForms: closed facts of the row and of the card, one by one. -/
import Derived.Test.YtpjpiigachahkaaGreatDoorTwZX
import Derived.JoinedOf
import Derived.SevenTiedAt
set_option linter.unusedVariables false
set_option linter.unusedSimpArgs false
set_option linter.unusedSectionVars false
namespace Go.Proofs.YtpjpiigachahkaaGreatDoor
open Go.Sh Go.ChangeShapes Go.WideShapes Go.ChangeAt Go.RowKit Go.Shelf
set_option maxRecDepth 100000
attribute [local instance] powHeld
theorem card_looks:true=Tryz.prog.looks []:=by kernel_rfl
end Go.Proofs.YtpjpiigachahkaaGreatDoor
