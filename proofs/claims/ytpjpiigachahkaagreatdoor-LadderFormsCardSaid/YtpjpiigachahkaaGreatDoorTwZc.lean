/- LadderForms: closed facts of the row and of the card, one by one. -/
import Derived.Test.YtpjpiigachahkaaGreatDoorTwZX
import Derived.JoinedOf
import Derived.SevenTiedAt
set_option linter.unusedVariables false
set_option linter.unusedSimpArgs false
set_option linter.unusedSectionVars false
namespace Go.Proofs.YtpjpiigachahkaaGreatDoor
open Go.Sh Go.ChangeShapes Go.WideShapes Go.ChangeAt Go.RowKit Go.Shelf
set_option maxRecDepth 100000
attribute [local instance] powHeld
theorem row_rowed:(mapsRowed Tryz.prog)=true:=by kernel_rfl
theorem row_enter:(Tryz.prog.mayEnter)=true:=by kernel_rfl
theorem row_heard:(Tryz.prog.stopsHeard)=true:=by kernel_rfl
theorem row_lift:(Rows.ladderFormsRow.lifted == Tryz.prog.liftsFinal)=true:=by kernel_rfl
theorem row_make:(Tryz.prog.make == some Rows.ladderFormsRow.make)=true:=by kernel_rfl
theorem row_tie:(namedTie Tryz.prog Rows.ladderFormsRow.named Rows.ladderFormsSpec.vars)=true:=by kernel_rfl
theorem row_func:Tryz.prog.funcNamed Rows.ladderFormsRow.func=some 4:=by kernel_rfl
end Go.Proofs.YtpjpiigachahkaaGreatDoor
