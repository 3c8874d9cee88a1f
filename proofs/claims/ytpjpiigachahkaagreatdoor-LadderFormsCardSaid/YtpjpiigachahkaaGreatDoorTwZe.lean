/- LadderForms: closed facts of the row and of the card, one by one. -/
import Derived.Test.YtpjpiigachahkaaGreatDoorTwZX
import Derived.JoinedOf
import Derived.SevenTiedAt
set_option linter.unusedVariables false
set_option linter.unusedSimpArgs false
set_option linter.unusedSectionVars false
namespace Go.Proofs.YtpjpiigachahkaaGreatDoor
open Go.Sh Go.ChangeShapes Go.WideShapes Go.ChangeAt Go.RowKit Go.Shelf
set_option maxRecDepth 100000
attribute [local instance] powHeld
theorem goes_none {P:Program} (h:P.funcs.any Func.goes=false) (f:FuncId):P.goes f=false:=by
 unfold Program.goes
 rw [h,Bool.and_false,Bool.or_false,List.any_eq_false]
 intro g _
 cases hg:P.funcs[g]? with
 | none=>simp
 | some fn=>
  have h2:=Array.any_eq_false.1 h
  obtain ⟨hlt,he⟩:=Array.getElem?_eq_some_iff.1 hg
  have:=h2 g hlt
  rw [he] at this
  simpa using this
theorem no_goes:Tryz.prog.funcs.any Func.goes=false:=by kernel_rfl
theorem card_goes:false=Rows.ladderFormsRow.goesBy Tryz.prog:=by
 have e:Rows.ladderFormsRow.start=.entering:=rfl
 unfold OpenClaim.goesBy Program.goesAt Program.goesFrom
 rw [e]
 cases Tryz.prog.funcNamed Rows.ladderFormsRow.func with
 | none=>rfl
 | some f=>simp [goes_none no_goes f]
end Go.Proofs.YtpjpiigachahkaaGreatDoor
