/- LadderForms: the row. -/
import Derived.Test.YtpjpiigachahkaaGreatDoorTwZa
import Derived.Test.YtpjpiigachahkaaGreatDoorTwZb
import Derived.Test.YtpjpiigachahkaaGreatDoorTwZc
import Derived.JoinedOf
set_option linter.unusedVariables false
set_option linter.unusedSimpArgs false
set_option linter.unusedSectionVars false
namespace Go.Proofs.YtpjpiigachahkaaGreatDoor
open Go.Sh Go.ChangeShapes Go.WideShapes Go.ChangeAt Go.RowKit Go.Shelf
set_option maxRecDepth 100000
theorem row_facts:joinedFacts Tryz.prog 4 Tryz.f4 Rows.ladderFormsSpec Rows.ladderFormsRow=true:=by
 unfold joinedFacts
 repeat' with_reducible refine Bool.and_eq_true_iff.2 ⟨?_,?_⟩
 all_goals first
  | with_reducible exact Tryz.laidOut
  | with_reducible exact row_inp
  | with_reducible exact row_unf
  | with_reducible exact row_recs
  | with_reducible exact row_named
  | with_reducible exact row_rowed
  | with_reducible exact row_enter
  | with_reducible exact row_heard
  | with_reducible exact row_lift
  | with_reducible exact row_make
  | with_reducible exact row_tie
  | kernel_rfl
theorem row_inst:Tryz.f4.isInstance Tryz.prog Rows.ladderFormsRow.origin Rows.ladderFormsRow.targs:=of_decide_eq_true (by kernel_rfl)
theorem row_wrap:Tryz.f4.isWrapper Tryz.prog Rows.ladderFormsRow.wrapper Rows.ladderFormsRow.mainSum:=by
 unfold Func.isWrapper;first | (rw [if_pos (by decide +kernel)];kernel_rfl) | (rw [if_neg (by decide +kernel)];exact ⟨rfl,rfl⟩)
theorem row_holds:Rows.LadderFormsSaid:=
 OpenClaim.holds_of_wide 4 Tryz.f4 rfl rfl rfl rfl rfl rfl rfl ⟨rfl,rfl,rfl,rfl,rfl⟩ rfl rfl rfl rfl rfl row_func Tryz.func4 row_facts row_inst row_wrap
  (λ os started H enc _=>law_lifted os started H enc)
end Go.Proofs.YtpjpiigachahkaaGreatDoor
