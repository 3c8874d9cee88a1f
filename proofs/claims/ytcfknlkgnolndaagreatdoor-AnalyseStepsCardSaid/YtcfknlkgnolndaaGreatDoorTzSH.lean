/- AnalyseSteps: the card. -/
import Derived.Test.YtcfknlkgnolndaaGreatDoorTzSG
import Derived.Test.YtcfknlkgnolndaaGreatDoorTzSGd
import Derived.Test.YtcfknlkgnolndaaGreatDoorTzSGe
import Derived.Test.YtcfknlkgnolndaaGreatDoorTzSGf
import Derived.Test.YtcfknlkgnolndaaGreatDoorSh21
import Derived.Test.YtcfknlkgnolndaaGreatDoorTie
import Derived.Test.YtcfknlkgnolndaaGreatDoorCards
import Derived.LaidMore
import Derived.Lay
import Derived.OpenShut
import Derived.SevenTiedAt
import Derived.Stop.Joined
import Derived.Carry
import Derived.Lib.LaidTab
set_option linter.unusedVariables false
set_option linter.unusedSimpArgs false
set_option linter.unusedSectionVars false
namespace Go.Proofs.YtcfknlkgnolndaaGreatDoor
open Go.Sh Go.ChangeShapes Go.WideShapes Go.ChangeAt Go.RowKit Go.Shelf
set_option maxRecDepth 100000
attribute [local instance] powHeld
theorem steps_card : Rows.AnalyseStepsCardSaid :=
  Claim7.holds_tied_plain_at .later [] [.data, .data, .data, .data, .sentinel, .sentinel, .pinned] true (true, "aa760101097e6b564c983772a5e065727eb7dbbfc9471e97f21e253367497a13") true
    steps_holds (fun _ h => by cases h) card_wf (fun _ h => by cases h) analyseSteps_row_tie rfl ⟨rfl, rfl⟩ card_main rfl
    (fun f fn hf hfn => by
      obtain rfl : f = 6 := Option.some.inj (row_func.symm.trans hf) |>.symm
      obtain rfl : fn = Tryz.f6 := (Option.some.inj (Tryz.func6.symm.trans hfn)).symm
      exact ⟨card_looks, fun j t ht => by
        rw [Tryz.params6] at ht
        have hm : t = 4 := by simpa using Array.mem_of_getElem? ht
        subst hm
        exact (show Tryz.prog.wantsStandIn 4 = false by simpa using card_stand)⟩)
    card_goes
#print axioms steps_card
end Go.Proofs.YtcfknlkgnolndaaGreatDoor
