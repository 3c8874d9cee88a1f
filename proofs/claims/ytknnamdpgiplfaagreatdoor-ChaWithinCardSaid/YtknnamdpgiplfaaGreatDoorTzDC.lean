/- ChaWithin: the card. -/
import Derived.Test.YtknnamdpgiplfaaGreatDoorTzDR
import Derived.Test.YtknnamdpgiplfaaGreatDoorTzDd
import Derived.Test.YtknnamdpgiplfaaGreatDoorTzDe
import Derived.Test.YtknnamdpgiplfaaGreatDoorTzDf
import Derived.Test.YtknnamdpgiplfaaGreatDoorSh21
import Derived.Test.YtknnamdpgiplfaaGreatDoorTie
import Derived.Test.YtknnamdpgiplfaaGreatDoorCards
import Derived.LaidMore
import Derived.Lay
import Derived.OpenShut
import Derived.SevenTiedAt
import Derived.Stop.Joined
import Derived.Carry
import Derived.Lib.LaidTab
set_option linter.unusedVariables false
set_option linter.unusedSimpArgs false
set_option linter.unusedSectionVars false
namespace Go.Proofs.YtknnamdpgiplfaaGreatDoor
open Go.Sh Go.ChangeShapes Go.WideShapes Go.ChangeAt Go.RowKit Go.Shelf
set_option maxRecDepth 100000
attribute [local instance] powHeld
theorem law_card : Rows.ChaWithinCardSaid :=
  Claim7.holds_tied_plain_at .later [] [.data, .data, .data, .data, .sentinel, .sentinel, .pinned] true (true, "5dfc7ed6670b54fba07d38c89f97b12fc76aff73d3c570a4e2d5e950e9450658") true
    row_holds (fun _ h => by cases h) card_wf (fun _ h => by cases h) chaWithin_row_tie rfl ⟨rfl, rfl⟩ card_main rfl
    (fun f fn hf hfn => by
      obtain rfl : f = 3 := Option.some.inj (row_func.symm.trans hf) |>.symm
      obtain rfl : fn = Tryz.f3 := (Option.some.inj (Tryz.func3.symm.trans hfn)).symm
      exact ⟨card_looks, fun j t ht => by
        rw [Tryz.params3] at ht
        have hm : t = 25 := by simpa using Array.mem_of_getElem? ht
        subst hm
        exact (show Tryz.prog.wantsStandIn 25 = false by simpa using card_stand25)⟩)
    card_goes
#print axioms law_card
end Go.Proofs.YtknnamdpgiplfaaGreatDoor
