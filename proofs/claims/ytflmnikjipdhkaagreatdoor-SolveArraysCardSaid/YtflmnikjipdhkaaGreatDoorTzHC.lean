/- SolveArrays: the card. -/
import Derived.Test.YtflmnikjipdhkaaGreatDoorTzHR
import Derived.Test.YtflmnikjipdhkaaGreatDoorTzHd
import Derived.Test.YtflmnikjipdhkaaGreatDoorTzHe
import Derived.Test.YtflmnikjipdhkaaGreatDoorTzHf
import Derived.Test.YtflmnikjipdhkaaGreatDoorSh16
import Derived.Test.YtflmnikjipdhkaaGreatDoorTie
import Derived.Test.YtflmnikjipdhkaaGreatDoorCards
import Derived.LaidMore
import Derived.Lay
import Derived.OpenShut
import Derived.SevenTiedAt
import Derived.Stop.Joined
import Derived.Carry
import Derived.Lib.LaidTab
set_option linter.unusedVariables false
set_option linter.unusedSimpArgs false
set_option linter.unusedSectionVars false
namespace Go.Proofs.YtflmnikjipdhkaaGreatDoor
open Go.Sh Go.ChangeShapes Go.WideShapes Go.ChangeAt Go.RowKit Go.Shelf
set_option maxRecDepth 100000
attribute [local instance] powHeld
theorem law_card : Rows.SolveArraysCardSaid :=
  Claim7.holds_tied_plain_at .later [] [.data, .data, .data, .data, .sentinel, .sentinel, .pinned] true (true, "cef0be740e3b27318c26b9fa094add41e73477ee6d6228d6e7e5ea2822bdfcae") true
    row_holds (fun _ h => by cases h) card_wf (fun _ h => by cases h) solveArrays_row_tie rfl ⟨rfl, rfl⟩ card_main rfl
    (fun f fn hf hfn => by
      obtain rfl : f = 4 := Option.some.inj (row_func.symm.trans hf) |>.symm
      obtain rfl : fn = Tryz.f4 := (Option.some.inj (Tryz.func4.symm.trans hfn)).symm
      exact ⟨card_looks, fun j t ht => by
        rw [Tryz.params4] at ht
        have hm : t = 4 := by simpa using Array.mem_of_getElem? ht
        subst hm
        exact (show Tryz.prog.wantsStandIn 4 = false by simpa using card_stand4)⟩)
    card_goes
#print axioms law_card
end Go.Proofs.YtflmnikjipdhkaaGreatDoor
