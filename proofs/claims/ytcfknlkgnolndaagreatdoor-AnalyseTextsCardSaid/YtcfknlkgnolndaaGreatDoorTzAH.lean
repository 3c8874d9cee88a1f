/- AnalyseTexts: the card. -/
import Derived.Test.YtcfknlkgnolndaaGreatDoorTzAG
import Derived.Test.YtcfknlkgnolndaaGreatDoorTzAGd
import Derived.Test.YtcfknlkgnolndaaGreatDoorTzAGe
import Derived.Test.YtcfknlkgnolndaaGreatDoorTzAGf
import Derived.Test.YtcfknlkgnolndaaGreatDoorSh21
import Derived.Test.YtcfknlkgnolndaaGreatDoorTie
import Derived.Test.YtcfknlkgnolndaaGreatDoorCards
import Derived.LaidMore
import Derived.Lay
import Derived.OpenShut
import Derived.SevenTiedAt
import Derived.Stop.Joined
import Derived.Carry
import Derived.Lib.LaidTab
set_option linter.unusedVariables false
set_option linter.unusedSimpArgs false
set_option linter.unusedSectionVars false
namespace Go.Proofs.YtcfknlkgnolndaaGreatDoor
open Go.Sh Go.ChangeShapes Go.WideShapes Go.ChangeAt Go.RowKit Go.Shelf
set_option maxRecDepth 100000
attribute [local instance] powHeld
theorem texts_card : Rows.AnalyseTextsCardSaid :=
  Claim7.holds_tied_plain_at .later [] [.data, .data, .data, .data, .sentinel, .sentinel, .pinned] true (true, "aa760101097e6b564c983772a5e065727eb7dbbfc9471e97f21e253367497a13") true
    texts_holds (fun _ h => by cases h) card_wf (fun _ h => by cases h) analyseTexts_row_tie rfl ⟨rfl, rfl⟩ card_main rfl
    (fun f fn hf hfn => by
      obtain rfl : f = 5 := Option.some.inj (row_func.symm.trans hf) |>.symm
      obtain rfl : fn = Tryz.f5 := (Option.some.inj (Tryz.func5.symm.trans hfn)).symm
      exact ⟨card_looks, fun j t ht => by
        rw [Tryz.params5] at ht
        have hm : t ∈ [3, 3, 3, 9, 3, 3] := by simpa using Array.mem_of_getElem? ht
        exact (show Tryz.prog.wantsStandIn t = false by simpa using List.all_eq_true.1 card_stand t hm)⟩)
    card_goes
#print axioms texts_card
end Go.Proofs.YtcfknlkgnolndaaGreatDoor
