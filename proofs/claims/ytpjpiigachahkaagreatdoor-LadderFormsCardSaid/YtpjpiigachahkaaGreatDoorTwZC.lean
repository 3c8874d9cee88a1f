/- LadderForms: the card. -/
import Derived.Test.YtpjpiigachahkaaGreatDoorTwZR
import Derived.Test.YtpjpiigachahkaaGreatDoorTwZd
import Derived.Test.YtpjpiigachahkaaGreatDoorTwZe
import Derived.Test.YtpjpiigachahkaaGreatDoorTwZf
import Derived.Test.YtpjpiigachahkaaGreatDoorSh21
import Derived.Test.YtpjpiigachahkaaGreatDoorTie
import Derived.Test.YtpjpiigachahkaaGreatDoorCards
import Derived.LaidMore
import Derived.Lay
import Derived.OpenShut
import Derived.SevenTiedAt
import Derived.Stop.Joined
import Derived.Carry
import Derived.Lib.LaidTab
set_option linter.unusedVariables false
set_option linter.unusedSimpArgs false
set_option linter.unusedSectionVars false
namespace Go.Proofs.YtpjpiigachahkaaGreatDoor
open Go.Sh Go.ChangeShapes Go.WideShapes Go.ChangeAt Go.RowKit Go.Shelf
set_option maxRecDepth 100000
attribute [local instance] powHeld
theorem law_card:Rows.LadderFormsCardSaid:=
 Claim7.holds_tied_plain_at .later [] [.data, .data, .data, .data, .sentinel, .sentinel, .pinned] true (true, "84024fc5dd4583f0200a66df708927dde5427f888f47d13860b4e0bc0fc12d16") true
  row_holds (λ _ h=>by cases h) card_wf (λ _ h=>by cases h) ladderForms_row_tie rfl ⟨rfl,rfl⟩ card_main rfl
  (λ f fn hf hfn=>by
   obtain rfl:f=4:=Option.some.inj (row_func.symm.trans hf) |>.symm
   obtain rfl:fn=Tryz.f4:=(Option.some.inj (Tryz.func4.symm.trans hfn)).symm
   exact ⟨card_looks,λ j t ht=>by
    rw [Tryz.params4] at ht
    have hm:t=36∨t=36∨t=37:=by simpa using Array.mem_of_getElem? ht
    rcases hm with rfl | rfl | rfl
    ·exact (show Tryz.prog.wantsStandIn 36=false by simpa using card_stand36)
    ·exact (show Tryz.prog.wantsStandIn 36=false by simpa using card_stand36)
    ·exact (show Tryz.prog.wantsStandIn 37=false by simpa using card_stand37)⟩)
  card_goes
#print axioms law_card
end Go.Proofs.YtpjpiigachahkaaGreatDoor
