/- It answers true. -/
import Derived.Test.YtflmnikjipdhkaaGreatDoorTzER4ff
import Derived.Test.YtflmnikjipdhkaaGreatDoorTzER4ft
import Derived.Test.YtflmnikjipdhkaaGreatDoorTzER4tf
import Derived.Test.YtflmnikjipdhkaaGreatDoorTzER4tt
set_option linter.unusedVariables false
set_option linter.unusedSimpArgs false
set_option linter.unusedSectionVars false
namespace Go.Proofs
open Go.Sh
set_option maxRecDepth 100000
attribute [local instance] powHeld
theorem Tryz.run4 : ∀ a b : Bool, ((kcall Tryz.kTab.get Tryz.X4 100000 4 [.bool a, .bool b] .empty).map (·.1)) = some (.bool true)
  | false, false => Tryz.r4ff
  | false, true => Tryz.r4ft
  | true, false => Tryz.r4tf
  | true, true => Tryz.r4tt
theorem Tryz.solve4 (a b : Bool) : ∃ h', Tryz.l4 4 [.bool a, .bool b] .empty = some (.bool true, h') := by
  have h1 := Tryz.run4 a b
  cases h2 : kcall Tryz.kTab.get Tryz.X4 100000 4 [.bool a, .bool b] .empty with
  | none => rw [h2] at h1; cases h1
  | some r =>
    rw [h2] at h1
    obtain ⟨v, h'⟩ := r
    cases h1
    exact ⟨h', kcall_ok (P := Tryz.prog) (X := Tryz.X4) Tryz.kTab_ok 100000 _ _ _ _ h2⟩
end Go.Proofs
