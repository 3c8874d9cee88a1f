/- AnalyseSteps: it answers true. -/
import Derived.Test.YtcfknlkgnolndaaGreatDoorTzSPA
import Derived.Test.YtcfknlkgnolndaaGreatDoorTzSPB
import Derived.Test.YtcfknlkgnolndaaGreatDoorTzSPC
import Derived.Test.YtcfknlkgnolndaaGreatDoorTzSPD
import Derived.Test.YtcfknlkgnolndaaGreatDoorTzSPE
set_option linter.unusedVariables false
set_option linter.unusedSimpArgs false
set_option linter.unusedSectionVars false
namespace Go.Proofs
open Go.Sh
set_option linter.unusedVariables false
attribute [local instance] powHeld
theorem Tryz.run6 : ∀ a b c d : Bool, ((kcall Tryz.kTab.get Tryz.X2 100000 6 [.bool a, .bool b, .bool c, .bool d] .empty).map (·.1)) = some (.bool true)
  | false, false, false, false => Tryz.r6ffff
  | false, false, false, true => Tryz.r6ffft
  | false, false, true, false => Tryz.r6fftf
  | false, false, true, true => Tryz.r6fftt
  | false, true, false, false => Tryz.r6ftff
  | false, true, false, true => Tryz.r6ftft
  | false, true, true, false => Tryz.r6fttf
  | false, true, true, true => Tryz.r6fttt
  | true, false, false, false => Tryz.r6tfff
  | true, false, false, true => Tryz.r6tfft
  | true, false, true, false => Tryz.r6tftf
  | true, false, true, true => Tryz.r6tftt
  | true, true, false, false => Tryz.r6ttff
  | true, true, false, true => Tryz.r6ttft
  | true, true, true, false => Tryz.r6tttf
  | true, true, true, true => Tryz.r6tttt
theorem Tryz.steps6 (a b c d : Bool) : ∃ h', Tryz.l2 6 [.bool a, .bool b, .bool c, .bool d] .empty = some (.bool true, h') := by
  have h1 := Tryz.run6 a b c d
  cases h2 : kcall Tryz.kTab.get Tryz.X2 100000 6 [.bool a, .bool b, .bool c, .bool d] .empty with
  | none => rw [h2] at h1; cases h1
  | some r =>
    rw [h2] at h1
    obtain ⟨v, h'⟩ := r
    cases h1
    exact ⟨h', kcall_ok (P := Tryz.prog) (X := Tryz.X2) Tryz.kTab_ok 100000 _ _ _ _ h2⟩
end Go.Proofs
