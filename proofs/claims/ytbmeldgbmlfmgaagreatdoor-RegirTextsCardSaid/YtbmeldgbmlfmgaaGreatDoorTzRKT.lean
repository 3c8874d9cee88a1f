/- The table of functions. -/
import Derived.Test.YtbmeldgbmlfmgaaGreatDoorTzRK1
set_option linter.unusedVariables false
set_option linter.unusedSimpArgs false
set_option linter.unusedSectionVars false
namespace Go.Proofs
open Go.Sh
noncomputable section
set_option linter.unusedVariables false
def Tryz.kl0 : List (Nat × KF) := [(3, Tryz.k3), (4, Tryz.k4), (5, Tryz.k5), (6, Tryz.k6), (7, Tryz.k7), (8, Tryz.k8), (9, Tryz.k9), (10, Tryz.k10), (11, Tryz.k11), (12, Tryz.k12), (14, Tryz.k14), (16, Tryz.k16), (17, Tryz.k17), (18, Tryz.k18), (19, Tryz.k19), (23, Tryz.k23), (28, Tryz.k28), (36, Tryz.k36), (40, Tryz.k40)]
theorem Tryz.kl0_ok : AllC Tryz.prog Tryz.kl0 := ⟨⟨_, _, Tryz.func3, Tryz.k3_c⟩, ⟨⟨_, _, Tryz.func4, Tryz.k4_c⟩, ⟨⟨_, _, Tryz.func5, Tryz.k5_c⟩, ⟨⟨_, _, Tryz.func6, Tryz.k6_c⟩, ⟨⟨_, _, Tryz.func7, Tryz.k7_c⟩, ⟨⟨_, _, Tryz.func8, Tryz.k8_c⟩, ⟨⟨_, _, Tryz.func9, Tryz.k9_c⟩, ⟨⟨_, _, Tryz.func10, Tryz.k10_c⟩, ⟨⟨_, _, Tryz.func11, Tryz.k11_c⟩, ⟨⟨_, _, Tryz.func12, Tryz.k12_c⟩, ⟨⟨_, _, Tryz.func14, Tryz.k14_c⟩, ⟨⟨_, _, Tryz.func16, Tryz.k16_c⟩, ⟨⟨_, _, Tryz.func17, Tryz.k17_c⟩, ⟨⟨_, _, Tryz.func18, Tryz.k18_c⟩, ⟨⟨_, _, Tryz.func19, Tryz.k19_c⟩, ⟨⟨_, _, Tryz.func23, Tryz.k23_c⟩, ⟨⟨_, _, Tryz.func28, Tryz.k28_c⟩, ⟨⟨_, _, Tryz.func36, Tryz.k36_c⟩, ⟨⟨_, _, Tryz.func40, Tryz.k40_c⟩, trivial⟩⟩⟩⟩⟩⟩⟩⟩⟩⟩⟩⟩⟩⟩⟩⟩⟩⟩⟩
def Tryz.kTab : Tr KF := tabOf (Tryz.kl0)
theorem Tryz.kTab_ok : ∀ f kf, Tryz.kTab.get f = some kf → Compiled Tryz.prog f kf := tabOf_ok Tryz.kl0_ok
end
end Go.Proofs
