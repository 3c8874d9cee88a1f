/- The table of functions. -/
import Derived.Test.YtfcdldibfdoljaaDoorTyZK1
set_option linter.unusedVariables false
set_option linter.unusedSimpArgs false
set_option linter.unusedSectionVars false
namespace Go.Proofs
open Go.Sh
noncomputable section
set_option linter.unusedVariables false
def Tryd.kl0 : List (Nat × KF) := [(3, Tryd.k3), (4, Tryd.k4), (5, Tryd.k5), (6, Tryd.k6), (7, Tryd.k7), (8, Tryd.k8), (9, Tryd.k9), (10, Tryd.k10), (11, Tryd.k11), (12, Tryd.k12), (13, Tryd.k13), (14, Tryd.k14), (15, Tryd.k15), (16, Tryd.k16), (17, Tryd.k17), (18, Tryd.k18), (19, Tryd.k19), (20, Tryd.k20), (22, Tryd.k22), (23, Tryd.k23), (24, Tryd.k24), (25, Tryd.k25), (26, Tryd.k26), (27, Tryd.k27), (28, Tryd.k28)]
theorem Tryd.kl0_ok : AllC Tryd.prog Tryd.kl0 := ⟨⟨_, _, Tryd.func3, Tryd.k3_c⟩, ⟨⟨_, _, Tryd.func4, Tryd.k4_c⟩, ⟨⟨_, _, Tryd.func5, Tryd.k5_c⟩, ⟨⟨_, _, Tryd.func6, Tryd.k6_c⟩, ⟨⟨_, _, Tryd.func7, Tryd.k7_c⟩, ⟨⟨_, _, Tryd.func8, Tryd.k8_c⟩, ⟨⟨_, _, Tryd.func9, Tryd.k9_c⟩, ⟨⟨_, _, Tryd.func10, Tryd.k10_c⟩, ⟨⟨_, _, Tryd.func11, Tryd.k11_c⟩, ⟨⟨_, _, Tryd.func12, Tryd.k12_c⟩, ⟨⟨_, _, Tryd.func13, Tryd.k13_c⟩, ⟨⟨_, _, Tryd.func14, Tryd.k14_c⟩, ⟨⟨_, _, Tryd.func15, Tryd.k15_c⟩, ⟨⟨_, _, Tryd.func16, Tryd.k16_c⟩, ⟨⟨_, _, Tryd.func17, Tryd.k17_c⟩, ⟨⟨_, _, Tryd.func18, Tryd.k18_c⟩, ⟨⟨_, _, Tryd.func19, Tryd.k19_c⟩, ⟨⟨_, _, Tryd.func20, Tryd.k20_c⟩, ⟨⟨_, _, Tryd.func22, Tryd.k22_c⟩, ⟨⟨_, _, Tryd.func23, Tryd.k23_c⟩, ⟨⟨_, _, Tryd.func24, Tryd.k24_c⟩, ⟨⟨_, _, Tryd.func25, Tryd.k25_c⟩, ⟨⟨_, _, Tryd.func26, Tryd.k26_c⟩, ⟨⟨_, _, Tryd.func27, Tryd.k27_c⟩, ⟨⟨_, _, Tryd.func28, Tryd.k28_c⟩, trivial⟩⟩⟩⟩⟩⟩⟩⟩⟩⟩⟩⟩⟩⟩⟩⟩⟩⟩⟩⟩⟩⟩⟩⟩⟩
def Tryd.kTab : Tr KF := tabOf (Tryd.kl0)
theorem Tryd.kTab_ok : ∀ f kf, Tryd.kTab.get f = some kf → Compiled Tryd.prog f kf := tabOf_ok Tryd.kl0_ok
end
end Go.Proofs
