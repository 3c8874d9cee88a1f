/- The table of functions. -/
import Derived.Test.YtfcdldibfdoljaaTyK1
set_option linter.unusedVariables false
set_option linter.unusedSimpArgs false
set_option linter.unusedSectionVars false
namespace Go.Proofs
open Go.Sh
noncomputable section
set_option linter.unusedVariables false
def Try.kl0 : List (Nat × KF) := [(3, Try.k3), (4, Try.k4), (5, Try.k5), (6, Try.k6), (7, Try.k7), (8, Try.k8), (9, Try.k9), (10, Try.k10), (11, Try.k11), (12, Try.k12), (13, Try.k13), (14, Try.k14), (15, Try.k15), (16, Try.k16), (17, Try.k17), (18, Try.k18), (19, Try.k19), (20, Try.k20), (21, Try.k21), (22, Try.k22), (23, Try.k23), (24, Try.k24), (25, Try.k25), (26, Try.k26), (27, Try.k27), (28, Try.k28), (29, Try.k29), (30, Try.k30), (31, Try.k31), (32, Try.k32), (33, Try.k33), (34, Try.k34)]
theorem Try.kl0_ok : AllC Try.prog Try.kl0 := ⟨⟨_, _, Try.func3, Try.k3_c⟩, ⟨⟨_, _, Try.func4, Try.k4_c⟩, ⟨⟨_, _, Try.func5, Try.k5_c⟩, ⟨⟨_, _, Try.func6, Try.k6_c⟩, ⟨⟨_, _, Try.func7, Try.k7_c⟩, ⟨⟨_, _, Try.func8, Try.k8_c⟩, ⟨⟨_, _, Try.func9, Try.k9_c⟩, ⟨⟨_, _, Try.func10, Try.k10_c⟩, ⟨⟨_, _, Try.func11, Try.k11_c⟩, ⟨⟨_, _, Try.func12, Try.k12_c⟩, ⟨⟨_, _, Try.func13, Try.k13_c⟩, ⟨⟨_, _, Try.func14, Try.k14_c⟩, ⟨⟨_, _, Try.func15, Try.k15_c⟩, ⟨⟨_, _, Try.func16, Try.k16_c⟩, ⟨⟨_, _, Try.func17, Try.k17_c⟩, ⟨⟨_, _, Try.func18, Try.k18_c⟩, ⟨⟨_, _, Try.func19, Try.k19_c⟩, ⟨⟨_, _, Try.func20, Try.k20_c⟩, ⟨⟨_, _, Try.func21, Try.k21_c⟩, ⟨⟨_, _, Try.func22, Try.k22_c⟩, ⟨⟨_, _, Try.func23, Try.k23_c⟩, ⟨⟨_, _, Try.func24, Try.k24_c⟩, ⟨⟨_, _, Try.func25, Try.k25_c⟩, ⟨⟨_, _, Try.func26, Try.k26_c⟩, ⟨⟨_, _, Try.func27, Try.k27_c⟩, ⟨⟨_, _, Try.func28, Try.k28_c⟩, ⟨⟨_, _, Try.func29, Try.k29_c⟩, ⟨⟨_, _, Try.func30, Try.k30_c⟩, ⟨⟨_, _, Try.func31, Try.k31_c⟩, ⟨⟨_, _, Try.func32, Try.k32_c⟩, ⟨⟨_, _, Try.func33, Try.k33_c⟩, ⟨⟨_, _, Try.func34, Try.k34_c⟩, trivial⟩⟩⟩⟩⟩⟩⟩⟩⟩⟩⟩⟩⟩⟩⟩⟩⟩⟩⟩⟩⟩⟩⟩⟩⟩⟩⟩⟩⟩⟩⟩⟩
def Try.kTab : Tr KF := tabOf (Try.kl0)
theorem Try.kTab_ok : ∀ f kf, Try.kTab.get f = some kf → Compiled Try.prog f kf := tabOf_ok Try.kl0_ok
end
end Go.Proofs
