/- General laws of the proof: a shadow machine of the form, its soundness, and a compiled form of it. -/
import Derived.Test.YtflmnikjipdhkaaGreatDoorSh12
import Derived.Test.YtflmnikjipdhkaaGreatDoorSh17
set_option linter.unusedVariables false
set_option linter.unusedSimpArgs false
set_option linter.unusedSectionVars false
section
/- The shadow machine: one oracle, or another. -/
namespace Go.Sh
section
variable [Held] {P : Program}
noncomputable def xOr (g1 g2 : List SV → H → Option (SV × H)) : List SV → H → Option (SV × H) := fun args h => match g1 args h with
  | some r => some r
  | none => g2 args h
theorem xOr_ok {f : FuncId} {g1 g2 : List SV → H → Option (SV × H)} (h1 : OrOK P (f, g1)) (h2 : OrOK P (f, g2)) : OrOK P (f, xOr g1 g2) := fun args h v h' q => by
  have q : xOr g1 g2 args h = some (v, h') := q
  unfold xOr at q
  split at q
  · rename_i r hr
    cases q
    exact h1 args h v h' hr
  · exact h2 args h v h' q
end
end Go.Sh
end
