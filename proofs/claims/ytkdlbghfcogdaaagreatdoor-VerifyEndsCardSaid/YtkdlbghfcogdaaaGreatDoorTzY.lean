/- The seat's oracles with 'awake', and the remainder by four. -/
import Derived.Test.YtkdlbghfcogdaaaGreatDoorTzX
import Derived.Test.YtkdlbghfcogdaaaGreatDoorSh14
set_option linter.unusedVariables false
set_option linter.unusedSimpArgs false
set_option linter.unusedSectionVars false
namespace Go.Proofs
open Go.Sh
set_option linter.unusedVariables false
set_option maxRecDepth 100000
noncomputable def Tryz.X2 (f : FuncId) : Option (List SV → H → Option (SV × H)) := bB (Nat.beq f 16) (some (xBool true)) (Tryz.X f)
attribute [local instance] heldNone
theorem Tryz.awake_call : ∀ args h v h', xBool true args h = some (v, h') → ∀ B ι w (us : Array Value), St B ι h w → LRel ι args us.toList → Answers Tryz.prog 16 us w fun v' w' => ∃ ι', VRel ι' v v' ∧ Moves B ι h w ι' h' w' := by
  have h1 := Tryz.awake16
  cases h2 : kcall Tryz.kTab.get Tryz.X 100000 16 [] .empty with
  | none => rw [h2] at h1; cases h1
  | some r =>
    rw [h2] at h1
    obtain ⟨v, h'⟩ := r
    cases h1
    obtain ⟨c, hc⟩ : ∃ c, Tryz.f16.body = some c := Option.isSome_iff_exists.1 (by kernel_rfl)
    exact xBool_ok Tryz.good Tryz.X_ok (kcall_ok Tryz.kTab_ok 100000 _ _ _ _ h2) Tryz.func16 hc (fun _ w _ _ _ => heldNone_at _ w)
theorem Tryz.X2_ok : OracleOK Tryz.prog Tryz.X2 := fun f g e => by
  unfold Tryz.X2 at e
  cases h1 : Nat.beq f 16
  · rw [h1] at e; exact Tryz.X_ok f g e
  · rw [h1] at e; cases e
    have := Nat.eq_of_beq_eq_true h1; subst this
    exact Tryz.awake_call
theorem Tryz.round {k r : Int} (hr : k.emod 4 = r) (n : Nat) (h : H) : kcall Tryz.kTab.get Tryz.X2 (n + 1) 13 [.int .i64 k, .int .i64 4] h = some (.int .i64 r, h) := by
  rw [kcall_run (kf := Tryz.k13) (by kernel_rfl) (by kernel_rfl)]
  obtain ⟨h1, h2⟩ := rem_four k r hr
  have e : argsP Tryz.k13.slots [.int .i64 k, .int .i64 4] .leaf = some (setP (way 1) (.int .i64 4) (setP (way 0) (.int .i64 k) .leaf)) := rfl
  unfold kenter
  rw [e]
  unfold Tryz.k13
  rcases h2 with ⟨h2, h3⟩ | ⟨h2, h3⟩
  · simp [kr, vAr, vLt, vAdd, i2, asI, sameK, kNum, bB, h1, h2, h3, kfin, kresL, kres, oneS]
  · subst h3
    simp [kr, vAr, vLt, vAdd, i2, asI, sameK, kNum, bB, h1, h2, kfin, kresL, kres, oneS]
end Go.Proofs
