/- Bytes: what the laws themselves call. -/
import Derived.Test.YtfcdldibfdoljaaTyI
set_option linter.unusedVariables false
set_option linter.unusedSimpArgs false
set_option linter.unusedSectionVars false
namespace Go.Proofs
open Go.Sh
set_option linter.unusedVariables false
attribute [local instance] heldNone
noncomputable section
/-- A number brought below another. -/
def rnd (x m : Int) : Int := if x.tmod m < 0 then IntKind.i64.wrap (x.tmod m + m) else x.tmod m
theorem rnd_lt (x : Int) (m : Nat) (hm : 0 < m) (hm' : m < 9223372036854775808) : ∃ r : Nat, rnd x m = r ∧ r < m := by
  have h1 := Int.tmod_lt_of_pos x (b := (m : Int)) (by omega)
  have h4 := Int.tmod_eq_emod (a := x) (b := (m : Int))
  have h5 : 0 ≤ x % (m : Int) := Int.emod_nonneg x (by omega)
  have h6 : x % (m : Int) < m := Int.emod_lt_of_pos x (by omega)
  unfold rnd
  split
  · have : 0 ≤ x.tmod m + m ∧ x.tmod m + m < m := by
      split at h4 <;> omega
    rw [wrap_i64 (by omega) (by omega)]
    exact ⟨(x.tmod m + m).toNat, by omega, by omega⟩
  · exact ⟨(x.tmod m).toNat, by omega, by omega⟩
theorem Try.round (x : Int) (m : Nat) (hm : 0 < m) (h : H) : Try.lc 20 [.int .i64 x, .int .i64 m] h = some (.int .i64 (rnd x m), h) := by
  refine Try.en (n := 1) (kf := Try.k20) (by kernel_rfl) ?_
  rw [Try.k20_eq, enter_eq]
  have e1 : arithInt .rem .i64 x m = some (x.tmod m) := by
    unfold arithInt
    simp
    omega
  unfold rnd
  by_cases hn : x.tmod m < 0
  · have e2 : ltI (x.tmod m) 0 = true := by rw [ltI_eq]; simpa using hn
    simp [argsP, kr, bO_mk, kx, vAr, vLt, vAdd, i2, e1, e2, hn, wrapS_eq, kfin, kresL, kres, oneS]
  · have e2 : ltI (x.tmod m) 0 = false := by rw [ltI_eq]; simpa using hn
    simp [argsP, kr, bO_mk, kx, vAr, vLt, vAdd, i2, e1, e2, hn, wrapS_eq, kfin, kresL, kres, oneS]
end
end Go.Proofs
