/- Bytes: the contracts of the reader. -/
import Derived.Test.YtfcdldibfdoljaaTyB
set_option linter.unusedVariables false
set_option linter.unusedSimpArgs false
set_option linter.unusedSectionVars false
namespace Go.Proofs
open Go.Sh
set_option linter.unusedVariables false
attribute [local instance] heldNone
noncomputable section
/-- A reader. -/
structure Rdr (h : H) (p n : Nat) (cs : List SV) (at' : Nat) (failed : Bool) (b : SV) : Prop where
  row : h.get p = some (.cells [b, .int .i64 at', .bool failed] .fixed)
  view : View h 1 b n cs
  apart : ∀ q, isRow b q → q ≠ p
  here : at' ≤ n
  small : n ≤ 1099511627776
theorem Rdr.keep {h h' : H} {p n a : Nat} {f : Bool} {cs : List SV} {b : SV} {S W : Nat → Prop} (r : Rdr h p n cs a f b) (k : Fr S W h h') (hp : ¬ S p) (hn : ∀ q, isRow b q → ¬ S q) : Rdr h' p n cs a f b :=
  ⟨k.get r.row hp, r.view.keep k hn, r.apart, r.here, r.small⟩
theorem Try.at {h : H} {p n a : Nat} {f : Bool} {cs : List SV} {b : SV} (r : Rdr h p n cs a f b) : Try.lc 17 [.ptr p 0] h = some (.int .i64 a, h) := by
  refine Try.en (n := 1) (kf := Try.k17) (by kernel_rfl) ?_
  rw [Try.k17_eq, enter_eq]
  simp [argsP, kr, bO_mk, kx, lEq, keq, vNil, nilV, vAddr, lLoad, rowCells, r.row, kpart, idxX_get, kfin, kresL, kres, oneS]
theorem Try.left {h : H} {p n a : Nat} {f : Bool} {cs : List SV} {b : SV} (r : Rdr h p n cs a f b) : Try.lc 18 [.ptr p 0] h = some (.int .i64 (if f then 0 else (n : Int) - a), h) := by
  have e1 : wrapS .i64 ((n : Int) - a) = (n : Int) - a := by
    have := r.here; have := r.small
    rw [wrapS_eq]; exact wrap_i64 (by omega) (by omega)
  refine Try.en (n := 1) (kf := Try.k18) (by kernel_rfl) ?_
  rw [Try.k18_eq, enter_eq]
  cases f
  · simp [argsP, kr, bO_mk, kx, lEq, keq, vNil, nilV, vAddr, lLoad, rowCells, r.row, kpart, idxX_get, kfin, kresL, kres, oneS, isB, bB, vPick, vLen, r.view.length, vSub, i2, e1]
  · simp [argsP, kr, bO_mk, kx, lEq, keq, vNil, nilV, vAddr, lLoad, rowCells, r.row, kpart, idxX_get, kfin, kresL, kres, oneS, isB, bB, vPick]
theorem Try.take_failed {h : H} {p n a : Nat} {cs : List SV} {b : SV} (r : Rdr h p n cs a true b) (m g : Int) : Try.lc 34 [.ptr p 0, .int .i64 m, .int .i64 g] h = some (.tuple [.nilslice, .bool false], h) := by
  refine Try.en (n := 2) (kf := Try.k34) (by kernel_rfl) ?_
  rw [Try.k34_eq, enter_eq]
  simp [argsP, kr, bO_mk, kx, lEq, keq, vNil, nilV, vAddr, lLoad, rowCells, r.row, kpart, idxX_get, isB, bB, vPick, scope_succ, kj, behind, kfin, kresL, kres, oneS]
theorem Try.take_short {h : H} {p n a : Nat} {cs : List SV} {b : SV} (r : Rdr h p n cs a false b) (m g : Nat) (hm : n < a + m) (hg : g ≤ n) :
    ∃ h', Try.lc 34 [.ptr p 0, .int .i64 m, .int .i64 g] h = some (.tuple [.nilslice, .bool false], h') ∧ Rdr h' p n cs g true b ∧ Fr (· = p) (· = p) h h' := by
  have e1 : wrapS .i64 ((n : Int) - a) = (n : Int) - a := by
    have := r.here; have := r.small
    rw [wrapS_eq]; exact wrap_i64 (by omega) (by omega)
  have e2 : ltI ((n : Int) - a) m = true := by rw [ltI_eq]; simp; omega
  have hst := fun t => store_fixed r.row 2 (.bool true) t (by simp) rfl
  have hg1 := get_put_self (o := .cells [b, .int .i64 a, .bool true] .fixed) r.row
  have hst2 := fun t => store_fixed hg1 1 (.int .i64 g) t (by simp) rfl
  have hg2 := get_put_self (o := .cells [b, .int .i64 g, .bool true] .fixed) hg1
  have f1 := (Fr.put (o := .cells [b, .int .i64 a, .bool true] .fixed) (H.get_lt r.row)).trans (Fr.put (o := .cells [b, .int .i64 g, .bool true] .fixed) (H.get_lt hg1))
  refine ⟨_, Try.en (n := 2) (kf := Try.k34) (by kernel_rfl) ?_, ⟨hg2, r.view.keep f1 r.apart, r.apart, hg, r.small⟩, f1⟩
  rw [Try.k34_eq, enter_eq]
  simp [argsP, kr, bO_mk, kx, lEq, keq, vNil, nilV, vAddr, lLoad, rowCells, r.row, kpart, idxX_get, isB, bB, vPick, scope_succ, kj, behind, kfin, kresL, kres, oneS, vLen, r.view.length, vSub, vGt, i2, e1, e2, hst, hst2]
theorem Try.take_ok {h : H} {p n a : Nat} {cs : List SV} {b : SV} (r : Rdr h p n cs a false b) (m : Nat) (g : Int) (hm : a + m ≤ n) :
    ∃ v h', Try.lc 34 [.ptr p 0, .int .i64 m, .int .i64 g] h = some (.tuple [v, .bool true], h') ∧ Rdr h' p n cs (a + m) false b ∧ View h' 1 v m ((cs.drop a).take m) ∧ Fr (· = p) (· = p) h h' := by
  have hs := r.small
  have e1 : wrapS .i64 ((n : Int) - a) = (n : Int) - a := by
    rw [wrapS_eq]; exact wrap_i64 (by omega) (by omega)
  have e2 : ltI ((n : Int) - a) m = false := by rw [ltI_eq]; simp; omega
  have e3 : wrapS .i64 ((a : Int) + m) = ((a + m : Nat) : Int) := by
    rw [wrapS_eq, Int.natCast_add]; exact wrap_i64 (by omega) (by omega)
  obtain ⟨v, k1, k2, k3⟩ := r.view.slice a (a + m) (by omega) hm
  have hst := fun t => store_fixed r.row 1 (.int .i64 ((a + m : Nat) : Int)) t (by simp) rfl
  have hg1 := get_put_self (o := .cells [b, .int .i64 ((a + m : Nat) : Int), .bool false] .fixed) r.row
  have f1 := Fr.put (o := .cells [b, .int .i64 ((a + m : Nat) : Int), .bool false] .fixed) (H.get_lt r.row)
  refine ⟨v, _, Try.en (n := 2) (kf := Try.k34) (by kernel_rfl) ?_, ⟨hg1, r.view.keep f1 r.apart, r.apart, hm, r.small⟩, ?_, f1⟩
  · rw [Try.k34_eq, enter_eq]
    simp [argsP, kr, bO_mk, kx, lEq, keq, vNil, nilV, vAddr, lLoad, rowCells, r.row, kpart, idxX_get, isB, bB, vPick, scope_succ, kj, behind, kfin, kresL, kres, oneS, vLen, r.view.length, vSub, vGt, vAdd, i2, e1, e2, e3, vSlice, xL, k1, hst, -Int.natCast_add]
  · have := k2.keep f1 fun q hq => r.apart q (k3 q hq)
    simpa [Nat.add_sub_cancel_left] using this
end
end Go.Proofs
