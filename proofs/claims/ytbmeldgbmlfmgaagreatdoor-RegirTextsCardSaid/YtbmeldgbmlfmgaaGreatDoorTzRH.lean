/- RegirTexts: registers, sizes. -/
import Derived.Test.YtbmeldgbmlfmgaaGreatDoorTzRG
set_option linter.unusedVariables false
set_option linter.unusedSimpArgs false
set_option linter.unusedSectionVars false
namespace Go.Proofs
open Go.Sh
set_option linter.unusedVariables false
attribute [local instance] powHeld
noncomputable section
def regOf (locals loc depth : Int) : Int := bB (ltI depth 0) loc (IntKind.i64.wrap (locals + depth))
theorem Tryz.reg8 {h : H} {mc : List SV} {locals loc depth : Int} (hm : mc[5]? = some (.int .i64 locals)) :
    ∃ r h', Tryz.l2 8 [.agg mc, .int .i64 loc, .int .i64 depth] h = some (r, h') ∧ r = .int .i64 (regOf locals loc depth) ∧ Calms h h' := by
  generalize hh1 : h.push (.cells mc .fixed) = h1
  have f1 := calm_push hh1
  have ld : loadV none h1.get (.ptr h.next 5) = some (.int .i64 locals) := by rw [loadB (rowCells_fixed (get_pushed hh1)), hm]
  refine Go.Sh.enG Tryz.kTab_ok (X := Tryz.X2) (kf := Tryz.k8) rfl (by kernel_rfl) 1 Tryz.k8_eq rfl ?_
  cases e1 : ltI depth 0
  · simp [↓ kq, kq, ↓ ko, ko, ↓ kt, ↓ kz, kb, kv, kt, kx, hh1, ld, e1, gets_some, kc, oneS, regOf, -bO_of, -bB_true, -bB_false, -H.next_push, -Int.natCast_add]
    exact f1
  · simp [↓ kq, kq, ↓ ko, ko, ↓ kt, ↓ kz, kb, kv, kt, kx, hh1, ld, e1, gets_some, kc, oneS, regOf, -bO_of, -bB_true, -bB_false, -H.next_push, -Int.natCast_add]
    exact f1
theorem Tryz.sum9_loop {h : H} {v : SV} {zs : List Int} (w : View h 1 v zs.length (i64s zs)) (hm : zs.length ≤ 1099511627776) : ∀ (j i k : Nat) (acc : Int) (t : T), i + j = zs.length → j < k → getP (way 1) t = some v → getP (way 5) t = some (.int .i64 i) → getP (way 0) t = some (.int .i64 acc) →
    Gets (cLoop Tryz.l9_0 k Tryz.l2 t h) fun fl t' h' => h' = h ∧ (fl = .exit 0 ∧ (∃ z, getP (way 0) t' = some (.int .i64 z)) ∨ fl = .ret ∧ ∃ z, getP (way 4) t' = some (.int .i64 z)) := by
  have hl := w.length
  intro j
  induction j with
  | zero =>
    intro i k acc t hi hk t1 t5 t0
    obtain ⟨k, rfl⟩ : ∃ m, k = m + 1 := ⟨k - 1, by omega⟩
    rw [loop_succ]
    generalize (fun t h => cLoop Tryz.l9_0 k Tryz.l2 t h) = L
    unfold Tryz.l9_0
    have e1 : ltI (i : Int) (zs.length : Int) = false := ltIf (by omega)
    generalize zs.length = n at *
    simp [↓ kq, kq, ↓ ko, ko, ↓ kt, ↓ kz, kb, kv, kt, kx, t1, t5, t0, hl, e1, gets_some, -bO_of, -bB_true, -bB_false, -H.next_push, -Int.natCast_add]
  | succ j ih =>
    intro i k acc t hi hk t1 t5 t0
    obtain ⟨k, rfl⟩ : ∃ m, k = m + 1 := ⟨k - 1, by omega⟩
    rw [loop_succ]
    generalize hL : (fun t h => cLoop Tryz.l9_0 k Tryz.l2 t h) = L
    obtain ⟨z, hz⟩ : ∃ z, zs[i]? = some z := ⟨zs[i], List.getElem?_eq_getElem (by omega)⟩
    obtain ⟨p, c1, c2⟩ := w.loadV (i := i) (by omega)
    rw [i64s_get hz] at c2
    have e1 : ltI (i : Int) (zs.length : Int) = true := ltIt (by omega)
    have e3 : IntKind.i64.wrap ((i : Int) + 1) = ((i + 1 : Nat) : Int) := by rw [wrapI64 (by omega) (by omega)]; omega
    unfold Tryz.l9_0
    cases e4 : ltI 1099511627776 acc
    · cases e5 : ltI (IntKind.i64.wrap (1099511627776 - acc)) z
      · simp [↓ kq, kq, ↓ ko, ko, ↓ kt, ↓ kz, kb, kv, kt, kx, t1, t5, t0, hl, e1, e3, c1, c2, e4, e5, -bO_of, -bB_true, -bB_false, -H.next_push, -Int.natCast_add]
        rw [← hL]
        exact ih (i + 1) k (IntKind.i64.wrap (acc + z)) _ (by omega) (by omega) (by simp [kq, kb, t1]) (by simp [kq, kb]) (by simp [kq, kb])
      · simp [↓ kq, kq, ↓ ko, ko, ↓ kt, ↓ kz, kb, kv, kt, kx, t1, t5, t0, hl, e1, e3, c1, c2, e4, e5, gets_some, -bO_of, -bB_true, -bB_false, -H.next_push, -Int.natCast_add]
    · simp [↓ kq, kq, ↓ ko, ko, ↓ kt, ↓ kz, kb, kv, kt, kx, t1, t5, t0, hl, e1, e3, c1, c2, e4, gets_some, -bO_of, -bB_true, -bB_false, -H.next_push, -Int.natCast_add]
theorem Tryz.sum9 {h : H} {v : SV} {zs : List Int} (w : View h 1 v zs.length (i64s zs)) (hm : zs.length ≤ 100) (acc : Int) : ∃ r h', Tryz.l2 9 [.int .i64 acc, v] h = some (r, h') ∧ h' = h ∧ ∃ z, r = .int .i64 z := by
  refine Go.Sh.enG Tryz.kTab_ok (X := Tryz.X2) (kf := Tryz.k9) rfl (by kernel_rfl) 102 Tryz.k9_eq rfl ?_
  simp [↓ kq, kq, ↓ ko, ko, ↓ kt, ↓ kz, kb, kv, kt, kx, gets_some, -bO_of, -bB_true, -bB_false, -H.next_push, -Int.natCast_add]
  refine gets_next (gets_leave (Gets.mono (Tryz.sum9_loop w (by omega) zs.length 0 102 acc _ (by omega) (by omega) (by simp [kq, kb]) (by simp [kq, kb]) (by simp [kq, kb])) fun fl t' h' ⟨b1, b2⟩ => ?_))
  subst b1
  rcases b2 with ⟨rfl, z, b3⟩ | ⟨rfl, z, b3⟩
  · simp only [if_true]
    simp [↓ kq, kq, ↓ ko, ko, ↓ kt, ↓ kz, kb, kv, kt, kx, b3, gets_some, kc, oneS, -bO_of, -bB_true, -bB_false, -H.next_push, -Int.natCast_add]
  · simp [↓ kq, kq, ↓ ko, ko, ↓ kt, ↓ kz, kb, kv, kt, kx, b3, gets_some, kc, oneS, -bO_of, -bB_true, -bB_false, -H.next_push, -Int.natCast_add]
theorem Tryz.instr4 {h : H} {a b c : SV} {s1 s2 s3 : List UInt8} : ∃ r h', Tryz.l2 4 [.agg [a, b, c, .str s1, .str s2, .str s3]] h = some (r, h') ∧ Calms h h' ∧ ∃ z, r = .int .i64 z := by
  generalize hh1 : h.push (.cells [a, b, c, .str s1, .str s2, .str s3] .fixed) = h1
  have f1 := calm_push hh1
  have ld := loadB (rowCells_fixed (get_pushed hh1))
  have kc3 : kcat [1, 1, 1] [.int .i64 s1.length, .int .i64 s2.length, .int .i64 s3.length] = some (i64s [(s1.length : Int), (s2.length : Int), (s3.length : Int)]) := rfl
  generalize hh2 : h1.push (.cells (i64s [(s1.length : Int), (s2.length : Int), (s3.length : Int)]) .fixed) = h2
  have f2 := calm_push hh2
  have w : View h2 1 (.slice h1.next 0 3 1 (some 3)) 3 (i64s [(s1.length : Int), (s2.length : Int), (s3.length : Int)]) := view_row (rowCells_fixed (get_pushed hh2)) rfl
  obtain ⟨r, h', k1, rfl, z, rfl⟩ := Tryz.sum9 (zs := [(s1.length : Int), (s2.length : Int), (s3.length : Int)]) w (by simp) 1
  refine Go.Sh.enG Tryz.kTab_ok (X := Tryz.X2) (kf := Tryz.k4) rfl (by kernel_rfl) 1 Tryz.k4_eq rfl ?_
  simp [↓ kq, kq, ↓ ko, ko, ↓ kt, ↓ kz, kb, kv, kt, kx, hh1, ld, kc3, hh2, k1, gets_some, kc, oneS, -bO_of, -bB_true, -bB_false, -H.next_push, -Int.natCast_add]
  exact f1.trans f2
/-- It is alike with itself. -/
def flatV : SV → Bool
  | .bool _ | .int _ _ | .str _ | .nilptr | .ptr _ _ | .nilslice | .slice _ _ _ _ _ => true
  | _ => false
theorem eqS1_flat : ∀ {v : SV}, flatV v = true → eqS1 v v = true := by
  intro v hv
  cases v with
  | bool b => exact eqS1_bool b
  | int k n => exact eqS1_int k n
  | str s => exact eqS1_str s
  | nilptr => rfl
  | ptr i o =>
    show (Nat.beq i i && Nat.beq o o) = true
    simp
  | nilslice => rfl
  | slice i o n s c =>
    cases c with
    | none =>
      show (Nat.beq i i && (Nat.beq o o && (Nat.beq n n && Nat.beq s s))) = true
      simp
    | some c =>
      show (Nat.beq i i && (Nat.beq o o && (Nat.beq n n && (Nat.beq s s && Nat.beq c c)))) = true
      simp
  | _ => cases hv
theorem eqSV_flat {cs : List SV} (hc : cs.all flatV = true) : eqSV (.agg cs) (.agg cs) = true := by
  show eqSL cs cs = true
  induction cs with
  | nil => rfl
  | cons a l ih =>
    rw [List.all_cons, Bool.and_eq_true] at hc
    show (eqS1 a a && eqSL l l) = true
    rw [eqS1_flat hc.1, ih hc.2]; rfl
end
end Go.Proofs
