/- General laws of the proof: a shadow machine of the form, its soundness, and a compiled form of it. -/
import Derived.Test.YtflmnikjipdhkaaGreatDoorTzNA
import Derived.Test.YtflmnikjipdhkaaGreatDoorTzLA
set_option linter.unusedVariables false
set_option linter.unusedSimpArgs false
set_option linter.unusedSectionVars false
section
/- desc.Name: is a text a name? -/
namespace Go.Proofs
open Go.Sh
attribute [local instance] powHeld
noncomputable section
set_option maxHeartbeats 4000000 in
theorem Tryz.name_loop {s : List UInt8} {h : H} (hs : s.length < 4611686018427387904) : ∀ (j i k : Nat) (t : T), i + j = s.length → j < k → (∀ n c, (s.take i)[n]? = some c → okAt n c = true) → getP (way 0) t = some (.str s) → getP (way 7) t = some (.int .i64 s.length) → getP (way 8) t = some (.int .i64 i) →
    Gets (cLoop Tryz.l37_0 k Tryz.l2 t h) fun fl t' h' => h' = h ∧ (fl = .exit 0 ∧ getP (way 0) t' = some (.str s) ∧ (∀ n c, s[n]? = some c → okAt n c = true) ∨ fl = .ret ∧ getP (way 2) t' = some (.bool false) ∧ ∃ n c, s[n]? = some c ∧ okAt n c = false) := by
  intro j
  induction j with
  | zero =>
    intro i k t hi hk hp t0 t7 t8
    obtain ⟨k, rfl⟩ : ∃ m, k = m + 1 := ⟨k - 1, by omega⟩
    rw [loop_succ]
    generalize (fun t h => cLoop Tryz.l37_0 k Tryz.l2 t h) = L
    unfold Tryz.l37_0
    have e1 : ltI (i : Int) (s.length : Int) = false := ltIf (by omega)
    rw [List.take_of_length_le (by omega)] at hp
    generalize s.length = n at *
    simp [↓ kq, kq, ↓ ko, ko, ↓ kt, ↓ kz, kb, kv, kt, kx, t0, t7, t8, e1, gets_some, -bO_of, -bB_true, -bB_false, -H.next_push, -Int.natCast_add]
    exact hp
  | succ j ih =>
    intro i k t hi hk hp t0 t7 t8
    obtain ⟨k, rfl⟩ : ∃ m, k = m + 1 := ⟨k - 1, by omega⟩
    rw [loop_succ]
    generalize hL : (fun t h => cLoop Tryz.l37_0 k Tryz.l2 t h) = L
    have e1 : ltI (i : Int) (s.length : Int) = true := ltIt (by omega)
    have e3 : IntKind.i64.wrap ((i : Int) + 1) = ((i + 1 : Nat) : Int) := by rw [wrapI64 (by omega) (by omega)]; omega
    obtain ⟨y, hy⟩ : ∃ y, s[i]? = some y := ⟨s[i], List.getElem?_eq_getElem (by omega)⟩
    have hg := hy
    have isT : ∀ w l, isB w (.tuple l) = false := fun _ _ => rfl
    have hv := hy
    have yl : y.toNat < 256 := y.toNat_lt
    have step : okAt i y = true → ∀ n c, (s.take (i + 1))[n]? = some c → okAt n c = true := fun hok n c hc => by
      rw [List.getElem?_take] at hc
      split at hc
      · rename_i hn
        by_cases e : n = i
        · subst e; rw [hy] at hc; cases hc; exact hok
        · exact hp n c (by rw [List.getElem?_take, if_pos (by omega)]; exact hc)
      · cases hc
    have cs : y.toNat ≤ 47 ∨ 48 ≤ y.toNat ∧ y.toNat ≤ 57 ∨ 58 ≤ y.toNat ∧ y.toNat ≤ 64 ∨ 65 ≤ y.toNat ∧ y.toNat ≤ 90 ∨ 91 ≤ y.toNat ∧ y.toNat ≤ 94 ∨ y.toNat = 95 ∨ y.toNat = 96 ∨ 97 ≤ y.toNat ∧ y.toNat ≤ 122 ∨ 123 ≤ y.toNat := by omega
    rcases cs with c1 | c1 | c1 | c1 | c1 | c1 | c1 | c1 | c1
    · -- 0 to 47
      have q1 : ltI (y.toNat : Int) 97 = true := ltIt (by omega)
      have q2 : ltI 122 (y.toNat : Int) = false := ltIf (by omega)
      have q3 : ltI (y.toNat : Int) 65 = true := ltIt (by omega)
      have q4 : ltI 90 (y.toNat : Int) = false := ltIf (by omega)
      have q5 : eqI (y.toNat : Int) 95 = false := eqIf (by omega)
      have q6 : ltI (y.toNat : Int) 48 = true := ltIt (by omega)
      have q7 : ltI 57 (y.toNat : Int) = false := ltIf (by omega)
      by_cases h0 : i = 0
      · subst h0
        have hbad : okAt 0 y = false := by
          unfold okAt
          rw [letB_false (by omega) (by omega) (by omega)]; rfl
        have q8 : eqI 0 0 = true := rfl
        have in0 : intN 0 = some 0 := rfl
        have t8 : getP (way 8) t = some (.int .i64 0) := t8
        have e1 : ltI 0 (s.length : Int) = true := e1
        have hg : s[0]? = some y := hy
        unfold Tryz.l37_0
        generalize hn : s.length = n at *
        simp [↓ kq, kq, ↓ ko, ko, ↓ kt, ↓ kz, kb, kv, kt, kx, isT, t0, t7, t8, hv, e1, hg, q1, q2, q3, q4, q5, q6, q7, q8, in0, gets_some, -bO_of, -bB_true, -bB_false, -H.next_push, -Int.natCast_add]
        exact ⟨0, y, hy, hbad⟩
      · have q8 : eqI (i : Int) 0 = false := eqIf (by omega)
        have hbad : okAt i y = false := by
          unfold okAt
          rw [letB_false (by omega) (by omega) (by omega), digB_false (by omega)]; simp
        unfold Tryz.l37_0
        generalize hn : s.length = n at *
        simp [↓ kq, kq, ↓ ko, ko, ↓ kt, ↓ kz, kb, kv, kt, kx, isT, t0, t7, t8, hv, e1, e3, hg, q1, q2, q3, q4, q5, q6, q7, q8, gets_some, -bO_of, -bB_true, -bB_false, -H.next_push, -Int.natCast_add]
        exact ⟨i, y, hy, hbad⟩
    · -- 48 to 57
      have q1 : ltI (y.toNat : Int) 97 = true := ltIt (by omega)
      have q2 : ltI 122 (y.toNat : Int) = false := ltIf (by omega)
      have q3 : ltI (y.toNat : Int) 65 = true := ltIt (by omega)
      have q4 : ltI 90 (y.toNat : Int) = false := ltIf (by omega)
      have q5 : eqI (y.toNat : Int) 95 = false := eqIf (by omega)
      have q6 : ltI (y.toNat : Int) 48 = false := ltIf (by omega)
      have q7 : ltI 57 (y.toNat : Int) = false := ltIf (by omega)
      by_cases h0 : i = 0
      · subst h0
        have hbad : okAt 0 y = false := by
          unfold okAt
          rw [letB_false (by omega) (by omega) (by omega)]; rfl
        have q8 : eqI 0 0 = true := rfl
        have in0 : intN 0 = some 0 := rfl
        have t8 : getP (way 8) t = some (.int .i64 0) := t8
        have e1 : ltI 0 (s.length : Int) = true := e1
        have hg : s[0]? = some y := hy
        unfold Tryz.l37_0
        generalize hn : s.length = n at *
        simp [↓ kq, kq, ↓ ko, ko, ↓ kt, ↓ kz, kb, kv, kt, kx, isT, t0, t7, t8, hv, e1, hg, q1, q2, q3, q4, q5, q6, q7, q8, in0, gets_some, -bO_of, -bB_true, -bB_false, -H.next_push, -Int.natCast_add]
        exact ⟨0, y, hy, hbad⟩
      · have q8 : eqI (i : Int) 0 = false := eqIf (by omega)
        have hok : okAt i y = true := by
          unfold okAt
          rw [digB_true (by omega), decide_eq_true h0]; simp
        unfold Tryz.l37_0
        generalize hn : s.length = n at *
        simp [↓ kq, kq, ↓ ko, ko, ↓ kt, ↓ kz, kb, kv, kt, kx, isT, t0, t7, t8, hv, e1, e3, hg, q1, q2, q3, q4, q5, q6, q7, q8, -bO_of, -bB_true, -bB_false, -H.next_push, -Int.natCast_add]
        rw [← hL]
        refine ih (i + 1) k _ (by omega) (by omega) (step hok) ?_ ?_ ?_ <;> simp [kq, kb, t0, t7]
    · -- 58 to 64
      have q1 : ltI (y.toNat : Int) 97 = true := ltIt (by omega)
      have q2 : ltI 122 (y.toNat : Int) = false := ltIf (by omega)
      have q3 : ltI (y.toNat : Int) 65 = true := ltIt (by omega)
      have q4 : ltI 90 (y.toNat : Int) = false := ltIf (by omega)
      have q5 : eqI (y.toNat : Int) 95 = false := eqIf (by omega)
      have q6 : ltI (y.toNat : Int) 48 = false := ltIf (by omega)
      have q7 : ltI 57 (y.toNat : Int) = true := ltIt (by omega)
      by_cases h0 : i = 0
      · subst h0
        have hbad : okAt 0 y = false := by
          unfold okAt
          rw [letB_false (by omega) (by omega) (by omega)]; rfl
        have q8 : eqI 0 0 = true := rfl
        have in0 : intN 0 = some 0 := rfl
        have t8 : getP (way 8) t = some (.int .i64 0) := t8
        have e1 : ltI 0 (s.length : Int) = true := e1
        have hg : s[0]? = some y := hy
        unfold Tryz.l37_0
        generalize hn : s.length = n at *
        simp [↓ kq, kq, ↓ ko, ko, ↓ kt, ↓ kz, kb, kv, kt, kx, isT, t0, t7, t8, hv, e1, hg, q1, q2, q3, q4, q5, q6, q7, q8, in0, gets_some, -bO_of, -bB_true, -bB_false, -H.next_push, -Int.natCast_add]
        exact ⟨0, y, hy, hbad⟩
      · have q8 : eqI (i : Int) 0 = false := eqIf (by omega)
        have hbad : okAt i y = false := by
          unfold okAt
          rw [letB_false (by omega) (by omega) (by omega), digB_false (by omega)]; simp
        unfold Tryz.l37_0
        generalize hn : s.length = n at *
        simp [↓ kq, kq, ↓ ko, ko, ↓ kt, ↓ kz, kb, kv, kt, kx, isT, t0, t7, t8, hv, e1, e3, hg, q1, q2, q3, q4, q5, q6, q7, q8, gets_some, -bO_of, -bB_true, -bB_false, -H.next_push, -Int.natCast_add]
        exact ⟨i, y, hy, hbad⟩
    · -- 65 to 90
      have q1 : ltI (y.toNat : Int) 97 = true := ltIt (by omega)
      have q2 : ltI 122 (y.toNat : Int) = false := ltIf (by omega)
      have q3 : ltI (y.toNat : Int) 65 = false := ltIf (by omega)
      have q4 : ltI 90 (y.toNat : Int) = false := ltIf (by omega)
      have q5 : eqI (y.toNat : Int) 95 = false := eqIf (by omega)
      have q6 : ltI (y.toNat : Int) 48 = false := ltIf (by omega)
      have q7 : ltI 57 (y.toNat : Int) = true := ltIt (by omega)
      have hok : okAt i y = true := by
        unfold okAt
        rw [letB_true (by omega)]; rfl
      unfold Tryz.l37_0
      generalize hn : s.length = n at *
      simp [↓ kq, kq, ↓ ko, ko, ↓ kt, ↓ kz, kb, kv, kt, kx, isT, t0, t7, t8, hv, e1, e3, hg, q1, q2, q3, q4, q5, q6, q7, -bO_of, -bB_true, -bB_false, -H.next_push, -Int.natCast_add]
      rw [← hL]
      refine ih (i + 1) k _ (by omega) (by omega) (step hok) ?_ ?_ ?_ <;> simp [kq, kb, t0, t7]
    · -- 91 to 94
      have q1 : ltI (y.toNat : Int) 97 = true := ltIt (by omega)
      have q2 : ltI 122 (y.toNat : Int) = false := ltIf (by omega)
      have q3 : ltI (y.toNat : Int) 65 = false := ltIf (by omega)
      have q4 : ltI 90 (y.toNat : Int) = true := ltIt (by omega)
      have q5 : eqI (y.toNat : Int) 95 = false := eqIf (by omega)
      have q6 : ltI (y.toNat : Int) 48 = false := ltIf (by omega)
      have q7 : ltI 57 (y.toNat : Int) = true := ltIt (by omega)
      by_cases h0 : i = 0
      · subst h0
        have hbad : okAt 0 y = false := by
          unfold okAt
          rw [letB_false (by omega) (by omega) (by omega)]; rfl
        have q8 : eqI 0 0 = true := rfl
        have in0 : intN 0 = some 0 := rfl
        have t8 : getP (way 8) t = some (.int .i64 0) := t8
        have e1 : ltI 0 (s.length : Int) = true := e1
        have hg : s[0]? = some y := hy
        unfold Tryz.l37_0
        generalize hn : s.length = n at *
        simp [↓ kq, kq, ↓ ko, ko, ↓ kt, ↓ kz, kb, kv, kt, kx, isT, t0, t7, t8, hv, e1, hg, q1, q2, q3, q4, q5, q6, q7, q8, in0, gets_some, -bO_of, -bB_true, -bB_false, -H.next_push, -Int.natCast_add]
        exact ⟨0, y, hy, hbad⟩
      · have q8 : eqI (i : Int) 0 = false := eqIf (by omega)
        have hbad : okAt i y = false := by
          unfold okAt
          rw [letB_false (by omega) (by omega) (by omega), digB_false (by omega)]; simp
        unfold Tryz.l37_0
        generalize hn : s.length = n at *
        simp [↓ kq, kq, ↓ ko, ko, ↓ kt, ↓ kz, kb, kv, kt, kx, isT, t0, t7, t8, hv, e1, e3, hg, q1, q2, q3, q4, q5, q6, q7, q8, gets_some, -bO_of, -bB_true, -bB_false, -H.next_push, -Int.natCast_add]
        exact ⟨i, y, hy, hbad⟩
    · -- 95 to 95
      have q1 : ltI (y.toNat : Int) 97 = true := ltIt (by omega)
      have q2 : ltI 122 (y.toNat : Int) = false := ltIf (by omega)
      have q3 : ltI (y.toNat : Int) 65 = false := ltIf (by omega)
      have q4 : ltI 90 (y.toNat : Int) = true := ltIt (by omega)
      have q5 : eqI (y.toNat : Int) 95 = true := eqIt (by omega)
      have q6 : ltI (y.toNat : Int) 48 = false := ltIf (by omega)
      have q7 : ltI 57 (y.toNat : Int) = true := ltIt (by omega)
      have hok : okAt i y = true := by
        unfold okAt
        rw [letB_true (by omega)]; rfl
      unfold Tryz.l37_0
      generalize hn : s.length = n at *
      simp [↓ kq, kq, ↓ ko, ko, ↓ kt, ↓ kz, kb, kv, kt, kx, isT, t0, t7, t8, hv, e1, e3, hg, q1, q2, q3, q4, q5, q6, q7, -bO_of, -bB_true, -bB_false, -H.next_push, -Int.natCast_add]
      rw [← hL]
      refine ih (i + 1) k _ (by omega) (by omega) (step hok) ?_ ?_ ?_ <;> simp [kq, kb, t0, t7]
    · -- 96 to 96
      have q1 : ltI (y.toNat : Int) 97 = true := ltIt (by omega)
      have q2 : ltI 122 (y.toNat : Int) = false := ltIf (by omega)
      have q3 : ltI (y.toNat : Int) 65 = false := ltIf (by omega)
      have q4 : ltI 90 (y.toNat : Int) = true := ltIt (by omega)
      have q5 : eqI (y.toNat : Int) 95 = false := eqIf (by omega)
      have q6 : ltI (y.toNat : Int) 48 = false := ltIf (by omega)
      have q7 : ltI 57 (y.toNat : Int) = true := ltIt (by omega)
      by_cases h0 : i = 0
      · subst h0
        have hbad : okAt 0 y = false := by
          unfold okAt
          rw [letB_false (by omega) (by omega) (by omega)]; rfl
        have q8 : eqI 0 0 = true := rfl
        have in0 : intN 0 = some 0 := rfl
        have t8 : getP (way 8) t = some (.int .i64 0) := t8
        have e1 : ltI 0 (s.length : Int) = true := e1
        have hg : s[0]? = some y := hy
        unfold Tryz.l37_0
        generalize hn : s.length = n at *
        simp [↓ kq, kq, ↓ ko, ko, ↓ kt, ↓ kz, kb, kv, kt, kx, isT, t0, t7, t8, hv, e1, hg, q1, q2, q3, q4, q5, q6, q7, q8, in0, gets_some, -bO_of, -bB_true, -bB_false, -H.next_push, -Int.natCast_add]
        exact ⟨0, y, hy, hbad⟩
      · have q8 : eqI (i : Int) 0 = false := eqIf (by omega)
        have hbad : okAt i y = false := by
          unfold okAt
          rw [letB_false (by omega) (by omega) (by omega), digB_false (by omega)]; simp
        unfold Tryz.l37_0
        generalize hn : s.length = n at *
        simp [↓ kq, kq, ↓ ko, ko, ↓ kt, ↓ kz, kb, kv, kt, kx, isT, t0, t7, t8, hv, e1, e3, hg, q1, q2, q3, q4, q5, q6, q7, q8, gets_some, -bO_of, -bB_true, -bB_false, -H.next_push, -Int.natCast_add]
        exact ⟨i, y, hy, hbad⟩
    · -- 97 to 122
      have q1 : ltI (y.toNat : Int) 97 = false := ltIf (by omega)
      have q2 : ltI 122 (y.toNat : Int) = false := ltIf (by omega)
      have q3 : ltI (y.toNat : Int) 65 = false := ltIf (by omega)
      have q4 : ltI 90 (y.toNat : Int) = true := ltIt (by omega)
      have q5 : eqI (y.toNat : Int) 95 = false := eqIf (by omega)
      have q6 : ltI (y.toNat : Int) 48 = false := ltIf (by omega)
      have q7 : ltI 57 (y.toNat : Int) = true := ltIt (by omega)
      have hok : okAt i y = true := by
        unfold okAt
        rw [letB_true (by omega)]; rfl
      unfold Tryz.l37_0
      generalize hn : s.length = n at *
      simp [↓ kq, kq, ↓ ko, ko, ↓ kt, ↓ kz, kb, kv, kt, kx, isT, t0, t7, t8, hv, e1, e3, hg, q1, q2, q3, q4, q5, q6, q7, -bO_of, -bB_true, -bB_false, -H.next_push, -Int.natCast_add]
      rw [← hL]
      refine ih (i + 1) k _ (by omega) (by omega) (step hok) ?_ ?_ ?_ <;> simp [kq, kb, t0, t7]
    · -- 123 to 255
      have q1 : ltI (y.toNat : Int) 97 = false := ltIf (by omega)
      have q2 : ltI 122 (y.toNat : Int) = true := ltIt (by omega)
      have q3 : ltI (y.toNat : Int) 65 = false := ltIf (by omega)
      have q4 : ltI 90 (y.toNat : Int) = true := ltIt (by omega)
      have q5 : eqI (y.toNat : Int) 95 = false := eqIf (by omega)
      have q6 : ltI (y.toNat : Int) 48 = false := ltIf (by omega)
      have q7 : ltI 57 (y.toNat : Int) = true := ltIt (by omega)
      by_cases h0 : i = 0
      · subst h0
        have hbad : okAt 0 y = false := by
          unfold okAt
          rw [letB_false (by omega) (by omega) (by omega)]; rfl
        have q8 : eqI 0 0 = true := rfl
        have in0 : intN 0 = some 0 := rfl
        have t8 : getP (way 8) t = some (.int .i64 0) := t8
        have e1 : ltI 0 (s.length : Int) = true := e1
        have hg : s[0]? = some y := hy
        unfold Tryz.l37_0
        generalize hn : s.length = n at *
        simp [↓ kq, kq, ↓ ko, ko, ↓ kt, ↓ kz, kb, kv, kt, kx, isT, t0, t7, t8, hv, e1, hg, q1, q2, q3, q4, q5, q6, q7, q8, in0, gets_some, -bO_of, -bB_true, -bB_false, -H.next_push, -Int.natCast_add]
        exact ⟨0, y, hy, hbad⟩
      · have q8 : eqI (i : Int) 0 = false := eqIf (by omega)
        have hbad : okAt i y = false := by
          unfold okAt
          rw [letB_false (by omega) (by omega) (by omega), digB_false (by omega)]; simp
        unfold Tryz.l37_0
        generalize hn : s.length = n at *
        simp [↓ kq, kq, ↓ ko, ko, ↓ kt, ↓ kz, kb, kv, kt, kx, isT, t0, t7, t8, hv, e1, e3, hg, q1, q2, q3, q4, q5, q6, q7, q8, gets_some, -bO_of, -bB_true, -bB_false, -H.next_push, -Int.natCast_add]
        exact ⟨i, y, hy, hbad⟩
theorem Tryz.name {s : List UInt8} (h : H) (hs : s.length < 4611686018427387904) : Tryz.l2 37 [.str s] h = some (.bool (nameB s), h) := by
  have main : ∃ v' h', Tryz.l2 37 [.str s] h = some (v', h') ∧ (v' = .bool (nameB s) ∧ h' = h) := by
    refine Go.Sh.enG Tryz.kTab_ok (X := Tryz.X2) (kf := Tryz.k37) rfl (by kernel_rfl) (s.length + 2) Tryz.k37_eq rfl ?_
    simp [↓ kq, kq, ↓ ko, ko, ↓ kt, ↓ kz, kb, kv, kt, kx, gets_some, -bO_of, -bB_true, -bB_false, -H.next_push, -Int.natCast_add]
    refine gets_next (gets_leave (Gets.mono (Tryz.name_loop (h := h) hs s.length 0 (s.length + 2) _ (by omega) (by omega) (fun n c hc => by simp at hc) (by simp [kq, kb]) (by simp [kq, kb]) (by simp [kq, kb])) fun fl t' h' ⟨b1, b2⟩ => ?_))
    subst b1
    rcases b2 with ⟨rfl, b3, b4⟩ | ⟨rfl, b3, n, c, b4, b5⟩
    · simp only [if_true]
      by_cases h0 : s = []
      · subst h0
        have e1 : eqB [] [] = true := rfl
        simp [↓ kq, kq, ↓ ko, ko, ↓ kt, ↓ kz, kb, kv, kt, kx, b3, e1, gets_some, kc, oneS, -bO_of, -bB_true, -bB_false, -H.next_push, -Int.natCast_add]
        rfl
      · have e1 : eqB s [] = false := eqB_not h0
        by_cases h1 : s.length ≤ 30
        · have e2 : ltI 30 (s.length : Int) = false := ltIf (by omega)
          have e3 : nameB s = true := nameB_iff.2 ⟨h0, h1, b4⟩
          simp [↓ kq, kq, ↓ ko, ko, ↓ kt, ↓ kz, kb, kv, kt, kx, b3, e1, e2, e3, gets_some, kc, oneS, -bO_of, -bB_true, -bB_false, -H.next_push, -Int.natCast_add]
        · have e2 : ltI 30 (s.length : Int) = true := ltIt (by omega)
          have e3 : nameB s = false := by
            cases q : nameB s with
            | false => rfl
            | true => exact absurd (nameB_iff.1 q).2.1 h1
          simp [↓ kq, kq, ↓ ko, ko, ↓ kt, ↓ kz, kb, kv, kt, kx, b3, e1, e2, e3, gets_some, kc, oneS, -bO_of, -bB_true, -bB_false, -H.next_push, -Int.natCast_add]
    · have e3 : nameB s = false := by
        cases q : nameB s with
        | false => rfl
        | true =>
          have := (nameB_iff.1 q).2.2 n c b4
          rw [b5] at this; cases this
      simp [↓ kq, kq, ↓ ko, ko, ↓ kt, ↓ kz, kb, kv, kt, kx, b3, e3, gets_some, kc, oneS, -bO_of, -bB_true, -bB_false, -H.next_push, -Int.natCast_add]
  obtain ⟨_, _, k1, rfl, rfl⟩ := main
  exact k1
end
end Go.Proofs
end
section
/- strings.HasPrefix, strings.CutPrefix. -/
namespace Go.Proofs
open Go.Sh
attribute [local instance] powHeld
noncomputable section
theorem Tryz.hasPrefix {s p : List UInt8} (h : H) : Tryz.l2 259 [.str s, .str p] h = some (.bool (cutB p s).isSome, h) := by
  have main : ∃ v' h', Tryz.l2 259 [.str s, .str p] h = some (v', h') ∧ (v' = .bool (cutB p s).isSome ∧ h' = h) := by
    refine Go.Sh.enG Tryz.kTab_ok (X := Tryz.X2) (kf := Tryz.k259) rfl (by kernel_rfl) 2 Tryz.k259_eq rfl ?_
    by_cases hl : p.length ≤ s.length
    · have e1 : ltI (s.length : Int) (p.length : Int) = false := ltIf (by omega)
      have e2 := slice_to (s := s) hl
      have e3 : (cutB p s).isSome = eqB (s.take p.length) p := by
        rw [cutB_iff, eqB_dec]
        by_cases h : s.take p.length = p
        · rw [if_pos h, decide_eq_true h]; rfl
        · rw [if_neg h, decide_eq_false h]; rfl
      simp [↓ kq, kq, ↓ ku, ku, ↓ ko, ko, ↓ kt, ↓ kz, kb, kv, kt, kx, e1, e2, e3, gets_some, kc, oneS, -bO_of, -bB_true, -bB_false, -H.next_push, -Int.natCast_add]
    · have e1 : ltI (s.length : Int) (p.length : Int) = true := ltIt (by omega)
      have e3 : (cutB p s).isSome = false := by
        rw [cutB_iff, if_neg (fun h => hl (by have := congrArg List.length h; simp at this; omega))]; rfl
      simp [↓ kq, kq, ↓ ku, ku, ↓ ko, ko, ↓ kt, ↓ kz, kb, kv, kt, kx, e1, e3, gets_some, kc, oneS, -bO_of, -bB_true, -bB_false, -H.next_push, -Int.natCast_add]
  obtain ⟨_, _, k1, rfl, rfl⟩ := main
  exact k1
def cutV (s p : List UInt8) : SV := match cutB p s with
  | some r => .tuple [.str r, .bool true]
  | none => .tuple [.str s, .bool false]
theorem Tryz.cutPrefix0 {s p : List UInt8} (h : H) : Tryz.l2 223 [.str s, .str p] h = some (cutV s p, h) := by
  have main : ∃ v' h', Tryz.l2 223 [.str s, .str p] h = some (v', h') ∧ (v' = cutV s p ∧ h' = h) := by
    refine Go.Sh.enG Tryz.kTab_ok (X := Tryz.X2) (kf := Tryz.k223) rfl (by kernel_rfl) 2 Tryz.k223_eq rfl ?_
    have hp := Tryz.hasPrefix (s := s) (p := p) h
    unfold cutV
    have e0 := cutB_iff p s
    cases hc : cutB p s with
    | none =>
      rw [hc] at hp
      have e1 : (none : Option (List UInt8)).isSome = false := rfl
      rw [e1] at hp
      simp [↓ kq, kq, ↓ ku, ku, ↓ ko, ko, ↓ kt, ↓ kz, kb, kv, kt, kx, hp, gets_some, kc, oneS, -bO_of, -bB_true, -bB_false, -H.next_push, -Int.natCast_add]
    | some r =>
      rw [hc] at hp e0
      have e1 : (some r).isSome = true := rfl
      rw [e1] at hp
      have hr : r = s.drop p.length ∧ p.length ≤ s.length := by
        split at e0
        · rename_i h1
          refine ⟨Option.some.inj e0, ?_⟩
          have := congrArg List.length h1
          simp at this; omega
        · cases e0
      obtain ⟨rfl, hl⟩ := hr
      have e2 := slice_from (s := s) hl
      simp [↓ kq, kq, ↓ ku, ku, ↓ ko, ko, ↓ kt, ↓ kz, kb, kv, kt, kx, hp, e2, gets_some, kc, oneS, -bO_of, -bB_true, -bB_false, -H.next_push, -Int.natCast_add]
  obtain ⟨_, _, k1, rfl, rfl⟩ := main
  exact k1
theorem Tryz.cutPrefix {s p : List UInt8} (h : H) : Tryz.l2 192 [.str s, .str p] h = some (cutV s p, h) := by
  have main : ∃ v' h', Tryz.l2 192 [.str s, .str p] h = some (v', h') ∧ (v' = cutV s p ∧ h' = h) := by
    refine Go.Sh.enG Tryz.kTab_ok (X := Tryz.X2) (kf := Tryz.k192) rfl (by kernel_rfl) 2 Tryz.k192_eq rfl ?_
    have hp := Tryz.cutPrefix0 (s := s) (p := p) h
    unfold cutV at hp ⊢
    cases hc : cutB p s with
    | none =>
      rw [hc] at hp
      simp [↓ kq, kq, ↓ ku, ku, ↓ ko, ko, ↓ kt, ↓ kz, kb, kv, kt, kx, hp, gets_some, kc, oneS, -bO_of, -bB_true, -bB_false, -H.next_push, -Int.natCast_add]
    | some r =>
      rw [hc] at hp
      simp [↓ kq, kq, ↓ ku, ku, ↓ ko, ko, ↓ kt, ↓ kz, kb, kv, kt, kx, hp, gets_some, kc, oneS, -bO_of, -bB_true, -bB_false, -H.next_push, -Int.natCast_add]
  obtain ⟨_, _, k1, rfl, rfl⟩ := main
  exact k1
end
end Go.Proofs
end
