/- Bitset: the reference's lists. -/
import Derived.Test.YtfcdldibfdoljaaDoorTyZJ
set_option linter.unusedVariables false
set_option linter.unusedSimpArgs false
set_option linter.unusedSectionVars false
namespace Go.Proofs
open Go.Sh
set_option linter.unusedVariables false
attribute [local instance] tabHeld
noncomputable section
theorem i64s_len (l : List Int) : (i64s l).length = l.length := by simp [i64s]
theorem i64s_get (l : List Int) (i : Nat) (h : i < l.length) : (i64s l)[i]? = some (.int .i64 l[i]) := by simp [i64s, h]
theorem Tryd.has_loop {v : SV} {h : H} {zs : List Int} {z : Int} (w : View h 1 v zs.length (i64s zs)) (hl : zs.length < 4294967296) : ∀ (j i k : Nat) (t : T), i + j = zs.length → j < k →
    getP (way 0) t = some v → getP (way 1) t = some (.int .i64 z) → getP (way 5) t = some (.int .i64 i) →
    Gets (cLoop Tryd.l8_0 k Tryd.lc t h) fun fl t' h' => h' = h ∧ ((fl = .exit 0 ∧ z ∉ zs.drop i) ∨ (fl = .ret ∧ getP (way 4) t' = some (.bool true) ∧ z ∈ zs.drop i)) := by
  intro j
  induction j with
  | zero =>
    intro i k t hi hk t0 t1 t5
    obtain ⟨k, rfl⟩ : ∃ m, k = m + 1 := ⟨k - 1, by omega⟩
    rw [loop_succ]
    generalize (fun t h => cLoop Tryd.l8_0 k Tryd.lc t h) = L
    unfold Tryd.l8_0
    have e1 : ltI (i : Int) zs.length = false := by rw [ltI_eq]; exact decide_eq_false (by omega)
    have e2 : zs.drop i = [] := List.drop_eq_nil_of_le (by omega)
    simp [↓ kq, kq, ↓ ko, ko, kb, kv, kt, kx, t0, t1, t5, w.length, e1, e2, gets_some, -bO_of, -bB_true, -bB_false, -H.next_push, -Int.natCast_add]
  | succ j ih =>
    intro i k t hi hk t0 t1 t5
    obtain ⟨k, rfl⟩ : ∃ m, k = m + 1 := ⟨k - 1, by omega⟩
    rw [loop_succ]
    generalize hL : (fun t h => cLoop Tryd.l8_0 k Tryd.lc t h) = L
    unfold Tryd.l8_0
    have e1 : ltI (i : Int) zs.length = true := by rw [ltI_eq]; exact decide_eq_true (by omega)
    have e2 : IntKind.i64.wrap ((i : Int) + 1) = ((i + 1 : Nat) : Int) := by
      rw [Int.natCast_add]; exact wrap_i64 (by omega) (by omega)
    obtain ⟨pA, x2, x3⟩ := w.loadV (i := i) (by omega)
    rw [i64s_get zs i (by omega)] at x3
    have hd : zs.drop i = zs[i] :: zs.drop (i + 1) := List.drop_eq_getElem_cons (by omega)
    generalize hy : zs[i] = y at *
    by_cases e : y = z
    · have e3 : eqI y z = true := by rw [eqI_eq]; exact decide_eq_true e
      have hm : z ∈ zs.drop i := by rw [hd, e]; exact List.mem_cons_self ..
      simp [↓ kq, kq, ↓ ko, ko, kb, kv, kt, kx, t0, t1, t5, w.length, e1, x2, x3, e3, gets_some, hm, -bO_of, -bB_true, -bB_false, -H.next_push, -Int.natCast_add]
    · have e3 : eqI y z = false := by rw [eqI_eq]; exact decide_eq_false e
      simp [↓ kq, kq, ↓ ko, ko, kb, kv, kt, kx, t0, t1, t5, w.length, e1, e2, x2, x3, e3, -bO_of, -bB_true, -bB_false, -H.next_push, -Int.natCast_add]
      rw [← hL]
      refine Gets.mono (ih (i + 1) k _ (by omega) (by omega) ?_ ?_ ?_) fun fl t' h' ⟨b1, b2⟩ => ⟨b1, ?_⟩
      · simp [kq, t0]
      · simp [kq, t1]
      · simp [kq, -Int.natCast_add]
      · rcases b2 with ⟨b2, b3⟩ | ⟨b2, b3, b4⟩
        · left
          refine ⟨b2, ?_⟩
          rw [hd]; simp [b3, Ne.symm e]
        · right
          exact ⟨b2, b3, by rw [hd]; exact List.mem_cons_of_mem _ b4⟩
theorem Tryd.hasL {v : SV} {h : H} {zs : List Int} (w : View h 1 v zs.length (i64s zs)) (hl : zs.length < 4294967296) (z : Int) : ∃ r h', Tryd.lc 8 [v, .int .i64 z] h = some (r, h') ∧ r = .bool (decide (z ∈ zs)) ∧ h' = h := by
  refine Tryd.enG (n := zs.length + 1) (kf := Tryd.k8) (by kernel_rfl) Tryd.k8_eq rfl ?_
  simp [↓ kq, kq, ↓ ko, ko, kb, kv, kt, kx, w.length, -bO_of, -bB_true, -bB_false, -H.next_push, -Int.natCast_add]
  refine gets_next (gets_leave (Gets.mono (Tryd.has_loop (z := z) w hl zs.length 0 (zs.length + 1) _ (by omega) (by omega) ?_ ?_ ?_) fun fl t' h2 ⟨b1, b2⟩ => ?_))
  · simp [kq]
  · simp [kq]
  · simp [kq]
  subst b1
  rw [List.drop_zero] at b2
  rcases b2 with ⟨b1, b2⟩ | ⟨b1, b2, b3⟩
  · subst b1
    simp [↓ kq, kq, ↓ ko, ko, kb, kv, kt, kx, b2, gets_some, kc, oneS, -bO_of, -bB_true, -bB_false, -H.next_push, -Int.natCast_add]
  · subst b1
    simp [↓ kq, kq, ↓ ko, ko, kb, kv, kt, kx, b2, b3, gets_some, kc, oneS, -bO_of, -bB_true, -bB_false, -H.next_push, -Int.natCast_add]
theorem Tryd.ints_loop {v u : SV} {h : H} {xs ys : List Int} (w : View h 1 v xs.length (i64s xs)) (w2 : View h 1 u ys.length (i64s ys)) (hxy : xs.length = ys.length) (hl : xs.length < 4294967296) : ∀ (j i k : Nat) (t : T), i + j = xs.length → j < k →
    getP (way 0) t = some v → getP (way 1) t = some u → getP (way 5) t = some (.int .i64 i) →
    Gets (cLoop Tryd.l9_0 k Tryd.lc t h) fun fl t' h' => h' = h ∧ ((fl = .exit 0 ∧ xs.drop i = ys.drop i) ∨ (fl = .ret ∧ getP (way 4) t' = some (.bool false) ∧ xs.drop i ≠ ys.drop i)) := by
  intro j
  induction j with
  | zero =>
    intro i k t hi hk t0 t1 t5
    obtain ⟨k, rfl⟩ : ∃ m, k = m + 1 := ⟨k - 1, by omega⟩
    rw [loop_succ]
    generalize (fun t h => cLoop Tryd.l9_0 k Tryd.lc t h) = L
    unfold Tryd.l9_0
    have e1 : ltI (i : Int) xs.length = false := by rw [ltI_eq]; exact decide_eq_false (by omega)
    have e2 : xs.drop i = [] := List.drop_eq_nil_of_le (by omega)
    have e3 : ys.drop i = [] := List.drop_eq_nil_of_le (by omega)
    simp [↓ kq, kq, ↓ ko, ko, kb, kv, kt, kx, t0, t1, t5, w.length, e1, e2, e3, gets_some, -bO_of, -bB_true, -bB_false, -H.next_push, -Int.natCast_add]
  | succ j ih =>
    intro i k t hi hk t0 t1 t5
    obtain ⟨k, rfl⟩ : ∃ m, k = m + 1 := ⟨k - 1, by omega⟩
    rw [loop_succ]
    generalize hL : (fun t h => cLoop Tryd.l9_0 k Tryd.lc t h) = L
    unfold Tryd.l9_0
    have e1 : ltI (i : Int) xs.length = true := by rw [ltI_eq]; exact decide_eq_true (by omega)
    have e2 : IntKind.i64.wrap ((i : Int) + 1) = ((i + 1 : Nat) : Int) := by
      rw [Int.natCast_add]; exact wrap_i64 (by omega) (by omega)
    obtain ⟨pA, x2, x3⟩ := w.loadV (i := i) (by omega)
    rw [i64s_get xs i (by omega)] at x3
    obtain ⟨pB, y2, y3⟩ := w2.loadV (i := i) (by omega)
    rw [i64s_get ys i (by omega)] at y3
    have hd : xs.drop i = xs[i] :: xs.drop (i + 1) := List.drop_eq_getElem_cons (by omega)
    have hd2 : ys.drop i = ys[i] :: ys.drop (i + 1) := List.drop_eq_getElem_cons (by omega)
    generalize hy : xs[i] = x at *
    generalize hz : ys[i] = y at *
    by_cases e : x = y
    · have e3 : eqI x y = true := by rw [eqI_eq]; exact decide_eq_true e
      simp [↓ kq, kq, ↓ ko, ko, kb, kv, kt, kx, t0, t1, t5, w.length, e1, e2, x2, x3, y2, y3, e3, -bO_of, -bB_true, -bB_false, -H.next_push, -Int.natCast_add]
      rw [← hL]
      refine Gets.mono (ih (i + 1) k _ (by omega) (by omega) ?_ ?_ ?_) fun fl t' h' ⟨b1, b2⟩ => ⟨b1, ?_⟩
      · simp [kq, t0]
      · simp [kq, t1]
      · simp [kq, -Int.natCast_add]
      · rcases b2 with ⟨b2, b3⟩ | ⟨b2, b3, b4⟩
        · left
          exact ⟨b2, by rw [hd, hd2, e, b3]⟩
        · right
          refine ⟨b2, b3, ?_⟩
          rw [hd, hd2, e]
          intro c
          exact b4 (List.cons.inj c).2
    · have e3 : eqI x y = false := by rw [eqI_eq]; exact decide_eq_false e
      have hm : xs.drop i ≠ ys.drop i := by
        rw [hd, hd2]; intro c; exact e (List.cons.inj c).1
      simp [↓ kq, kq, ↓ ko, ko, kb, kv, kt, kx, t0, t1, t5, w.length, e1, x2, x3, y2, y3, e3, gets_some, hm, -bO_of, -bB_true, -bB_false, -H.next_push, -Int.natCast_add]
theorem Tryd.ints {v u : SV} {h : H} {xs ys : List Int} (w : View h 1 v xs.length (i64s xs)) (w2 : View h 1 u ys.length (i64s ys)) (hl : xs.length < 4294967296) : ∃ r h', Tryd.lc 9 [v, u] h = some (r, h') ∧ r = .bool (decide (xs = ys)) ∧ h' = h := by
  refine Tryd.enG (n := xs.length + 1) (kf := Tryd.k9) (by kernel_rfl) Tryd.k9_eq rfl ?_
  by_cases e : xs.length = ys.length
  · have e1 : eqI (xs.length : Int) ys.length = true := by rw [eqI_eq]; exact decide_eq_true (by omega)
    simp [↓ kq, kq, ↓ ko, ko, kb, kv, kt, kx, w.length, w2.length, e1, -bO_of, -bB_true, -bB_false, -H.next_push, -Int.natCast_add]
    refine gets_next (gets_leave (Gets.mono (Tryd.ints_loop w w2 e hl xs.length 0 (xs.length + 1) _ (by omega) (by omega) ?_ ?_ ?_) fun fl t' h2 ⟨b1, b2⟩ => ?_))
    · simp [kq]
    · simp [kq]
    · simp [kq]
    subst b1
    rw [List.drop_zero, List.drop_zero] at b2
    rcases b2 with ⟨b1, b2⟩ | ⟨b1, b2, b3⟩
    · subst b1
      simp [↓ kq, kq, ↓ ko, ko, kb, kv, kt, kx, b2, gets_some, kc, oneS, -bO_of, -bB_true, -bB_false, -H.next_push, -Int.natCast_add]
    · subst b1
      simp [↓ kq, kq, ↓ ko, ko, kb, kv, kt, kx, b2, b3, gets_some, kc, oneS, -bO_of, -bB_true, -bB_false, -H.next_push, -Int.natCast_add]
  · have e1 : eqI (xs.length : Int) ys.length = false := by rw [eqI_eq]; exact decide_eq_false (by omega)
    have e2 : xs ≠ ys := fun c => e (by rw [c])
    simp [↓ kq, kq, ↓ ko, ko, kb, kv, kt, kx, w.length, w2.length, e1, e2, gets_some, kc, oneS, -bO_of, -bB_true, -bB_false, -H.next_push, -Int.natCast_add]
end
end Go.Proofs
