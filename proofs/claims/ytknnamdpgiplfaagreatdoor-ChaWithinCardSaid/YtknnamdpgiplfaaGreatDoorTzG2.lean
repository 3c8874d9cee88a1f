/- General laws of the proof: a shadow machine of the form, its soundness, and a compiled form of it. -/
import Derived.Test.YtknnamdpgiplfaaGreatDoorTzG1
set_option linter.unusedVariables false
set_option linter.unusedSimpArgs false
set_option linter.unusedSectionVars false
section
/- ChaWithin: the reference's WithinGraph. -/
namespace Go.Proofs
open Go.Sh
set_option linter.unusedVariables false
attribute [local instance] powHeld
noncomputable section
/-- A graph, as cells. -/
structure Gra (h : H) (c : List SV) (E : List Edg) (R : List (List UInt8)) : Prop where
  two : ∃ e r, c = [e, r] ∧ View h 3 e E.length (edgs E) ∧ View h 1 r R.length (strs R)
theorem Gra.keep {h h' : H} {c : List SV} {E : List Edg} {R : List (List UInt8)} (A : Gra h c E R) (f : Calms h h') : Gra h' c E R := by
  obtain ⟨e, r, rfl, we, wr⟩ := A.two
  exact ⟨⟨e, r, rfl, we.keep f fun _ _ k => k, wr.keep f fun _ _ k => k⟩⟩
theorem fill_two {e r : SV} (he : flatV e = true) (hr : flatV r = true) (t : T) : vFill [.nilslice, .nilslice, .nilslice, .nilslice] [(1, 1), (2, 1)] [xC e, xC r] t = some (.agg [.nilslice, e, r, .nilslice]) := by
  have h1 := cells_flat he
  have h2 := cells_flat hr
  have : kfillV [.nilslice, .nilslice, .nilslice, .nilslice] [(1, 1), (2, 1)] [e, r] = some [.nilslice, e, r, .nilslice] := by
    simp [kfillV, fillS, fillAsc, h1, h2, List.range, List.range.loop, List.zip, List.zipWith]
  show bO (kfillV [.nilslice, .nilslice, .nilslice, .nilslice] [(1, 1), (2, 1)] [e, r]) (fun cs => some (SV.agg cs)) = _
  rw [this]; rfl
theorem Tryz.withinGraph11 {h : H} {c d : List SV} {E F : List Edg} {R Q : List (List UInt8)} (A : Gra h c E R) (B : Gra h d F Q) (hE : E.length < 20000) (hF : F.length < 20000) (hR : R.length < 20000) (hQ : Q.length < 20000) :
    ∃ b h', Tryz.l2 8 [.agg c, .agg d] h = some (.bool b, h') ∧ Calms h h' ∧ (b = true ↔ (∀ x, x ∈ E → x ∈ F) ∧ (∀ x, x ∈ R → x ∈ Q)) := by
  have main : ∃ v' h', Tryz.l2 8 [.agg c, .agg d] h = some (v', h') ∧ ∃ b, v' = .bool b ∧ Calms h h' ∧ (b = true ↔ (∀ x, x ∈ E → x ∈ F) ∧ (∀ x, x ∈ R → x ∈ Q)) := by
    generalize hh1 : h.push (.cells c .fixed) = h1
    have f1 := calm_push hh1
    generalize hh2 : h1.push (.cells d .fixed) = h2
    have f2 := calm_push hh2
    have c02 := f1.trans f2
    have B1 := loadB (keepRow f2 (rowCells_fixed (get_pushed hh1)))
    have B2 := loadB (rowCells_fixed (get_pushed hh2))
    obtain ⟨e, r, rfl, we, wr⟩ := (A.keep c02).two
    obtain ⟨e', r', rfl, we', wr'⟩ := (B.keep c02).two
    have z1 : (SV.agg [e, r]).cells? = some [e, r] := rfl
    have z2 : (SV.agg [e', r']).cells? = some [e', r'] := rfl
    have A1 : Ans h2 [.nilslice, e, r, .nilslice] E R := ⟨⟨_, _, _, _, rfl, flat_view we, flat_view wr, rfl, rfl, ⟨rfl, .inl ⟨rfl, rfl⟩⟩, we, wr, ⟨rfl, .inl ⟨rfl, rfl⟩⟩⟩⟩
    have A2 : Ans h2 [.nilslice, e', r', .nilslice] F Q := ⟨⟨_, _, _, _, rfl, flat_view we', flat_view wr', rfl, rfl, ⟨rfl, .inl ⟨rfl, rfl⟩⟩, we', wr', ⟨rfl, .inl ⟨rfl, rfl⟩⟩⟩⟩
    obtain ⟨b, h3, k3, f3, hb⟩ := Tryz.within31 A1 A2 hE hF hR hQ
    have g1 := fill_two (flat_view we) (flat_view wr)
    have g2 := fill_two (flat_view we') (flat_view wr')
    refine Go.Sh.enG Tryz.kTab_ok (X := Tryz.X2) (kf := Tryz.k8) rfl (by kernel_rfl) 2 Tryz.k8_eq rfl ?_
    simp [↓ kq, kq, ↓ ko, ko, ↓ kt, ↓ kz, kb, kv, kt, kx, z1, z2, hh1, hh2, B1, B2, g1, g2, k3, gets_some, kc, oneS, -bO_of, -bB_true, -bB_false, -H.next_push, -Int.natCast_add]
    have hc := c02.trans f3
    cases b with
    | false =>
      refine .inl ⟨rfl, hc, fun h1 => Classical.byContradiction fun hn => ?_⟩
      have := hb.2 ⟨h1, fun x hx => Classical.byContradiction fun hx2 => hn ⟨x, hx, hx2⟩⟩
      cases this
    | true => exact .inr ⟨rfl, hc, hb.1 rfl⟩
  obtain ⟨_, h', k1, b, rfl, k2, k3⟩ := main
  exact ⟨b, h', k1, k2, k3⟩
end
end Go.Proofs
end
section
/- ChaWithin: slices.IndexFunc, slices.ContainsFunc. -/
namespace Go.Proofs
open Go.Sh
set_option linter.unusedVariables false
attribute [local instance] powHeld
noncomputable section
theorem Tryz.index157_loop {h0 : H} {v fv : SV} {l : List (List UInt8)} {g : FuncId} {cap : List SV} {P : (List UInt8) → Bool} (w0 : View h0 1 v l.length (strs l)) (hm : l.length < 4611686018427387904) (hf : fv = .func g cap) (hg : ∀ x h, Calms h0 h → ∃ h', Tryz.l2 g (.str x :: cap) h = some (.bool (P x), h') ∧ Calms h h') : ∀ (j i k : Nat) (h : H) (t : T), i + j = l.length → j < k → Calms h0 h → (∀ x ∈ l.take i, P x = false) → getP (way 0) t = some v → getP (way 1) t = some fv → getP (way 7) t = some (.int .i64 l.length) → getP (way 8) t = some (.int .i64 i) →
    Gets (cLoop Tryz.l75_0 k Tryz.l2 t h) fun fl t' h' => Calms h0 h' ∧ (fl = .exit 0 ∧ (∀ x ∈ l, P x = false) ∨ fl = .ret ∧ (∃ n : Nat, getP (way 4) t' = some (.int .i64 n)) ∧ ∃ x ∈ l, P x = true) := by
  intro j
  induction j with
  | zero =>
    intro i k h t hi hk f hp t0 t1 t7 t8
    obtain ⟨k, rfl⟩ : ∃ m, k = m + 1 := ⟨k - 1, by omega⟩
    rw [loop_succ]
    generalize (fun t h => cLoop Tryz.l75_0 k Tryz.l2 t h) = L
    unfold Tryz.l75_0
    have e1 : ltI (i : Int) (l.length : Int) = false := ltIf (by omega)
    rw [List.take_of_length_le (by omega)] at hp
    generalize l.length = n at *
    simp [↓ kq, kq, ↓ ko, ko, ↓ kt, ↓ kz, kb, kv, kt, kx, t0, t1, t7, t8, e1, gets_some, -bO_of, -bB_true, -bB_false, -H.next_push, -Int.natCast_add]
    exact ⟨f, hp⟩
  | succ j ih =>
    intro i k h t hi hk f hp t0 t1 t7 t8
    obtain ⟨k, rfl⟩ : ∃ m, k = m + 1 := ⟨k - 1, by omega⟩
    rw [loop_succ]
    generalize hL : (fun t h => cLoop Tryz.l75_0 k Tryz.l2 t h) = L
    have e1 : ltI (i : Int) (l.length : Int) = true := ltIt (by omega)
    have e3 : IntKind.i64.wrap ((i : Int) + 1) = ((i + 1 : Nat) : Int) := by rw [wrapI64 (by omega) (by omega)]; omega
    obtain ⟨y, hy⟩ : ∃ y, l[i]? = some y := ⟨l[i], List.getElem?_eq_getElem (by omega)⟩
    obtain ⟨p, c1, c2⟩ := text_load (w0.keep f fun _ _ k => k) hy
    obtain ⟨h1, k1, f1⟩ := hg y h f
    have hmem := List.mem_of_getElem? hy
    subst hf
    cases hP : P y with
    | true =>
      rw [hP] at k1
      unfold Tryz.l75_0
      generalize hn : l.length = n at *
      simp [↓ kq, kq, ↓ ko, ko, ↓ kt, ↓ kz, kb, kv, kt, kx, t0, t1, t7, t8, e1, e3, c1, c2, k1, asF, gets_some, -bO_of, -bB_true, -bB_false, -H.next_push, -Int.natCast_add]
      exact ⟨f.trans f1, ⟨i, rfl⟩, y, hmem, hP⟩
    | false =>
      rw [hP] at k1
      have h2 : ∀ x ∈ l.take (i + 1), P x = false := fun x hx => by
        rw [List.take_add_one, hy] at hx
        rcases List.mem_append.1 hx with hx | hx
        · exact hp x hx
        · simp at hx; subst hx; exact hP
      unfold Tryz.l75_0
      generalize hn : l.length = n at *
      simp [↓ kq, kq, ↓ ko, ko, ↓ kt, ↓ kz, kb, kv, kt, kx, t0, t1, t7, t8, e1, e3, c1, c2, k1, asF, -bO_of, -bB_true, -bB_false, -H.next_push, -Int.natCast_add]
      rw [← hL]
      exact ih (i + 1) k h1 _ (by omega) (by omega) (f.trans f1) h2 (by simp [kq, kb, t0]) (by simp [kq, kb, t1]) (by simp [kq, kb, t7]) (by simp [kq, kb])
theorem Tryz.index157 {h : H} {v : SV} {l : List (List UInt8)} {g : FuncId} {cap : List SV} {P : (List UInt8) → Bool} (w : View h 1 v l.length (strs l)) (hm : l.length < 4611686018427387904) (hg : ∀ x h', Calms h h' → ∃ h2, Tryz.l2 g (.str x :: cap) h' = some (.bool (P x), h2) ∧ Calms h' h2) :
    ∃ n h', Tryz.l2 75 [v, .func g cap] h = some (.int .i64 n, h') ∧ Calms h h' ∧ (0 ≤ n ↔ ∃ x ∈ l, P x = true) := by
  have main : ∃ v' h', Tryz.l2 75 [v, .func g cap] h = some (v', h') ∧ ∃ n, v' = .int .i64 n ∧ Calms h h' ∧ (0 ≤ n ↔ ∃ x ∈ l, P x = true) := by
    refine Go.Sh.enG Tryz.kTab_ok (X := Tryz.X2) (kf := Tryz.k75) rfl (by kernel_rfl) (l.length + 2) Tryz.k75_eq rfl ?_
    have lv := w.length
    simp [↓ kq, kq, ↓ ko, ko, ↓ kt, ↓ kz, kb, kv, kt, kx, lv, gets_some, -bO_of, -bB_true, -bB_false, -H.next_push, -Int.natCast_add]
    refine gets_next (gets_leave (Gets.mono (Tryz.index157_loop w hm rfl hg l.length 0 (l.length + 2) h _ (by omega) (by omega) .refl (by simp) (by simp [kq, kb]) (by simp [kq, kb]) (by simp [kq, kb]) (by simp [kq, kb])) fun fl t' h' ⟨b1, b2⟩ => ?_))
    rcases b2 with ⟨rfl, b3⟩ | ⟨rfl, ⟨n, b3⟩, x, b4, b5⟩
    · simp only [if_true]
      simp [↓ kq, kq, ↓ ko, ko, ↓ kt, ↓ kz, kb, kv, kt, kx, gets_some, kc, oneS, -bO_of, -bB_true, -bB_false, -H.next_push, -Int.natCast_add]
      exact ⟨b1, b3⟩
    · simp [↓ kq, kq, ↓ ko, ko, ↓ kt, ↓ kz, kb, kv, kt, kx, b3, gets_some, kc, oneS, -bO_of, -bB_true, -bB_false, -H.next_push, -Int.natCast_add]
      exact ⟨b1, x, b4, b5⟩
  obtain ⟨_, h', k1, n, rfl, k2, k3⟩ := main
  exact ⟨n, h', k1, k2, k3⟩
theorem Tryz.contains94 {h : H} {v : SV} {l : List (List UInt8)} {g : FuncId} {cap : List SV} {P : (List UInt8) → Bool} (w : View h 1 v l.length (strs l)) (hm : l.length < 4611686018427387904) (hg : ∀ x h', Calms h h' → ∃ h2, Tryz.l2 g (.str x :: cap) h' = some (.bool (P x), h2) ∧ Calms h' h2) :
    ∃ h', Tryz.l2 37 [v, .func g cap] h = some (.bool (l.any P), h') ∧ Calms h h' := by
  have main : ∃ v' h', Tryz.l2 37 [v, .func g cap] h = some (v', h') ∧ (v' = .bool (l.any P) ∧ Calms h h') := by
    obtain ⟨n, h1, k1, f1, hn⟩ := Tryz.index157 w hm hg
    refine Go.Sh.enG Tryz.kTab_ok (X := Tryz.X2) (kf := Tryz.k37) rfl (by kernel_rfl) 2 Tryz.k37_eq rfl ?_
    by_cases h0 : 0 ≤ n
    · have e1 : ltI n 0 = false := ltIf (by omega)
      have e2 : l.any P = true := List.any_eq_true.2 (hn.1 h0)
      rw [e2]
      simp [↓ kq, kq, ↓ ko, ko, ↓ kt, ↓ kz, kb, kv, kt, kx, k1, e1, gets_some, kc, oneS, -bO_of, -bB_true, -bB_false, -H.next_push, -Int.natCast_add]
      exact f1
    · have e1 : ltI n 0 = true := ltIt (by omega)
      have e2 : l.any P = false := by
        cases q : l.any P with
        | false => rfl
        | true => exact absurd (hn.2 (List.any_eq_true.1 q)) h0
      rw [e2]
      simp [↓ kq, kq, ↓ ko, ko, ↓ kt, ↓ kz, kb, kv, kt, kx, k1, e1, gets_some, kc, oneS, -bO_of, -bB_true, -bB_false, -H.next_push, -Int.natCast_add]
      exact f1
  obtain ⟨_, h', k1, rfl, k2⟩ := main
  exact ⟨h', k1, k2⟩
theorem Tryz.index156_loop {h0 : H} {v fv : SV} {l : List Edg} {g : FuncId} {cap : List SV} {P : Edg → Bool} (w0 : View h0 3 v l.length (edgs l)) (hm : l.length < 4611686018427387904) (hf : fv = .func g cap) (hg : ∀ x h, Calms h0 h → ∃ h', Tryz.l2 g (.agg x.cells :: cap) h = some (.bool (P x), h') ∧ Calms h h') : ∀ (j i k : Nat) (h : H) (t : T), i + j = l.length → j < k → Calms h0 h → (∀ x ∈ l.take i, P x = false) → getP (way 0) t = some v → getP (way 1) t = some fv → getP (way 7) t = some (.int .i64 l.length) → getP (way 8) t = some (.int .i64 i) →
    Gets (cLoop Tryz.l74_0 k Tryz.l2 t h) fun fl t' h' => Calms h0 h' ∧ (fl = .exit 0 ∧ (∀ x ∈ l, P x = false) ∨ fl = .ret ∧ (∃ n : Nat, getP (way 4) t' = some (.int .i64 n)) ∧ ∃ x ∈ l, P x = true) := by
  intro j
  induction j with
  | zero =>
    intro i k h t hi hk f hp t0 t1 t7 t8
    obtain ⟨k, rfl⟩ : ∃ m, k = m + 1 := ⟨k - 1, by omega⟩
    rw [loop_succ]
    generalize (fun t h => cLoop Tryz.l74_0 k Tryz.l2 t h) = L
    unfold Tryz.l74_0
    have e1 : ltI (i : Int) (l.length : Int) = false := ltIf (by omega)
    rw [List.take_of_length_le (by omega)] at hp
    generalize l.length = n at *
    simp [↓ kq, kq, ↓ ko, ko, ↓ kt, ↓ kz, kb, kv, kt, kx, t0, t1, t7, t8, e1, gets_some, -bO_of, -bB_true, -bB_false, -H.next_push, -Int.natCast_add]
    exact ⟨f, hp⟩
  | succ j ih =>
    intro i k h t hi hk f hp t0 t1 t7 t8
    obtain ⟨k, rfl⟩ : ∃ m, k = m + 1 := ⟨k - 1, by omega⟩
    rw [loop_succ]
    generalize hL : (fun t h => cLoop Tryz.l74_0 k Tryz.l2 t h) = L
    have e1 : ltI (i : Int) (l.length : Int) = true := ltIt (by omega)
    have e3 : IntKind.i64.wrap ((i : Int) + 1) = ((i + 1 : Nat) : Int) := by rw [wrapI64 (by omega) (by omega)]; omega
    obtain ⟨y, hy⟩ : ∃ y, l[i]? = some y := ⟨l[i], List.getElem?_eq_getElem (by omega)⟩
    obtain ⟨p, c1, c2⟩ := edge_load (w0.keep f fun _ _ k => k) hy
    obtain ⟨h1, k1, f1⟩ := hg y h f
    have hmem := List.mem_of_getElem? hy
    subst hf
    cases hP : P y with
    | true =>
      rw [hP] at k1
      unfold Tryz.l74_0
      generalize hn : l.length = n at *
      simp [↓ kq, kq, ↓ ko, ko, ↓ kt, ↓ kz, kb, kv, kt, kx, t0, t1, t7, t8, e1, e3, c1, c2, k1, asF, gets_some, -bO_of, -bB_true, -bB_false, -H.next_push, -Int.natCast_add]
      exact ⟨f.trans f1, ⟨i, rfl⟩, y, hmem, hP⟩
    | false =>
      rw [hP] at k1
      have h2 : ∀ x ∈ l.take (i + 1), P x = false := fun x hx => by
        rw [List.take_add_one, hy] at hx
        rcases List.mem_append.1 hx with hx | hx
        · exact hp x hx
        · simp at hx; subst hx; exact hP
      unfold Tryz.l74_0
      generalize hn : l.length = n at *
      simp [↓ kq, kq, ↓ ko, ko, ↓ kt, ↓ kz, kb, kv, kt, kx, t0, t1, t7, t8, e1, e3, c1, c2, k1, asF, -bO_of, -bB_true, -bB_false, -H.next_push, -Int.natCast_add]
      rw [← hL]
      exact ih (i + 1) k h1 _ (by omega) (by omega) (f.trans f1) h2 (by simp [kq, kb, t0]) (by simp [kq, kb, t1]) (by simp [kq, kb, t7]) (by simp [kq, kb])
theorem Tryz.index156 {h : H} {v : SV} {l : List Edg} {g : FuncId} {cap : List SV} {P : Edg → Bool} (w : View h 3 v l.length (edgs l)) (hm : l.length < 4611686018427387904) (hg : ∀ x h', Calms h h' → ∃ h2, Tryz.l2 g (.agg x.cells :: cap) h' = some (.bool (P x), h2) ∧ Calms h' h2) :
    ∃ n h', Tryz.l2 74 [v, .func g cap] h = some (.int .i64 n, h') ∧ Calms h h' ∧ (0 ≤ n ↔ ∃ x ∈ l, P x = true) := by
  have main : ∃ v' h', Tryz.l2 74 [v, .func g cap] h = some (v', h') ∧ ∃ n, v' = .int .i64 n ∧ Calms h h' ∧ (0 ≤ n ↔ ∃ x ∈ l, P x = true) := by
    refine Go.Sh.enG Tryz.kTab_ok (X := Tryz.X2) (kf := Tryz.k74) rfl (by kernel_rfl) (l.length + 2) Tryz.k74_eq rfl ?_
    have lv := w.length
    simp [↓ kq, kq, ↓ ko, ko, ↓ kt, ↓ kz, kb, kv, kt, kx, lv, gets_some, -bO_of, -bB_true, -bB_false, -H.next_push, -Int.natCast_add]
    refine gets_next (gets_leave (Gets.mono (Tryz.index156_loop w hm rfl hg l.length 0 (l.length + 2) h _ (by omega) (by omega) .refl (by simp) (by simp [kq, kb]) (by simp [kq, kb]) (by simp [kq, kb]) (by simp [kq, kb])) fun fl t' h' ⟨b1, b2⟩ => ?_))
    rcases b2 with ⟨rfl, b3⟩ | ⟨rfl, ⟨n, b3⟩, x, b4, b5⟩
    · simp only [if_true]
      simp [↓ kq, kq, ↓ ko, ko, ↓ kt, ↓ kz, kb, kv, kt, kx, gets_some, kc, oneS, -bO_of, -bB_true, -bB_false, -H.next_push, -Int.natCast_add]
      exact ⟨b1, b3⟩
    · simp [↓ kq, kq, ↓ ko, ko, ↓ kt, ↓ kz, kb, kv, kt, kx, b3, gets_some, kc, oneS, -bO_of, -bB_true, -bB_false, -H.next_push, -Int.natCast_add]
      exact ⟨b1, x, b4, b5⟩
  obtain ⟨_, h', k1, n, rfl, k2, k3⟩ := main
  exact ⟨n, h', k1, k2, k3⟩
theorem Tryz.contains92 {h : H} {v : SV} {l : List Edg} {g : FuncId} {cap : List SV} {P : Edg → Bool} (w : View h 3 v l.length (edgs l)) (hm : l.length < 4611686018427387904) (hg : ∀ x h', Calms h h' → ∃ h2, Tryz.l2 g (.agg x.cells :: cap) h' = some (.bool (P x), h2) ∧ Calms h' h2) :
    ∃ h', Tryz.l2 35 [v, .func g cap] h = some (.bool (l.any P), h') ∧ Calms h h' := by
  have main : ∃ v' h', Tryz.l2 35 [v, .func g cap] h = some (v', h') ∧ (v' = .bool (l.any P) ∧ Calms h h') := by
    obtain ⟨n, h1, k1, f1, hn⟩ := Tryz.index156 w hm hg
    refine Go.Sh.enG Tryz.kTab_ok (X := Tryz.X2) (kf := Tryz.k35) rfl (by kernel_rfl) 2 Tryz.k35_eq rfl ?_
    by_cases h0 : 0 ≤ n
    · have e1 : ltI n 0 = false := ltIf (by omega)
      have e2 : l.any P = true := List.any_eq_true.2 (hn.1 h0)
      rw [e2]
      simp [↓ kq, kq, ↓ ko, ko, ↓ kt, ↓ kz, kb, kv, kt, kx, k1, e1, gets_some, kc, oneS, -bO_of, -bB_true, -bB_false, -H.next_push, -Int.natCast_add]
      exact f1
    · have e1 : ltI n 0 = true := ltIt (by omega)
      have e2 : l.any P = false := by
        cases q : l.any P with
        | false => rfl
        | true => exact absurd (hn.2 (List.any_eq_true.1 q)) h0
      rw [e2]
      simp [↓ kq, kq, ↓ ko, ko, ↓ kt, ↓ kz, kb, kv, kt, kx, k1, e1, gets_some, kc, oneS, -bO_of, -bB_true, -bB_false, -H.next_push, -Int.natCast_add]
      exact f1
  obtain ⟨_, h', k1, rfl, k2⟩ := main
  exact ⟨h', k1, k2⟩
end
end Go.Proofs
end
section
/- Maps that count. -/
namespace Go.Proofs
open Go.Sh
set_option linter.unusedVariables false
/-- keys of a type, told apart -/
structure Keys {κ : Type} (q : KKey) (enc : κ → SV) : Prop where
  ok : ∀ k, okKK q (enc k) = true
  yes : ∀ k, eqKK q (enc k) (enc k) = some true
  no : ∀ a b, a ≠ b → eqKK q (enc a) (enc b) = some false
def Ent {κ : Type} (enc : κ → SV) (es : List (SV × SV × Nat)) : Prop := ∀ x, x ∈ es → ∃ k, x.1 = enc k
theorem kfind_cons (q : KKey) (k : SV) (x : SV × SV × Nat) (es : List (SV × SV × Nat)) (i : Nat) : kfind q k (x :: es) i = bO (eqKK q k x.1) fun c => bB c (some (some (i, x.2.1, x.2.2))) (kfind q k es (i + 1)) := rfl
theorem kfind_app {κ : Type} {q : KKey} {enc : κ → SV} (K : Keys q enc) (k a : κ) (v : SV) (b : Nat) : ∀ (es : List (SV × SV × Nat)) (i : Nat), Ent enc es →
    (∀ r, kfind q (enc k) es i = some (some r) → kfind q (enc k) (es ++ [(enc a, v, b)]) i = some (some r)) ∧
    (kfind q (enc k) es i = some none → kfind q (enc k) (es ++ [(enc a, v, b)]) i = bO (eqKK q (enc k) (enc a)) fun c => bB c (some (some (i + es.length, v, b))) (some none))
  | [], i, _ => ⟨fun r h => (by cases h), fun _ => rfl⟩
  | x :: es, i, hE => by
    obtain ⟨k', hk⟩ := hE x (List.mem_cons_self ..)
    have ih := kfind_app K k a v b es (i + 1) fun y hy => hE y (List.mem_cons_of_mem _ hy)
    rw [List.cons_append, kfind_cons, kfind_cons, hk]
    by_cases e : k = k'
    · subst e
      rw [K.yes]
      exact ⟨fun r h => h, fun h => by cases h⟩
    · rw [K.no _ _ e]
      refine ⟨ih.1, fun h => (ih.2 h).trans ?_⟩
      rw [List.length_cons, show i + 1 + es.length = i + (es.length + 1) by omega]
theorem kfind_set {κ : Type} {q : KKey} {enc : κ → SV} (K : Keys q enc) (k : κ) (v : SV) (b : Nat) : ∀ (es : List (SV × SV × Nat)) (i j : Nat) (u : SV), Ent enc es → kfind q (enc k) es i = some (some (i + j, u, b)) → j < es.length ∧ Ent enc (es.set j (enc k, v, b)) ∧ kfind q (enc k) (es.set j (enc k, v, b)) i = some (some (i + j, v, b)) ∧
    ∀ a, a ≠ k → kfind q (enc a) (es.set j (enc k, v, b)) i = kfind q (enc a) es i
  | [], i, j, u, _, h => by cases h
  | x :: es, i, j, u, hE, h => by
    obtain ⟨k', hk⟩ := hE x (List.mem_cons_self ..)
    rw [kfind_cons, hk] at h
    by_cases e : k = k'
    · subst e
      rw [K.yes] at h
      have h : some (some (i, x.2.1, x.2.2)) = some (some (i + j, u, b)) := h
      simp only [Option.some.injEq, Prod.mk.injEq] at h
      have hj : j = 0 := by omega
      subst hj
      refine ⟨by simp, fun y hy => ?_, ?_, fun a ha => ?_⟩
      · rcases List.mem_cons.1 hy with rfl | hy
        · exact ⟨k, rfl⟩
        · exact hE y (List.mem_cons_of_mem _ hy)
      · rw [List.set_cons_zero, kfind_cons, K.yes]; rfl
      · rw [List.set_cons_zero, kfind_cons, kfind_cons, hk, K.no _ _ ha]; rfl
    · rw [K.no _ _ e] at h
      have h : kfind q (enc k) es (i + 1) = some (some (i + j, u, b)) := h
      have hij : ∀ (es : List (SV × SV × Nat)) (n m : Nat) (r : SV × Nat), kfind q (enc k) es n = some (some (m, r)) → n ≤ m := by
        intro es
        induction es with
        | nil => intro n m r h; cases h
        | cons y es ih =>
          intro n m r h
          rw [kfind_cons] at h
          cases hc : eqKK q (enc k) y.1 with
          | none => rw [hc] at h; cases h
          | some c =>
            rw [hc] at h
            cases c with
            | true =>
              have h : some (some (n, y.2.1, y.2.2)) = some (some (m, r)) := h
              simp only [Option.some.injEq, Prod.mk.injEq] at h
              omega
            | false => have := ih (n + 1) m r h; omega
      have := hij es (i + 1) (i + j) _ h
      obtain ⟨j, rfl⟩ : ∃ m, j = m + 1 := ⟨j - 1, by omega⟩
      rw [show i + (j + 1) = i + 1 + j by omega] at h
      obtain ⟨r1, r2, r3, r4⟩ := kfind_set K k v b es (i + 1) j u (fun y hy => hE y (List.mem_cons_of_mem _ hy)) h
      refine ⟨by simp; omega, fun y hy => ?_, ?_, fun a ha => ?_⟩
      · rcases List.mem_cons.1 hy with rfl | hy
        · exact ⟨k', hk⟩
        · exact r2 y hy
      · rw [List.set_cons_succ, kfind_cons, hk, K.no _ _ e, show i + (j + 1) = i + 1 + j by omega]
        exact r3
      · rw [List.set_cons_succ, kfind_cons, kfind_cons, hk]
        by_cases e2 : a = k'
        · subst e2; rw [K.yes]; rfl
        · rw [K.no _ _ e2]; exact r4 a ha
/-- A map of counters. -/
def Cnt {κ : Type} (q : KKey) (enc : κ → SV) (h : H) (id : Nat) (f : κ → Int) : Prop :=
  ∃ es clk, h.get id = some (.map es clk) ∧ Ent enc es ∧ ∀ k, kfind q (enc k) es 0 = some none ∧ f k = 0 ∨ ∃ j b, kfind q (enc k) es 0 = some (some (j, .int .i64 (f k), b))
theorem Cnt.look {κ : Type} {q : KKey} {enc : κ → SV} (K : Keys q enc) {h : H} {id : Nat} {f : κ → Int} (c : Cnt q enc h id f) (k : κ) : klookup h.get q (some (.int .i64 0)) false (.map id) (enc k) = some (.int .i64 (f k)) := by
  obtain ⟨es, clk, h1, _, h2⟩ := c
  have hm : mapOf h.get (.map id) = some es := by
    show (match h.get id with
      | some (.map es _) => some es
      | _ => none) = _
    rw [h1]
  unfold klookup
  rw [K.ok, hm]
  rcases h2 k with ⟨h3, h4⟩ | ⟨j, b, h3⟩
  · show bO (kfind q (enc k) es 0) _ = _
    rw [h3, h4]; rfl
  · show bO (kfind q (enc k) es 0) _ = _
    rw [h3]; rfl
open Classical in
theorem Cnt.put {κ : Type} {q : KKey} {enc : κ → SV} (K : Keys q enc) {h : H} {id : Nat} {f : κ → Int} (c : Cnt q enc h id f) (k : κ) (n : Int) :
    ∃ h', kmapPut h q (enc k) (.int .i64 n) (.map id) = some h' ∧ Cnt q enc h' id (fun x => if x = k then n else f x) ∧ Fr (· = id) (· = id) h h' := by
  obtain ⟨es, clk, h1, hE, h2⟩ := c
  have hid := H.get_lt h1
  have e0 : kmapPut h q (enc k) (.int .i64 n) (.map id) = bO (kfind q (enc k) es 0) fun r => (match r with
      | some (i, _, b) => some (h.put id (.map (es.set i (enc k, .int .i64 n, b)) clk))
      | none => some (h.put id (.map (es ++ [(enc k, .int .i64 n, clk)]) (Nat.succ clk)))) := by
    show bB (okKK q (enc k)) (match h.get id with
      | some (.map es c) => bO (kfind q (enc k) es 0) fun r => (match r with
        | some (i, _, b) => some (h.put id (.map (es.set i (enc k, .int .i64 n, b)) c))
        | none => some (h.put id (.map (es ++ [(enc k, .int .i64 n, c)]) (Nat.succ c))))
      | _ => none) none = _
    rw [K.ok, h1]; rfl
  rw [e0]
  rcases h2 k with ⟨h3, h4⟩ | ⟨j, b, h3⟩
  · refine ⟨h.put id (.map (es ++ [(enc k, .int .i64 n, clk)]) (Nat.succ clk)), ?_, ⟨_, _, by rw [H.get_put _ _ _ _ hid, if_pos rfl], fun x hx => ?_, fun a => (?_ : kfind q (enc a) _ 0 = some none ∧ (if a = k then n else f a) = 0 ∨ ∃ j b, kfind q (enc a) _ 0 = some (some (j, .int .i64 (if a = k then n else f a), b)))⟩, Fr.put hid⟩
    · rw [h3]; rfl
    · rcases List.mem_append.1 hx with hx | hx
      · exact hE x hx
      · simp at hx; subst hx; exact ⟨k, rfl⟩
    · have A := kfind_app K a k (.int .i64 n) clk es 0 hE
      by_cases e : a = k
      · subst e
        right
        rw [if_pos rfl, A.2 h3, K.yes]
        exact ⟨_, _, rfl⟩
      · rw [if_neg e]
        rcases h2 a with ⟨g1, g2⟩ | ⟨j', b', g1⟩
        · left
          rw [A.2 g1, K.no _ _ e]
          exact ⟨rfl, g2⟩
        · right
          exact ⟨j', b', A.1 _ g1⟩
  · obtain ⟨r1, r2, r3, r4⟩ := kfind_set K k (.int .i64 n) b es 0 j (.int .i64 (f k)) hE (by rw [Nat.zero_add]; exact h3)
    refine ⟨h.put id (.map (es.set j (enc k, .int .i64 n, b)) clk), ?_, ⟨_, _, by rw [H.get_put _ _ _ _ hid, if_pos rfl], r2, fun a => (?_ : kfind q (enc a) _ 0 = some none ∧ (if a = k then n else f a) = 0 ∨ ∃ j b, kfind q (enc a) _ 0 = some (some (j, .int .i64 (if a = k then n else f a), b)))⟩, Fr.put hid⟩
    · rw [h3]; rfl
    · by_cases e : a = k
      · subst e
        right
        rw [if_pos rfl]
        exact ⟨_, _, r3⟩
      · rw [if_neg e, r4 a e]
        exact h2 a
theorem Cnt.keep {κ : Type} {q : KKey} {enc : κ → SV} {h h' : H} {id : Nat} {f : κ → Int} {S W : Nat → Prop} (c : Cnt q enc h id f) (k : Fr S W h h') (hn : ¬ S id) : Cnt q enc h' id f := by
  obtain ⟨es, clk, h1, h2⟩ := c
  exact ⟨es, clk, k.get h1 hn, h2⟩
theorem Cnt.none {κ : Type} {q : KKey} {enc : κ → SV} {h : H} {id : Nat} (e : h.get id = some (.map [] 0)) : Cnt q enc h id (fun _ => 0) := ⟨[], 0, e, fun x hx => by simp at hx, fun k => .inl ⟨rfl, rfl⟩⟩
theorem strKeys : Keys (.one .str) SV.str := ⟨fun _ => rfl, fun k => by show some (eqB k k) = _; rw [eqB_self], fun a b h => by show some (eqB a b) = _; rw [eqB_ne h]⟩
theorem edgKeys : Keys (.many [.str, .int, .str]) (fun e : Edg => SV.agg e.cells) := ⟨fun _ => rfl, fun k => keq_self (fun _ => none) k, fun a b h => keq_ne (fun _ => none) h⟩
end Go.Proofs
end
section
/- ChaWithin: within, at texts. -/
namespace Go.Proofs
open Go.Sh
set_option linter.unusedVariables false
attribute [local instance] powHeld
noncomputable section
theorem kl : ∀ (q : KKey) (z : Option SV) (ok : Bool) (x i : XF) (g : Nat → Option SObj) (t : T), lLookup q z ok x i g t = bO (x t) fun m => bO (i t) fun k => klookup g q z ok m k := fun _ _ _ _ _ _ _ => rfl
theorem kp : ∀ (q : KKey) (m k v : XF) (h : H) (t : T), tMapPut q m k v h t = bO (m t) fun m => bO (k t) fun k => bO (v t) fun v => bO (kmapPut h q k v m) fun h => some (.tuple [], h) := fun _ _ _ _ _ _ => rfl
theorem kn : ∀ (c : CF) (m : Nat) (t : T) (h : H) (k : SV → H → FR), sN aNewMap c m t h k = k (.map h.next) (h.push (.map [] 0)) := fun _ _ _ _ _ => rfl
theorem Tryz.met95 {h : H} {b id : Nat} {f : List UInt8 → Int} (hb : rowCells h.get b = some [.map id]) (c : Cnt (.one .str) SV.str h id f) (s : List UInt8) : Tryz.l2 38 [.str s, .ptr b 0] h = some (.bool (eqI (f s) 0), h) := by
  have main : ∃ v' h', Tryz.l2 38 [.str s, .ptr b 0] h = some (v', h') ∧ (v' = .bool (eqI (f s) 0) ∧ h' = h) := by
    have ld := loadB hb
    have lk := c.look strKeys s
    have kl2 := kl
    refine Go.Sh.enG Tryz.kTab_ok (X := Tryz.X2) (kf := Tryz.k38) rfl (by kernel_rfl) 2 Tryz.k38_eq rfl ?_
    simp [↓ kq, kq, ↓ ko, ko, ↓ kt, ↓ kz, kb, kv, kt, kx, ld, lk, kl2, gets_some, kc, oneS, -bO_of, -bB_true, -bB_false, -H.next_push, -Int.natCast_add]
  obtain ⟨_, _, k1, rfl, rfl⟩ := main
  exact k1
theorem Tryz.count33_loop {h0 : H} {v : SV} {l : List (List UInt8)} {b id : Nat} (w0 : View h0 1 v l.length (strs l)) (hm : l.length < 60000) (hv : ∀ q, isRow v q → q ≠ id) (hb0 : rowCells h0.get b = some [.map id]) (hbi : b ≠ id) : ∀ (j i k : Nat) (h : H) (t : T) (f : List UInt8 → Int), i + j = l.length → j < k → Fr (· = id) (· = id) h0 h → Cnt (.one .str) SV.str h id f → (∀ s, (0 < f s ↔ s ∈ l.take i) ∧ 0 ≤ f s ∧ f s ≤ i) →
    getP (way 5) t = some (.ptr b 0) → getP (way 9) t = some v → getP (way 10) t = some (.int .i64 l.length) → getP (way 11) t = some (.int .i64 i) →
    Gets (cLoop Tryz.l15_0 k Tryz.l2 t h) fun fl t' h' => fl = .exit 0 ∧ getP (way 0) t' = getP (way 0) t ∧ getP (way 5) t' = some (.ptr b 0) ∧ Fr (· = id) (· = id) h0 h' ∧ ∃ f, Cnt (.one .str) SV.str h' id f ∧ ∀ s, (0 < f s ↔ s ∈ l) ∧ 0 ≤ f s := by
  intro j
  induction j with
  | zero =>
    intro i k h t f hi hk fr c hf t5 t9 t10 t11
    obtain ⟨k, rfl⟩ : ∃ m, k = m + 1 := ⟨k - 1, by omega⟩
    rw [loop_succ]
    generalize (fun t h => cLoop Tryz.l15_0 k Tryz.l2 t h) = L
    unfold Tryz.l15_0
    have e1 : ltI (i : Int) (l.length : Int) = false := ltIf (by omega)
    rw [List.take_of_length_le (by omega)] at hf
    generalize l.length = n at *
    simp [↓ kq, kq, ↓ ko, ko, ↓ kt, ↓ kz, kb, kv, kt, kx, t5, t9, t10, t11, e1, gets_some, -bO_of, -bB_true, -bB_false, -H.next_push, -Int.natCast_add]
    exact ⟨fr, f, c, fun s => ⟨(hf s).1, (hf s).2.1⟩⟩
  | succ j ih =>
    intro i k h t f hi hk fr c hf t5 t9 t10 t11
    obtain ⟨k, rfl⟩ : ∃ m, k = m + 1 := ⟨k - 1, by omega⟩
    rw [loop_succ]
    generalize hL : (fun t h => cLoop Tryz.l15_0 k Tryz.l2 t h) = L
    have e1 : ltI (i : Int) (l.length : Int) = true := ltIt (by omega)
    have e3 : IntKind.i64.wrap ((i : Int) + 1) = ((i + 1 : Nat) : Int) := by rw [wrapI64 (by omega) (by omega)]; omega
    obtain ⟨y, hy⟩ : ∃ y, l[i]? = some y := ⟨l[i], List.getElem?_eq_getElem (by omega)⟩
    obtain ⟨p, c1, c2⟩ := text_load (w0.keep fr hv) hy
    have ld := loadB ((rowCells_keep fr (rowCells_lt hb0) hbi).trans hb0)
    have lk := c.look strKeys y
    obtain ⟨_, g1, g2⟩ := hf y
    have e4 : IntKind.i64.wrap (f y + 1) = f y + 1 := wrapI64 (by omega) (by omega)
    obtain ⟨h1, k1, c', f1⟩ := c.put strKeys y (f y + 1)
    have kl2 := kl
    have kp2 := kp
    unfold Tryz.l15_0
    generalize hn : l.length = n at *
    simp [↓ kq, kq, ↓ ko, ko, ↓ kt, ↓ kz, kb, kv, kt, kx, t5, t9, t10, t11, e1, e3, e4, c1, c2, ld, lk, k1, kl2, kp2, -bO_of, -bB_true, -bB_false, -H.next_push, -Int.natCast_add]
    rw [← hL]
    refine Gets.mono (ih (i + 1) k h1 _ _ (by omega) (by omega) (fr.trans f1) c' (fun s => ?_) (by simp [kq, kb, t5]) (by simp [kq, kb, t9]) (by simp [kq, kb, t10]) (by simp [kq, kb])) fun fl t' h' ⟨b1, b2, b3⟩ => ⟨b1, b2.trans (by simp [kq, kb]), b3⟩
    obtain ⟨q1, q2, q3⟩ := hf s
    rw [List.take_add_one, hy]
    simp only [Option.toList_some, List.mem_append, List.mem_singleton]
    by_cases e : s = y
    · subst e
      rw [if_pos rfl]
      exact ⟨⟨fun _ => .inr rfl, fun _ => by omega⟩, by omega, by omega⟩
    · rw [if_neg e]
      refine ⟨⟨fun h => .inl (q1.1 h), fun h => ?_⟩, q2, by omega⟩
      rcases h with h | h
      · exact q1.2 h
      · exact absurd h e
theorem Tryz.within33 {h : H} {v u : SV} {a l : List (List UInt8)} (wa : View h 1 v a.length (strs a)) (wl : View h 1 u l.length (strs l)) (ha : a.length < 60000) (hl : l.length < 60000) :
    ∃ r h', Tryz.l2 15 [v, u] h = some (.bool r, h') ∧ Calms h h' ∧ (r = true ↔ ∀ x ∈ a, x ∈ l) := by
  have main : ∃ v' h', Tryz.l2 15 [v, u] h = some (v', h') ∧ ∃ r, v' = .bool r ∧ Calms h h' ∧ (r = true ↔ ∀ x ∈ a, x ∈ l) := by
    generalize hh1 : h.push (.map [] 0) = h1
    have f1 := calm_push hh1
    generalize hh2 : h1.push (.cells [.nilmap] .fixed) = h2
    have f2 := calm_push hh2
    have g2 := get_pushed hh2
    have n1 : h.next < h1.next := by rw [← hh1, H.next_push]; omega
    have n2 : h1.next < h2.next := by rw [← hh2, H.next_push]; omega
    have m2 : h2.get h.next = some (.map [] 0) := (f2.get _ n1).trans (get_pushed hh1)
    have st := storeV_one (v := .map h.next) g2 (show 0 < 1 by omega) rfl
    generalize hh3 : h2.put h1.next (.cells ([SV.nilmap].set 0 (.map h.next)) .fixed) = h3 at st
    have f3 : Fr (· = h1.next) (· = h1.next) h2 h3 := by rw [← hh3]; exact Fr.put n2
    have hb3 : rowCells h3.get h1.next = some [.map h.next] := rowCells_fixed (by rw [← hh3, H.get_put _ _ _ _ n2, if_pos rfl]; rfl)
    have m3 : h3.get h.next = some (.map [] 0) := f3.get m2 (by omega)
    have c03 : Calms h h3 := Fr.new (f1.trans f2) f3 (fun q hq => by subst hq; omega) (fun q hq => by subst hq; omega)
    have lu := wl.length
    have kn2 := kn
    have wl3 := wl.keep c03 fun _ _ k => k
    refine Go.Sh.enG Tryz.kTab_ok (X := Tryz.X2) (kf := Tryz.k15) rfl (by kernel_rfl) (l.length + 2) Tryz.k15_eq rfl ?_
    simp [↓ kq, kq, ↓ ko, ko, ↓ kt, ↓ kz, kb, kv, kt, kx, kn2, hh1, hh2, st, lu, gets_some, -bO_of, -bB_true, -bB_false, -H.next_push, -Int.natCast_add]
    refine gets_next (gets_leave (Gets.mono (Tryz.count33_loop wl3 hl (fun q hq k => by have := wl.lt q hq; omega) hb3 (by omega) l.length 0 (l.length + 2) h3 _ (fun _ => 0) (by omega) (by omega) .refl (.none m3) (fun s => by simp) (by simp [kq, kb]) (by simp [kq, kb]) (by simp [kq, kb]) (by simp [kq, kb])) fun fl t' h4 ⟨b1, b2, b3, f4, f, c, hf⟩ => ?_))
    subst b1
    have t0 : getP (way 0) t' = some v := b2.trans (by simp [kq, kb])
    have c04 : Calms h h4 := Fr.new c03 f4 (fun q hq => by subst hq; omega) (fun q hq => by subst hq; omega)
    have hb4 : rowCells h4.get h1.next = some [.map h.next] := (rowCells_keep f4 (rowCells_lt hb3) (by omega)).trans hb3
    obtain ⟨h5, k5, f5⟩ := Tryz.contains94 (h := h4) (g := 38) (cap := [.ptr h1.next 0]) (P := fun s => eqI (f s) 0) (wa.keep c04 fun _ _ k => k) (by omega) (fun x h' fr => ⟨h', Tryz.met95 (keepRow fr hb4) (c.keep fr fun k => k) x, .refl⟩)
    simp only [if_true]
    have hvf : vFunc 38 [xW 5] t' = some (.func 38 [.ptr h1.next 0]) := by
      show bO (bO (xW 5 t') fun v => bO (xL [] t') fun vs => some (v :: vs)) (fun vs => some (SV.func 38 vs)) = _
      rw [show xW 5 t' = getP (way 5) t' from rfl, b3]; rfl
    have hun : ∀ b, unS UnOp.not (.bool b) = some (.bool (!b)) := fun _ => rfl
    have hc := c04.trans f5
    have hr : (!(a.any fun s => eqI (f s) 0)) = true ↔ ∀ x ∈ a, x ∈ l := by
      rw [Bool.not_eq_true', List.any_eq_false]
      constructor
      · intro q x hx
        have := q x hx
        rw [eqI_eq] at this
        have h0 : f x ≠ 0 := fun e => this (by simp [e])
        exact (hf x).1.1 (by have := (hf x).2; omega)
      · intro q x hx
        have := (hf x).1.2 (q x hx)
        rw [eqI_eq]
        simp; omega
    generalize (a.any fun s => eqI (f s) 0) = r at *
    cases r with
    | true =>
      simp [↓ kq, kq, ↓ ko, ko, ↓ kt, ↓ kz, kb, kv, kt, kx, t0, b3, hvf, hun, k5, gets_some, kc, oneS, -bO_of, -bB_true, -bB_false, -H.next_push, -Int.natCast_add]
      refine ⟨hc, Classical.byContradiction fun hn => ?_⟩
      have := hr.2 fun x hx => Classical.byContradiction fun hx2 => hn ⟨x, hx, hx2⟩
      cases this
    | false =>
      simp [↓ kq, kq, ↓ ko, ko, ↓ kt, ↓ kz, kb, kv, kt, kx, t0, b3, hvf, hun, k5, gets_some, kc, oneS, -bO_of, -bB_true, -bB_false, -H.next_push, -Int.natCast_add]
      exact ⟨hc, hr.1 rfl⟩
  obtain ⟨_, h', k1, r, rfl, k2⟩ := main
  exact ⟨r, h', k1, k2⟩
end
end Go.Proofs
end
section
/- Maps that count, their entries told apart by their births. -/
namespace Go.Proofs
open Go.Sh
set_option linter.unusedVariables false
theorem kfind_ge {q : KKey} {k : SV} : ∀ (es : List (SV × SV × Nat)) (n m : Nat) (r : SV × Nat), kfind q k es n = some (some (m, r)) → n ≤ m
  | [], n, m, r, h => by cases h
  | y :: es, n, m, r, h => by
    rw [kfind_cons] at h
    cases hc : eqKK q k y.1 with
    | none => rw [hc] at h; cases h
    | some c =>
      rw [hc] at h
      cases c with
      | true =>
        have h : some (some (n, y.2.1, y.2.2)) = some (some (m, r)) := h
        simp only [Option.some.injEq, Prod.mk.injEq] at h
        omega
      | false => have := kfind_ge es (n + 1) m r h; omega
theorem kfind_at {q : KKey} {k : SV} : ∀ (es : List (SV × SV × Nat)) (i j : Nat) (u : SV) (b : Nat), kfind q k es i = some (some (i + j, u, b)) → ∃ k', es[j]? = some (k', u, b)
  | [], i, j, u, b, h => by cases h
  | x :: es, i, j, u, b, h => by
    rw [kfind_cons] at h
    cases hc : eqKK q k x.1 with
    | none => rw [hc] at h; cases h
    | some c =>
      rw [hc] at h
      cases c with
      | true =>
        have h : some (some (i, x.2.1, x.2.2)) = some (some (i + j, u, b)) := h
        simp only [Option.some.injEq, Prod.mk.injEq] at h
        obtain ⟨h1, h2, h3⟩ := h
        have : j = 0 := by omega
        subst this
        exact ⟨x.1, by rw [← h2, ← h3]; rfl⟩
      | false =>
        have h : kfind q k es (i + 1) = some (some (i + j, u, b)) := h
        have := kfind_ge es _ _ _ h
        obtain ⟨j, rfl⟩ : ∃ m, j = m + 1 := ⟨j - 1, by omega⟩
        rw [show i + (j + 1) = i + 1 + j by omega] at h
        exact kfind_at es (i + 1) j u b h
theorem setBorn_at (v : SV) : ∀ (es : List (SV × SV × Nat)) (j : Nat) (k w : SV) (b : Nat), es[j]? = some (k, w, b) → (∀ i x, i < j → es[i]? = some x → x.2.2 ≠ b) → setBorn b v es = some (es.set j (k, v, b))
  | [], j, k, w, b, h, _ => by simp at h
  | x :: es, 0, k, w, b, h, _ => by
    simp at h; subst h
    show (if (b : Int) = b then _ else _) = _
    rw [if_pos rfl]; rfl
  | x :: es, j + 1, k, w, b, h, hn => by
    have h0 := hn 0 x (by omega) rfl
    show (if (x.2.2 : Int) = b then _ else match setBorn b v es with
      | some r => some ((x.1, x.2.1, x.2.2) :: r)
      | none => none) = _
    rw [if_neg (by omega), setBorn_at v es j k w b (by simpa using h) fun i y hi hy => hn (i + 1) y (by omega) (by simpa using hy)]
    rfl
/-- A map of counters; the births of its entries are told apart. -/
def CntB {κ : Type} (q : KKey) (enc : κ → SV) (h : H) (id : Nat) (f : κ → Int) : Prop :=
  ∃ es clk, h.get id = some (.map es clk) ∧ Ent enc es ∧ (∀ k, kfind q (enc k) es 0 = some none ∧ f k = 0 ∨ ∃ j b, kfind q (enc k) es 0 = some (some (j, .int .i64 (f k), b))) ∧
    (∀ (i j : Nat) x y, i < j → es[i]? = some x → es[j]? = some y → x.2.2 ≠ y.2.2) ∧ (∀ x ∈ es, x.2.2 < clk)
theorem CntB.cnt {κ : Type} {q : KKey} {enc : κ → SV} {h : H} {id : Nat} {f : κ → Int} (c : CntB q enc h id f) : Cnt q enc h id f := by
  obtain ⟨es, clk, h1, h2, h3, _⟩ := c
  exact ⟨es, clk, h1, h2, h3⟩
theorem CntB.keep {κ : Type} {q : KKey} {enc : κ → SV} {h h' : H} {id : Nat} {f : κ → Int} {S W : Nat → Prop} (c : CntB q enc h id f) (k : Fr S W h h') (hn : ¬ S id) : CntB q enc h' id f := by
  obtain ⟨es, clk, h1, h2⟩ := c
  exact ⟨es, clk, k.get h1 hn, h2⟩
open Classical in
theorem CntB.entry {κ : Type} {q : KKey} {enc : κ → SV} (K : Keys q enc) {h : H} {id : Nat} {f : κ → Int} (c : CntB q enc h id f) (k : κ) (n : Int) :
    ∃ (b : Nat) (h1 h2 : H), kmapEntry h q (some (.int .i64 0)) (enc k) (.map id) = some (.tuple [.int .i64 (f k), .int .i64 b], h1) ∧ klookup h1.get q (some (.int .i64 0)) false (.map id) (enc k) = some (.int .i64 (f k)) ∧
      entryStoreS h1 (.map id) (.int .i64 b) (.int .i64 n) = some h2 ∧ CntB q enc h2 id (fun x => if x = k then n else f x) ∧ Fr (· = id) (· = id) h h2 := by
  obtain ⟨es, clk, h1, hE, h2, hb1, hb2⟩ := c
  have hid := H.get_lt h1
  have e0 : kmapEntry h q (some (.int .i64 0)) (enc k) (.map id) = bO (kfind q (enc k) es 0) fun r => (match r with
      | some (i, v, b) => some (SV.tuple [v, .int .i64 b], h.put id (.map (es.set i (enc k, v, b)) clk))
      | none => some (SV.tuple [.int .i64 0, .int .i64 clk], h.put id (.map (es ++ [(enc k, .int .i64 0, clk)]) (Nat.succ clk)))) := by
    show bB (okKK q (enc k)) (match h.get id with
      | some (.map es c) => bO (kfind q (enc k) es 0) fun r => (match r with
        | some (i, v, b) => some (SV.tuple [v, .int .i64 b], h.put id (.map (es.set i (enc k, v, b)) c))
        | none => bO (some (.int .i64 0)) fun z => some (SV.tuple [z, .int .i64 c], h.put id (.map (es ++ [(enc k, z, c)]) (Nat.succ c))))
      | _ => none) none = _
    rw [K.ok, h1]; rfl
  have look : ∀ (g : H) (l : List (SV × SV × Nat)) (c : Nat) (r : Option (Nat × SV × Nat)), g.get id = some (.map l c) → kfind q (enc k) l 0 = some r → klookup g.get q (some (.int .i64 0)) false (.map id) (enc k) = match r with
      | some (_, v, _) => some v
      | none => some (.int .i64 0) := by
    intro g l c r hg hr
    have hm : mapOf g.get (.map id) = some l := by
      show (match g.get id with
        | some (.map es _) => some es
        | _ => none) = _
      rw [hg]
    unfold klookup
    rw [K.ok, hm]
    show bO (kfind q (enc k) l 0) _ = _
    rw [hr]
    cases r <;> rfl
  have twice : ∀ o1 o2 : SObj, Fr (· = id) (· = id) h ((h.put id o1).put id o2) := fun o1 o2 => (Fr.put hid).trans (Fr.put hid)
  have store : ∀ (g : H) (l l' : List (SV × SV × Nat)) (c b : Nat), g.get id = some (.map l c) → setBorn b (.int .i64 n) l = some l' → entryStoreS g (.map id) (.int .i64 b) (.int .i64 n) = some (g.put id (.map l' c)) := by
    intro g l l' c b hg hl
    show (match g.get id with
      | some (.map es c) => (match setBorn b (.int .i64 n) es with
        | some es => some (g.put id (.map es c))
        | none => none)
      | _ => none) = _
    rw [hg]
    simp only [hl]
  rw [e0]
  rcases h2 k with ⟨h3, h4⟩ | ⟨j, b, h3⟩
  · have g1 : (h.put id (.map (es ++ [(enc k, .int .i64 0, clk)]) (Nat.succ clk))).get id = some (.map (es ++ [(enc k, .int .i64 0, clk)]) (Nat.succ clk)) := by rw [H.get_put _ _ _ _ hid, if_pos rfl]
    have A := fun v => kfind_app K k k v clk es 0 hE
    have f1 : ∀ v, kfind q (enc k) (es ++ [(enc k, v, clk)]) 0 = some (some (es.length, v, clk)) := fun v => by
      rw [(A v).2 h3, K.yes]
      show some (some (0 + es.length, v, clk)) = _
      rw [Nat.zero_add]
    have sb : setBorn clk (.int .i64 n) (es ++ [(enc k, .int .i64 0, clk)]) = some (es ++ [(enc k, .int .i64 n, clk)]) := by
      rw [setBorn_at (.int .i64 n) _ es.length (enc k) (.int .i64 0) clk (by simp) fun i x hi hx => ?_]
      · simp
      · rw [List.getElem?_append_left hi] at hx
        have := hb2 x (List.mem_of_getElem? hx)
        omega
    refine ⟨clk, _, _, by rw [h3]; show _ = some (SV.tuple [.int .i64 (f k), .int .i64 clk], _); rw [h4]; rfl, by rw [look _ _ _ _ g1 (f1 _), h4], store _ _ _ _ _ g1 sb, ⟨_, _, by rw [H.get_put _ _ _ _ (H.get_lt g1), if_pos rfl], fun x hx => ?_, fun a => (?_ : kfind q (enc a) _ 0 = some none ∧ (if a = k then n else f a) = 0 ∨ ∃ j b, kfind q (enc a) _ 0 = some (some (j, .int .i64 (if a = k then n else f a), b))), fun i j x y hij hx hy => ?_, fun x hx => ?_⟩, twice _ _⟩
    · rcases List.mem_append.1 hx with hx | hx
      · exact hE x hx
      · simp at hx; subst hx; exact ⟨k, rfl⟩
    · have A := kfind_app K a k (.int .i64 n) clk es 0 hE
      by_cases e : a = k
      · subst e
        right
        rw [if_pos rfl, f1]
        exact ⟨_, _, rfl⟩
      · rw [if_neg e]
        rcases h2 a with ⟨g1, g2⟩ | ⟨j', b', g1⟩
        · left
          rw [A.2 g1, K.no _ _ e]
          exact ⟨rfl, g2⟩
        · right
          exact ⟨j', b', A.1 _ g1⟩
    · by_cases hj : j < es.length
      · rw [List.getElem?_append_left hj] at hy
        rw [List.getElem?_append_left (by omega)] at hx
        exact hb1 i j x y hij hx hy
      · have hjl : j = es.length := by
          have := (List.getElem?_eq_some_iff.1 hy).1
          simp at this; omega
        subst hjl
        simp at hy; subst hy
        rw [List.getElem?_append_left hij] at hx
        have := hb2 x (List.mem_of_getElem? hx)
        show x.2.2 ≠ clk
        omega
    · rcases List.mem_append.1 hx with hx | hx
      · have := hb2 x hx; omega
      · simp at hx; subst hx; show clk < clk + 1; omega
  · obtain ⟨r1, r2, r3, r4⟩ := kfind_set K k (.int .i64 (f k)) b es 0 j (.int .i64 (f k)) hE (by rw [Nat.zero_add]; exact h3)
    obtain ⟨s1, s2, s3, s4⟩ := kfind_set K k (.int .i64 n) b es 0 j (.int .i64 (f k)) hE (by rw [Nat.zero_add]; exact h3)
    obtain ⟨k', hk'⟩ := kfind_at es 0 j (.int .i64 (f k)) b (by rw [Nat.zero_add]; exact h3)
    have g1 : (h.put id (.map (es.set j (enc k, .int .i64 (f k), b)) clk)).get id = some (.map (es.set j (enc k, .int .i64 (f k), b)) clk) := by rw [H.get_put _ _ _ _ hid, if_pos rfl]
    have same : ∀ v (i : Nat) x, (es.set j (enc k, v, b))[i]? = some x → ∃ y, es[i]? = some y ∧ y.2.2 = x.2.2 := by
      intro v i x hx
      rw [List.getElem?_set] at hx
      by_cases e : j = i
      · subst e
        rw [if_pos rfl, if_pos r1] at hx
        simp only [Option.some.injEq] at hx
        exact ⟨_, hk', by rw [← hx]⟩
      · rw [if_neg e] at hx
        exact ⟨x, hx, rfl⟩
    have sb : setBorn b (.int .i64 n) (es.set j (enc k, .int .i64 (f k), b)) = some (es.set j (enc k, .int .i64 n, b)) := by
      rw [setBorn_at (.int .i64 n) _ j (enc k) (.int .i64 (f k)) b (by simp [r1]) fun i x hi hx => ?_]
      · simp
      · obtain ⟨y, hy, e⟩ := same _ i x hx
        rw [← e]
        exact hb1 i j y _ hi hy hk'
    refine ⟨b, _, _, by rw [h3]; rfl, by rw [look _ _ _ _ g1 r3], store _ _ _ _ _ g1 sb, ⟨_, _, by rw [H.get_put _ _ _ _ (H.get_lt g1), if_pos rfl], s2, fun a => (?_ : kfind q (enc a) _ 0 = some none ∧ (if a = k then n else f a) = 0 ∨ ∃ j b, kfind q (enc a) _ 0 = some (some (j, .int .i64 (if a = k then n else f a), b))), fun i i' x y hij hx hy => ?_, fun x hx => ?_⟩, twice _ _⟩
    · by_cases e : a = k
      · subst e
        right
        rw [if_pos rfl]
        exact ⟨_, _, s3⟩
      · rw [if_neg e, s4 a e]
        exact h2 a
    · obtain ⟨x', hx', ex⟩ := same _ i x hx
      obtain ⟨y', hy', ey⟩ := same _ i' y hy
      rw [← ex, ← ey]
      exact hb1 i i' x' y' hij hx' hy'
    · obtain ⟨i, hi⟩ := List.getElem?_of_mem hx
      obtain ⟨y, hy, e⟩ := same _ i x hi
      rw [← e]
      exact hb2 y (List.mem_of_getElem? hy)
theorem CntB.none {κ : Type} {q : KKey} {enc : κ → SV} {h : H} {id : Nat} (e : h.get id = some (.map [] 0)) : CntB q enc h id (fun _ => 0) :=
  ⟨[], 0, e, fun x hx => by simp at hx, fun k => .inl ⟨rfl, rfl⟩, fun i j x y _ hx => by simp at hx, fun x hx => by simp at hx⟩
end Go.Proofs
end
section
/- ChaWithin: within, at edges. -/
namespace Go.Proofs
open Go.Sh
set_option linter.unusedVariables false
attribute [local instance] powHeld
noncomputable section
theorem ke : (∀ q m k h t z, tMapEntry q z m k h t = bO (m t) fun m => bO (k t) fun k => kmapEntry h q z k m) ∧ (∀ m s v h t, tEntryStore m s v h t = bO (m t) fun m => bO (s t) fun s => bO (v t) fun v => bO (entryStoreS h m s v) fun h => some (.tuple [], h)) ∧
    (∀ q r c m t h k, oSee q r c m t h k = r (q t h) c m t h k) ∧ (∀ l r c m t h k, oLate l r c m t h k = bB (allH h l) (r c m t h k) none) ∧ (∀ h, allH h [] = true) ∧ (∀ h f l, allH h (f :: l) = (f h && allH h l)) := ⟨fun _ _ _ _ _ _ => rfl, fun _ _ _ _ _ => rfl, fun _ _ _ _ _ _ _ => rfl, fun _ _ _ _ _ _ _ => rfl, fun _ => rfl, fun _ _ _ => rfl⟩
theorem ks {f : LF} {t : T} {h h' : H} {u : SV} (h1 : f h.get t = some u) (h2 : f h'.get t = some u) (hf : eqSV u u = true) : seeL f t h h' = true := by
  unfold seeL; rw [h1, h2]; exact hf
theorem edge_row {h : H} {b : Nat} {e : Edg} (hb : rowCells h.get b = some e.cells) : loadV (some 3) h.get (.ptr b 0) = some (.agg e.cells) := by
  show bO (rowCells h.get b) (fun cs => kpart (some 3) cs 0) = _
  rw [hb]; rfl
theorem Tryz.met36 {h : H} {b id : Nat} {f : Edg → Int} (hb : rowCells h.get b = some [.map id]) (c : CntB (.many [.str, .int, .str]) (fun e : Edg => SV.agg e.cells) h id f) (s : Edg) :
    ∃ h', Tryz.l2 36 [.agg s.cells, .ptr b 0] h = some (.bool (eqI (f s) 0), h') ∧ Calms h h' := by
  have main : ∃ v' h', Tryz.l2 36 [.agg s.cells, .ptr b 0] h = some (v', h') ∧ (v' = .bool (eqI (f s) 0) ∧ Calms h h') := by
    generalize hh1 : h.push (.cells s.cells .fixed) = h1
    have f1 := calm_push hh1
    have r1 := rowCells_fixed (get_pushed hh1)
    have ld1 := edge_row r1
    have ld := loadB (keepRow f1 hb)
    have lk := ((c.keep f1 fun k => k).cnt).look edgKeys s
    have kl2 := kl
    have c1 : (SV.agg s.cells).cells? = some s.cells := rfl
    refine Go.Sh.enG Tryz.kTab_ok (X := Tryz.X2) (kf := Tryz.k36) rfl (by kernel_rfl) 2 Tryz.k36_eq rfl ?_
    generalize s.cells = sc at *
    simp [↓ kq, kq, ↓ ko, ko, ↓ kt, ↓ kz, kb, kv, kt, kx, c1, hh1, ld1, ld, lk, kl2, gets_some, kc, oneS, -bO_of, -bB_true, -bB_false, -H.next_push, -Int.natCast_add]
    exact f1
  obtain ⟨_, h', k1, rfl, k2⟩ := main
  exact ⟨h', k1, k2⟩
open Classical in
theorem Tryz.count14_loop {h0 : H} {v : SV} {l : List Edg} {b id : Nat} (w0 : View h0 3 v l.length (edgs l)) (hm : l.length < 60000) (hv : ∀ q, isRow v q → q ≠ id) (hb0 : rowCells h0.get b = some [.map id]) (hbi : b ≠ id) (hid0 : id < h0.next) : ∀ (j i k : Nat) (h : H) (t : T) (f : Edg → Int), i + j = l.length → j < k → Fr (· = id) (· = id) h0 h → CntB (.many [.str, .int, .str]) (fun e : Edg => SV.agg e.cells) h id f → (∀ s, (0 < f s ↔ s ∈ l.take i) ∧ 0 ≤ f s ∧ f s ≤ i) →
    getP (way 5) t = some (.ptr b 0) → getP (way 9) t = some v → getP (way 10) t = some (.int .i64 l.length) → getP (way 11) t = some (.int .i64 i) →
    Gets (cLoop Tryz.l14_0 k Tryz.l2 t h) fun fl t' h' => fl = .exit 0 ∧ getP (way 0) t' = getP (way 0) t ∧ getP (way 5) t' = some (.ptr b 0) ∧ Fr (· = id) (· = id) h0 h' ∧ ∃ f, CntB (.many [.str, .int, .str]) (fun e : Edg => SV.agg e.cells) h' id f ∧ ∀ s, (0 < f s ↔ s ∈ l) ∧ 0 ≤ f s := by
  intro j
  induction j with
  | zero =>
    intro i k h t f hi hk fr c hf t5 t9 t10 t11
    obtain ⟨k, rfl⟩ : ∃ m, k = m + 1 := ⟨k - 1, by omega⟩
    rw [loop_succ]
    generalize (fun t h => cLoop Tryz.l14_0 k Tryz.l2 t h) = L
    unfold Tryz.l14_0
    have e1 : ltI (i : Int) (l.length : Int) = false := ltIf (by omega)
    rw [List.take_of_length_le (by omega)] at hf
    generalize l.length = n at *
    simp [↓ kq, kq, ↓ ko, ko, ↓ kt, ↓ kz, kb, kv, kt, kx, t5, t9, t10, t11, e1, gets_some, -bO_of, -bB_true, -bB_false, -H.next_push, -Int.natCast_add]
    exact ⟨fr, f, c, fun s => ⟨(hf s).1, (hf s).2.1⟩⟩
  | succ j ih =>
    intro i k h t f hi hk fr c hf t5 t9 t10 t11
    obtain ⟨k, rfl⟩ : ∃ m, k = m + 1 := ⟨k - 1, by omega⟩
    rw [loop_succ]
    generalize hL : (fun t h => cLoop Tryz.l14_0 k Tryz.l2 t h) = L
    have e1 : ltI (i : Int) (l.length : Int) = true := ltIt (by omega)
    have e3 : IntKind.i64.wrap ((i : Int) + 1) = ((i + 1 : Nat) : Int) := by rw [wrapI64 (by omega) (by omega)]; omega
    obtain ⟨y, hy⟩ : ∃ y, l[i]? = some y := ⟨l[i], List.getElem?_eq_getElem (by omega)⟩
    obtain ⟨p, c1, c2⟩ := edge_load (w0.keep fr hv) hy
    have hidh : id < h.next := Nat.lt_of_lt_of_le hid0 fr.next
    generalize hh1 : h.push (.cells [.str [], .int .i64 0, .str []] .fixed) = h1
    have f1 := calm_push hh1
    have g1 := get_pushed hh1
    have st := storeV_all (vs := y.cells) g1 (n := 3) rfl rfl
    have n1 : h.next < h1.next := H.get_lt g1
    generalize hh2 : h1.put h.next (.cells y.cells .fixed) = h2 at st
    have f2 : Fr (· = h.next) (· = h.next) h1 h2 := by rw [← hh2]; exact Fr.put n1
    have c02 : Calms h h2 := Fr.new f1 f2 (fun q hq => by subst hq; exact Nat.le_refl _) (fun q hq => by subst hq; exact Nat.le_refl _)
    have r2 : rowCells h2.get h.next = some y.cells := rowCells_fixed (by rw [← hh2, H.get_put _ _ _ _ n1, if_pos rfl])
    have ld2 := edge_row r2
    have ld := loadB ((rowCells_keep (fr.trans (c02.mono (S' := (· = id)) (W' := (· = id)) (fun _ _ k => k.elim) (fun _ k => k.elim))) (rowCells_lt hb0) hbi).trans hb0)
    have cc := c.keep c02 fun k => k
    have lk := cc.cnt.look edgKeys y
    obtain ⟨_, g1', g2⟩ := hf y
    have e4 : IntKind.i64.wrap (f y + 1) = f y + 1 := wrapI64 (by omega) (by omega)
    obtain ⟨bn, h3, h4, k3, lk3, k4, c4, f4⟩ := cc.entry edgKeys y (f y + 1)
    have kl2 := kl
    have ke2 := ke
    have hs : ∀ t, seeL (lLookup (.many [.str, .int, .str]) (some (.int .i64 0)) false (xC (.map id)) (xC (.agg y.cells))) t h2 h3 = true := fun t => ks (u := .int .i64 (f y)) lk lk3 (eqS1_int _ _)
    have z1 : ∀ (t : T), vExtract 1 (xC (.tuple [.int .i64 (f y), .int .i64 bn])) t = some (.int .i64 bn) := fun _ => rfl
    have frn : Fr (· = id) (· = id) h0 h4 := (fr.trans (c02.mono (S' := (· = id)) (W' := (· = id)) (fun _ _ k => k.elim) (fun _ k => k.elim))).trans f4
    unfold Tryz.l14_0
    generalize hn : l.length = n at *
    generalize hyc : y.cells = yc at *
    simp [↓ kq, kq, ↓ ko, ko, ↓ kt, ↓ kz, kb, kv, kt, kx, t5, t9, t10, t11, e1, e3, e4, c1, c2, hh1, st, ld2, ld, lk, k3, k4, hs, z1, kl2, ke2, -bO_of, -bB_true, -bB_false, -H.next_push, -Int.natCast_add]
    rw [← hL]
    refine Gets.mono (ih (i + 1) k h4 _ _ (by omega) (by omega) frn c4 (fun s => ?_) (by simp [kq, kb, t5]) (by simp [kq, kb, t9]) (by simp [kq, kb, t10]) (by simp [kq, kb])) fun fl t' h' ⟨b1, b2, b3⟩ => ⟨b1, b2.trans (by simp [kq, kb]), b3⟩
    obtain ⟨q1, q2, q3⟩ := hf s
    rw [List.take_add_one, hy]
    simp only [Option.toList_some, List.mem_append, List.mem_singleton]
    by_cases e : s = y
    · subst e
      rw [if_pos rfl]
      exact ⟨⟨fun _ => .inr rfl, fun _ => by omega⟩, by omega, by omega⟩
    · rw [if_neg e]
      refine ⟨⟨fun h => .inl (q1.1 h), fun h => ?_⟩, q2, by omega⟩
      rcases h with h | h
      · exact q1.2 h
      · exact absurd h e
theorem Tryz.within14 {h : H} {v u : SV} {a l : List Edg} (wa : View h 3 v a.length (edgs a)) (wl : View h 3 u l.length (edgs l)) (ha : a.length < 60000) (hl : l.length < 60000) :
    ∃ r h', Tryz.l2 14 [v, u] h = some (.bool r, h') ∧ Calms h h' ∧ (r = true ↔ ∀ x ∈ a, x ∈ l) := by
  have main : ∃ v' h', Tryz.l2 14 [v, u] h = some (v', h') ∧ ∃ r, v' = .bool r ∧ Calms h h' ∧ (r = true ↔ ∀ x ∈ a, x ∈ l) := by
    generalize hh1 : h.push (.map [] 0) = h1
    have f1 := calm_push hh1
    generalize hh2 : h1.push (.cells [.nilmap] .fixed) = h2
    have f2 := calm_push hh2
    have g2 := get_pushed hh2
    have n1 : h.next < h1.next := by rw [← hh1, H.next_push]; omega
    have n2 : h1.next < h2.next := by rw [← hh2, H.next_push]; omega
    have m2 : h2.get h.next = some (.map [] 0) := (f2.get _ n1).trans (get_pushed hh1)
    have st := storeV_one (v := .map h.next) g2 (show 0 < 1 by omega) rfl
    generalize hh3 : h2.put h1.next (.cells ([SV.nilmap].set 0 (.map h.next)) .fixed) = h3 at st
    have f3 : Fr (· = h1.next) (· = h1.next) h2 h3 := by rw [← hh3]; exact Fr.put n2
    have hb3 : rowCells h3.get h1.next = some [.map h.next] := rowCells_fixed (by rw [← hh3, H.get_put _ _ _ _ n2, if_pos rfl]; rfl)
    have m3 : h3.get h.next = some (.map [] 0) := f3.get m2 (by omega)
    have c03 : Calms h h3 := Fr.new (f1.trans f2) f3 (fun q hq => by subst hq; omega) (fun q hq => by subst hq; omega)
    have lu := wl.length
    have kn2 := kn
    have wl3 := wl.keep c03 fun _ _ k => k
    refine Go.Sh.enG Tryz.kTab_ok (X := Tryz.X2) (kf := Tryz.k14) rfl (by kernel_rfl) (l.length + 2) Tryz.k14_eq rfl ?_
    simp [↓ kq, kq, ↓ ko, ko, ↓ kt, ↓ kz, kb, kv, kt, kx, kn2, hh1, hh2, st, lu, gets_some, -bO_of, -bB_true, -bB_false, -H.next_push, -Int.natCast_add]
    refine gets_next (gets_leave (Gets.mono (Tryz.count14_loop wl3 hl (fun q hq k => by have := wl.lt q hq; omega) hb3 (by omega) (H.get_lt m3) l.length 0 (l.length + 2) h3 _ (fun _ => 0) (by omega) (by omega) .refl (.none m3) (fun s => by simp) (by simp [kq, kb]) (by simp [kq, kb]) (by simp [kq, kb]) (by simp [kq, kb])) fun fl t' h4 ⟨b1, b2, b3, f4, f, c, hf⟩ => ?_))
    subst b1
    have t0 : getP (way 0) t' = some v := b2.trans (by simp [kq, kb])
    have c04 : Calms h h4 := Fr.new c03 f4 (fun q hq => by subst hq; omega) (fun q hq => by subst hq; omega)
    have hb4 : rowCells h4.get h1.next = some [.map h.next] := (rowCells_keep f4 (rowCells_lt hb3) (by omega)).trans hb3
    obtain ⟨h5, k5, f5⟩ := Tryz.contains92 (h := h4) (g := 36) (cap := [.ptr h1.next 0]) (P := fun s => eqI (f s) 0) (wa.keep c04 fun _ _ k => k) (by omega) (fun x h' fr => Tryz.met36 (keepRow fr hb4) (c.keep fr fun k => k) x)
    simp only [if_true]
    have hvf : vFunc 36 [xW 5] t' = some (.func 36 [.ptr h1.next 0]) := by
      show bO (bO (xW 5 t') fun v => bO (xL [] t') fun vs => some (v :: vs)) (fun vs => some (SV.func 36 vs)) = _
      rw [show xW 5 t' = getP (way 5) t' from rfl, b3]; rfl
    have hun : ∀ b, unS UnOp.not (.bool b) = some (.bool (!b)) := fun _ => rfl
    have hc := c04.trans f5
    have hr : (!(a.any fun s => eqI (f s) 0)) = true ↔ ∀ x ∈ a, x ∈ l := by
      rw [Bool.not_eq_true', List.any_eq_false]
      constructor
      · intro q x hx
        have := q x hx
        rw [eqI_eq] at this
        have h0 : f x ≠ 0 := fun e => this (by simp [e])
        exact (hf x).1.1 (by have := (hf x).2; omega)
      · intro q x hx
        have := (hf x).1.2 (q x hx)
        rw [eqI_eq]
        simp; omega
    generalize (a.any fun s => eqI (f s) 0) = r at *
    cases r with
    | true =>
      simp [↓ kq, kq, ↓ ko, ko, ↓ kt, ↓ kz, kb, kv, kt, kx, t0, b3, hvf, hun, k5, gets_some, kc, oneS, -bO_of, -bB_true, -bB_false, -H.next_push, -Int.natCast_add]
      refine ⟨hc, Classical.byContradiction fun hn => ?_⟩
      have := hr.2 fun x hx => Classical.byContradiction fun hx2 => hn ⟨x, hx, hx2⟩
      cases this
    | false =>
      simp [↓ kq, kq, ↓ ko, ko, ↓ kt, ↓ kz, kb, kv, kt, kx, t0, b3, hvf, hun, k5, gets_some, kc, oneS, -bO_of, -bB_true, -bB_false, -H.next_push, -Int.natCast_add]
      exact ⟨hc, hr.1 rfl⟩
  obtain ⟨_, h', k1, r, rfl, k2⟩ := main
  exact ⟨r, h', k1, k2⟩
end
end Go.Proofs
end
section
/- ChaWithin: cha.Within, cha.Same. -/
namespace Go.Proofs
open Go.Sh
set_option linter.unusedVariables false
attribute [local instance] powHeld
noncomputable section
theorem load_two {g : Nat → Option SObj} {id : Nat} {a b : SV} (h : rowCells g id = some [a, b]) : loadV (some 2) g (.ptr id 0) = some (.agg [a, b]) := by
  show bO (rowCells g id) (fun cs => kpart (some 2) cs 0) = _
  rw [h]; rfl
/-- the one graph stands in the other -/
def InG (E : List Edg) (R : List (List UInt8)) (F : List Edg) (Q : List (List UInt8)) : Prop := (∀ x, x ∈ E → x ∈ F) ∧ (∀ x, x ∈ R → x ∈ Q)
theorem Tryz.chaWithin {h : H} {c d : List SV} {E F : List Edg} {R Q : List (List UInt8)} (A : Gra h c E R) (B : Gra h d F Q) (hE : E.length < 60000) (hF : F.length < 60000) (hR : R.length < 60000) (hQ : Q.length < 60000) :
    ∃ b h', Tryz.l2 9 [.agg c, .agg d] h = some (.bool b, h') ∧ Calms h h' ∧ (b = true ↔ InG E R F Q) := by
  have main : ∃ v' h', Tryz.l2 9 [.agg c, .agg d] h = some (v', h') ∧ ∃ b, v' = .bool b ∧ Calms h h' ∧ (b = true ↔ InG E R F Q) := by
    generalize hh1 : h.push (.cells c .fixed) = h1
    have f1 := calm_push hh1
    generalize hh2 : h1.push (.cells d .fixed) = h2
    have f2 := calm_push hh2
    have c02 := f1.trans f2
    have R1 := keepRow f2 (rowCells_fixed (get_pushed hh1))
    have R2 := rowCells_fixed (get_pushed hh2)
    obtain ⟨e, r, rfl, we, wr⟩ := (A.keep c02).two
    obtain ⟨e', r', rfl, we', wr'⟩ := (B.keep c02).two
    have B1 := loadB R1
    have B2 := loadB R2
    have z1 : (SV.agg [e, r]).cells? = some [e, r] := rfl
    have z2 : (SV.agg [e', r']).cells? = some [e', r'] := rfl
    obtain ⟨b1, h3, k3, f3, hb1⟩ := Tryz.within14 we we' hE hF
    obtain ⟨b2, h4, k4, f4, hb2⟩ := Tryz.within33 (wr.keep f3 fun _ _ k => k) (wr'.keep f3 fun _ _ k => k) hR hQ
    have B3 := loadB (keepRow f3 R1)
    have B4 := loadB (keepRow f3 R2)
    refine Go.Sh.enG Tryz.kTab_ok (X := Tryz.X2) (kf := Tryz.k9) rfl (by kernel_rfl) 2 Tryz.k9_eq rfl ?_
    cases b1 with
    | false =>
      simp [↓ kq, kq, ↓ ko, ko, ↓ kt, ↓ kz, kb, kv, kt, kx, z1, z2, hh1, hh2, B1, B2, B3, B4, k3, gets_some, kc, oneS, -bO_of, -bB_true, -bB_false, -H.next_push, -Int.natCast_add]
      exact ⟨c02.trans f3, fun h => by cases hb1.2 h.1⟩
    | true =>
      cases b2 with
      | false =>
        simp [↓ kq, kq, ↓ ko, ko, ↓ kt, ↓ kz, kb, kv, kt, kx, z1, z2, hh1, hh2, B1, B2, B3, B4, k3, k4, gets_some, kc, oneS, -bO_of, -bB_true, -bB_false, -H.next_push, -Int.natCast_add]
        exact ⟨c02.trans (f3.trans f4), fun h => by cases hb2.2 h.2⟩
      | true =>
        simp [↓ kq, kq, ↓ ko, ko, ↓ kt, ↓ kz, kb, kv, kt, kx, z1, z2, hh1, hh2, B1, B2, B3, B4, k3, k4, gets_some, kc, oneS, -bO_of, -bB_true, -bB_false, -H.next_push, -Int.natCast_add]
        exact ⟨c02.trans (f3.trans f4), hb1.1 rfl, hb2.1 rfl⟩
  obtain ⟨_, h', k1, b, rfl, k2, k3⟩ := main
  exact ⟨b, h', k1, k2, k3⟩
theorem Tryz.chaSame {h : H} {c d : List SV} {E F : List Edg} {R Q : List (List UInt8)} (A : Gra h c E R) (B : Gra h d F Q) (hE : E.length < 60000) (hF : F.length < 60000) (hR : R.length < 60000) (hQ : Q.length < 60000) :
    ∃ b h', Tryz.l2 10 [.agg c, .agg d] h = some (.bool b, h') ∧ Calms h h' ∧ (b = true ↔ InG E R F Q ∧ InG F Q E R) := by
  have main : ∃ v' h', Tryz.l2 10 [.agg c, .agg d] h = some (v', h') ∧ ∃ b, v' = .bool b ∧ Calms h h' ∧ (b = true ↔ InG E R F Q ∧ InG F Q E R) := by
    generalize hh1 : h.push (.cells c .fixed) = h1
    have f1 := calm_push hh1
    generalize hh2 : h1.push (.cells d .fixed) = h2
    have f2 := calm_push hh2
    have c02 := f1.trans f2
    have R1 := keepRow f2 (rowCells_fixed (get_pushed hh1))
    have R2 := rowCells_fixed (get_pushed hh2)
    have A2 := A.keep c02
    have B2 := B.keep c02
    obtain ⟨e, r, rfl, _, _⟩ := A2.two
    obtain ⟨e', r', rfl, _, _⟩ := B2.two
    have z1 : (SV.agg [e, r]).cells? = some [e, r] := rfl
    have z2 : (SV.agg [e', r']).cells? = some [e', r'] := rfl
    obtain ⟨b1, h3, k3, f3, hb1⟩ := Tryz.chaWithin A2 B2 hE hF hR hQ
    obtain ⟨b2, h4, k4, f4, hb2⟩ := Tryz.chaWithin (B2.keep f3) (A2.keep f3) hF hE hQ hR
    have L1 := load_two R1
    have L2 := load_two R2
    have L3 := load_two (keepRow f3 R1)
    have L4 := load_two (keepRow f3 R2)
    refine Go.Sh.enG Tryz.kTab_ok (X := Tryz.X2) (kf := Tryz.k10) rfl (by kernel_rfl) 2 Tryz.k10_eq rfl ?_
    cases b1 with
    | false =>
      simp [↓ kq, kq, ↓ ko, ko, ↓ kt, ↓ kz, kb, kv, kt, kx, z1, z2, hh1, hh2, L1, L2, L3, L4, k3, gets_some, kc, oneS, -bO_of, -bB_true, -bB_false, -H.next_push, -Int.natCast_add]
      exact ⟨c02.trans f3, fun h _ => by cases hb1.2 h⟩
    | true =>
      cases b2 with
      | false =>
        simp [↓ kq, kq, ↓ ko, ko, ↓ kt, ↓ kz, kb, kv, kt, kx, z1, z2, hh1, hh2, L1, L2, L3, L4, k3, k4, gets_some, kc, oneS, -bO_of, -bB_true, -bB_false, -H.next_push, -Int.natCast_add]
        exact ⟨c02.trans (f3.trans f4), fun _ h => by cases hb2.2 h⟩
      | true =>
        simp [↓ kq, kq, ↓ ko, ko, ↓ kt, ↓ kz, kb, kv, kt, kx, z1, z2, hh1, hh2, L1, L2, L3, L4, k3, k4, gets_some, kc, oneS, -bO_of, -bB_true, -bB_false, -H.next_push, -Int.natCast_add]
        exact ⟨c02.trans (f3.trans f4), hb1.1 rfl, hb2.1 rfl⟩
  obtain ⟨_, h', k1, b, rfl, k2, k3⟩ := main
  exact ⟨b, h', k1, k2, k3⟩
end
end Go.Proofs
end
section
/- ChaWithin answers true: the law, of two graphs as they were given. -/
namespace Go.Proofs
open Go.Sh
set_option linter.unusedVariables false
attribute [local instance] powHeld
noncomputable section
theorem kcat_two {a b : SV} (ha : flatV a = true) (hb : flatV b = true) : kcat [1, 1] [a, b] = some [a, b] := kcat_one (cells_flat ha) (kcat_one (cells_flat hb) rfl)
set_option maxHeartbeats 4000000 in
theorem Tryz.law3 {h : H} {c d : List SV} {E F : List Edg} {R Q : List (List UInt8)} (A : Gra h c E R) (B : Gra h d F Q) :
    ∃ v h', Tryz.l2 3 [.agg c, .agg d] h = some (v, h') ∧ v = .bool true := by
  generalize hh1 : h.push (.cells c .fixed) = h1
  have f1 := calm_push hh1
  generalize hh2 : h1.push (.cells d .fixed) = h2
  have f2 := calm_push hh2
  have c02 := f1.trans f2
  have R1 := keepRow f2 (rowCells_fixed (get_pushed hh1))
  have R2 := rowCells_fixed (get_pushed hh2)
  have A2 := A.keep c02
  have B2 := B.keep c02
  obtain ⟨e, r, rfl, we, wr⟩ := A2.two
  obtain ⟨e', r', rfl, we', wr'⟩ := B2.two
  have z1 : (SV.agg [e, r]).cells? = some [e, r] := rfl
  have z2 : (SV.agg [e', r']).cells? = some [e', r'] := rfl
  have Ch2 : Calms h2 h2 := .refl
  obtain ⟨n1, h3, k3, f3, p1, q1, s1⟩ := Tryz.edges8 we
  have Ch3 := Ch2.trans f3
  obtain ⟨n2, h4, k4, f4, p2, q2, s2⟩ := Tryz.edges8 (we'.keep Ch3 fun _ _ k => k)
  have Ch4 := Ch3.trans f4
  obtain ⟨n3, h5, k5, f5, p3, q3, s3⟩ := Tryz.total9 (wr.keep Ch4 fun _ _ k => k)
  have Ch5 := Ch4.trans f5
  obtain ⟨n4, h6, k6, f6, p4, q4, s4⟩ := Tryz.total9 (wr'.keep Ch5 fun _ _ k => k)
  have Ch6 := Ch5.trans f6
  generalize hh7 : h6.push (.cells [.int .i64 n2, .int .i64 n3, .int .i64 n4] .fixed) = h7
  have f7 := calm_push hh7
  have Ch7 := Ch6.trans f7
  obtain ⟨n, k7, p5, q5, s5⟩ := Tryz.sum7 (zs := [n2, n3, n4]) (h := h7) (view_row (n := 3) (es := 1) (rowCells_fixed (get_pushed hh7)) rfl) (by simp) (fun z hz => by simp at hz; omega) p1 q1
  have mah2 : ∀ y n o, loadV none (mixTo h2 y n) (.ptr h.next o) = [e, r][o]? := fun y n => loadB ((rowCells_mix (rowCells_lt (keepRow Ch2 R1))).trans (keepRow Ch2 R1))
  have mbh2 : ∀ y n o, loadV none (mixTo h2 y n) (.ptr h1.next o) = [e', r'][o]? := fun y n => loadB ((rowCells_mix (rowCells_lt (keepRow Ch2 R2))).trans (keepRow Ch2 R2))
  have mah3 : ∀ y n o, loadV none (mixTo h3 y n) (.ptr h.next o) = [e, r][o]? := fun y n => loadB ((rowCells_mix (rowCells_lt (keepRow Ch3 R1))).trans (keepRow Ch3 R1))
  have mbh3 : ∀ y n o, loadV none (mixTo h3 y n) (.ptr h1.next o) = [e', r'][o]? := fun y n => loadB ((rowCells_mix (rowCells_lt (keepRow Ch3 R2))).trans (keepRow Ch3 R2))
  have mah4 : ∀ y n o, loadV none (mixTo h4 y n) (.ptr h.next o) = [e, r][o]? := fun y n => loadB ((rowCells_mix (rowCells_lt (keepRow Ch4 R1))).trans (keepRow Ch4 R1))
  have mbh4 : ∀ y n o, loadV none (mixTo h4 y n) (.ptr h1.next o) = [e', r'][o]? := fun y n => loadB ((rowCells_mix (rowCells_lt (keepRow Ch4 R2))).trans (keepRow Ch4 R2))
  have lah2 := loadB (keepRow Ch2 R1)
  have lbh2 := loadB (keepRow Ch2 R2)
  have lah3 := loadB (keepRow Ch3 R1)
  have lbh3 := loadB (keepRow Ch3 R2)
  have lah4 := loadB (keepRow Ch4 R1)
  have lbh4 := loadB (keepRow Ch4 R2)
  have lah5 := loadB (keepRow Ch5 R1)
  have lbh5 := loadB (keepRow Ch5 R2)
  have lah7 := loadB (keepRow Ch7 R1)
  have lbh7 := loadB (keepRow Ch7 R2)
  have ee' := eqSV_one (flat_view we')
  have er := eqSV_one (flat_view wr)
  have er' := eqSV_one (flat_view wr')
  have x3 : kcat [1, 1, 1] [.int .i64 n2, .int .i64 n3, .int .i64 n4] = some [.int .i64 n2, .int .i64 n3, .int .i64 n4] := rfl
  refine Go.Sh.enG Tryz.kTab_ok (X := Tryz.X2) (kf := Tryz.k3) rfl (by kernel_rfl) 2 Tryz.k3_eq rfl ?_
  by_cases hn : 3000 < n
  · have e1 : ltI 3000 n = true := ltIt hn
    have aw := Tryz.awake2
    simp [↓ kq, kq, ↓ ko, ko, ↓ kt, ↓ kz, kb, kv, kt, kx, z1, z2, hh1, hh2, k3, k4, k5, k6, x3, hh7, k7, ee', er, er', e1, aw, gets_some, kc, oneS, mah2, mbh2, mah3, mbh3, mah4, mbh4, lah2, lbh2, lah3, lbh3, lah4, lbh4, lah5, lbh5, lah7, lbh7, -bO_of, -bB_true, -bB_false, -H.next_push, -Int.natCast_add]
  · have e1 : ltI 3000 n = false := ltIf hn
    have hs : n = n1 + (n2 + (n3 + n4)) := by
      rcases s5 with h | h
      · simpa using h
      · omega
    have lE : E.length < 20000 := by have := totE_ge E; have := s1 (by omega); omega
    have lF : F.length < 20000 := by have := totE_ge F; have := s2 (by omega); omega
    have lR : R.length < 20000 := by have := tot_ge R; have := s3 (by omega); omega
    have lQ : Q.length < 20000 := by have := tot_ge Q; have := s4 (by omega); omega
    generalize hh8 : h7.push (.cells [.nilslice, .nilslice] .fixed) = h8
    have f8 := calm_push hh8
    have g8 := get_pushed hh8
    generalize hh9 : h8.push (.cells [.nilslice, .nilslice] .fixed) = h9
    have f9 := calm_push hh9
    have g9 := get_pushed hh9
    have n8 : h7.next < h8.next := H.get_lt g8
    have n9 : h8.next < h9.next := H.get_lt g9
    have g89 : h9.get h7.next = some (.cells [.nilslice, .nilslice] .fixed) := (f9.get _ n8).trans g8
    have st1 := storeV_all (vs := [e, r]) g89 (n := 2) rfl rfl
    generalize hh10 : h9.put h7.next (.cells [e, r] .fixed) = h10 at st1
    have f10 : Fr (· = h7.next) (· = h7.next) h9 h10 := by rw [← hh10]; exact Fr.put (H.get_lt g89)
    have C10 : Calms h7 h10 := Fr.new (f8.trans f9) f10 (fun q hq => by subst hq; exact Nat.le_refl _) (fun q hq => by subst hq; exact Nat.le_refl _)
    have x10 : h10.get h7.next = some (.cells [e, r] .fixed) := by rw [← hh10, H.get_put _ _ _ _ (H.get_lt g89), if_pos rfl]
    have g910 : h10.get h8.next = some (.cells [.nilslice, .nilslice] .fixed) := f10.get g9 (by omega)
    have st2 := storeV_all (vs := [e', r']) g910 (n := 2) rfl rfl
    generalize hh11 : h10.put h8.next (.cells [e', r'] .fixed) = h11 at st2
    have f11 : Fr (· = h8.next) (· = h8.next) h10 h11 := by rw [← hh11]; exact Fr.put (H.get_lt g910)
    have C11 : Calms h7 h11 := Fr.new C10 f11 (fun q hq => by subst hq; omega) (fun q hq => by subst hq; omega)
    have Rx11 : rowCells h11.get h7.next = some [e, r] := rowCells_fixed (f11.get x10 (by omega))
    have Ry11 : rowCells h11.get h8.next = some [e', r'] := rowCells_fixed (by rw [← hh11, H.get_put _ _ _ _ (H.get_lt g910), if_pos rfl])
    have T11 := Ch7.trans C11
    have Ra11 := keepRow T11 R1
    have Rb11 := keepRow T11 R2
    have lb10 := loadB (keepRow (Ch7.trans C10) R2)
    have ks1 : ∀ t, seeL (lLoad none (xC (.ptr h1.next 0))) t h7 h10 = true := fun t => ks (u := e') (lbh7 0) (lb10 0) ee'
    have ks2 : ∀ t, seeL (lLoad none (xC (.ptr h1.next 1))) t h7 h10 = true := fun t => ks (u := r') (lbh7 1) (lb10 1) er'
    have kc1 := kcat_two (flat_view we) (flat_view wr)
    have kc2 := kcat_two (flat_view we') (flat_view wr')
    have A11 := A2.keep T11
    have B11 := B2.keep T11
    have ke2 := ke
    have kq1 : ∀ g a b, keq g .bool (.bool a) (.bool b) = some (a == b) := fun _ _ _ => rfl
    obtain ⟨w, h12, k12, f12, hw⟩ := Tryz.withinGraph11 A11 B11 lE lF lR lQ
    obtain ⟨b1, h13, k13, f13, hb1⟩ := Tryz.chaWithin (A11.keep f12) (B11.keep f12) (by omega) (by omega) (by omega) (by omega)
    have C13 := f12.trans f13
    obtain ⟨b2, h14, k14, f14, hb2⟩ := Tryz.chaSame (A11.keep C13) (B11.keep C13) (by omega) (by omega) (by omega) (by omega)
    have C14 := C13.trans f14
    obtain rfl : b1 = w := by
      cases b1 <;> cases w <;> first | rfl | exact absurd (hw.2 (hb1.1 rfl)) (by decide) | exact absurd (hb1.2 (hw.1 rfl)) (by decide)
    have wah11 := load_two (keepRow .refl Ra11)
    have wbh11 := load_two (keepRow .refl Rb11)
    have wxh11 := load_two (keepRow .refl Rx11)
    have wyh11 := load_two (keepRow .refl Ry11)
    have wah12 := load_two (keepRow f12 Ra11)
    have wbh12 := load_two (keepRow f12 Rb11)
    have wxh12 := load_two (keepRow f12 Rx11)
    have wyh12 := load_two (keepRow f12 Ry11)
    have wah13 := load_two (keepRow C13 Ra11)
    have wbh13 := load_two (keepRow C13 Rb11)
    have wxh13 := load_two (keepRow C13 Rx11)
    have wyh13 := load_two (keepRow C13 Ry11)
    have wah14 := load_two (keepRow C14 Ra11)
    have wbh14 := load_two (keepRow C14 Rb11)
    have wxh14 := load_two (keepRow C14 Rx11)
    have wyh14 := load_two (keepRow C14 Ry11)
    have aw := Tryz.awake2
    cases b1 with
    | false =>
      obtain rfl : b2 = false := by
        cases b2
        · rfl
        · exact absurd (hb1.2 (hb2.1 rfl).1) (by decide)
      obtain ⟨b3, h15, k15, f15, hb3⟩ := Tryz.chaWithin (A11.keep C14) (A11.keep C14) (by omega) (by omega) (by omega) (by omega)
      obtain rfl := hb3.2 ⟨fun _ h => h, fun _ h => h⟩
      simp [↓ kq, kq, ↓ ko, ko, ↓ kt, ↓ kz, kb, kv, kt, kx, z1, z2, hh1, hh2, k3, k4, k5, k6, x3, hh7, k7, ee', er, er', e1, kc1, kc2, hh8, hh9, st1, st2, ks1, ks2, ke2, kq1, k12, k13, k14, k15, aw, gets_some, kc, oneS, mah2, mbh2, mah3, mbh3, mah4, mbh4, lah2, lbh2, lah3, lbh3, lah4, lbh4, lah5, lbh5, lah7, lbh7, wah11, wbh11, wxh11, wyh11, wah12, wbh12, wxh12, wyh12, wah13, wbh13, wxh13, wyh13, wah14, wbh14, wxh14, wyh14, -bO_of, -bB_true, -bB_false, -H.next_push, -Int.natCast_add]
    | true =>
      obtain ⟨w2, h15, k15, f15, hw2⟩ := Tryz.withinGraph11 (B11.keep C14) (A11.keep C14) lF lE lQ lR
      have C15 := C14.trans f15
      obtain rfl : b2 = w2 := by
        cases b2 <;> cases w2 <;> first | rfl | exact absurd (hw2.2 (hb2.1 rfl).2) (by decide) | exact absurd (hb2.2 ⟨hb1.1 rfl, hw2.1 rfl⟩) (by decide)
      obtain ⟨b3, h16, k16, f16, hb3⟩ := Tryz.chaWithin (A11.keep C15) (A11.keep C15) (by omega) (by omega) (by omega) (by omega)
      obtain rfl := hb3.2 ⟨fun _ h => h, fun _ h => h⟩
      have wah15 := load_two (keepRow C15 Ra11)
      have wbh15 := load_two (keepRow C15 Rb11)
      have wxh15 := load_two (keepRow C15 Rx11)
      have wyh15 := load_two (keepRow C15 Ry11)
      cases b2 with
      | false =>
        simp [↓ kq, kq, ↓ ko, ko, ↓ kt, ↓ kz, kb, kv, kt, kx, z1, z2, hh1, hh2, k3, k4, k5, k6, x3, hh7, k7, ee', er, er', e1, kc1, kc2, hh8, hh9, st1, st2, ks1, ks2, ke2, kq1, k12, k13, k14, k15, k16, aw, gets_some, kc, oneS, mah2, mbh2, mah3, mbh3, mah4, mbh4, lah2, lbh2, lah3, lbh3, lah4, lbh4, lah5, lbh5, lah7, lbh7, wah11, wbh11, wxh11, wyh11, wah12, wbh12, wxh12, wyh12, wah13, wbh13, wxh13, wyh13, wah14, wbh14, wxh14, wyh14, wah15, wbh15, wxh15, wyh15, -bO_of, -bB_true, -bB_false, -H.next_push, -Int.natCast_add]
      | true =>
        simp [↓ kq, kq, ↓ ko, ko, ↓ kt, ↓ kz, kb, kv, kt, kx, z1, z2, hh1, hh2, k3, k4, k5, k6, x3, hh7, k7, ee', er, er', e1, kc1, kc2, hh8, hh9, st1, st2, ks1, ks2, ke2, kq1, k12, k13, k14, k15, k16, aw, gets_some, kc, oneS, mah2, mbh2, mah3, mbh3, mah4, mbh4, lah2, lbh2, lah3, lbh3, lah4, lbh4, lah5, lbh5, lah7, lbh7, wah11, wbh11, wxh11, wyh11, wah12, wbh12, wxh12, wyh12, wah13, wbh13, wxh13, wyh13, wah14, wbh14, wxh14, wyh14, wah15, wbh15, wxh15, wyh15, -bO_of, -bB_true, -bB_false, -H.next_push, -Int.natCast_add]
end
end Go.Proofs
end
