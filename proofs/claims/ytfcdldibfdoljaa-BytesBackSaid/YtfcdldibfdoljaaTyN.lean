/- Bytes: the laws' own bound. -/
import Derived.Test.YtfcdldibfdoljaaTyM
set_option linter.unusedVariables false
set_option linter.unusedSimpArgs false
set_option linter.unusedSectionVars false
namespace Go.Proofs
open Go.Sh
set_option linter.unusedVariables false
attribute [local instance] heldNone
noncomputable section
/-- How long all of it is, at most. -/
def total : List It → Nat
  | [] => 0
  | x :: l => x.text.length + 4 + total l
theorem total_length (l : List It) : l.length ≤ total l := by
  induction l with
  | nil => simp [total]
  | cons x l ih => simp [total]; omega
theorem total_app : ∀ a b, total (a ++ b) = total a + total b
  | [], b => by simp [total]
  | x :: a, b => by simp [total, total_app a b]; omega
theorem total_take (l : List It) (i : Nat) (x : It) (hx : l[i]? = some x) : total (l.take (i + 1)) = total (l.take i) + (x.text.length + 4) := by
  obtain ⟨hi, rfl⟩ := List.getElem?_eq_some_iff.1 hx
  rw [List.take_succ_eq_append_getElem hi, total_app]; simp [total]
theorem satSum_two {a : Int} {l : Nat} (h0 : 0 ≤ a) (h1 : a ≤ 2000) : satSum a [(l : Int), 4] = a + l + 4 ∨ satSum a [(l : Int), 4] = 1099511627776 := by
  have w1 : IntKind.i64.wrap (1099511627776 - a) = 1099511627776 - a := wrap_i64 (by omega) (by omega)
  unfold satSum
  rw [w1, ltI_eq, ltI_eq]
  by_cases hl : (1099511627776 - a) < (l : Int)
  · right; simp [hl]
  · have w2 : IntKind.i64.wrap (a + l) = a + l := wrap_i64 (by omega) (by omega)
    have w3 : IntKind.i64.wrap (1099511627776 - (a + l)) = 1099511627776 - (a + l) := wrap_i64 (by omega) (by omega)
    have c1 : ¬ (1099511627776 : Int) < a := by omega
    have c2 : ¬ (1099511627776 : Int) < a + l := by omega
    simp only [c1, hl, decide_false, Bool.or_self, Bool.false_eq_true, if_false]
    unfold satSum
    rw [w2, w3, ltI_eq, ltI_eq]
    by_cases h4 : (1099511627776 - (a + l)) < 4
    · right; simp [h4]
    · left
      simp only [c2, h4, decide_false, Bool.or_self, Bool.false_eq_true, if_false]
      unfold satSum
      exact wrap_i64 (by omega) (by omega)
theorem Try.small_loop {v : SV} {m : Nat} {its : List It} {h0 : H} : ∀ (j i k : Nat) (acc : Int) (t : T) (h : H), i + j = m → j < k → View h 3 v m (itCells its) → (acc ≤ 2000 → acc = total (its.take i)) → Fr (fun _ => False) (fun _ => False) h0 h →
    getP (way 0) t = some v → getP (way 4) t = some (.int .i64 i) → getP (way 3) t = some (.int .i64 acc) →
    Gets (cLoop Try.l7_0 k Try.lc t h) fun fl t' h' => fl = .exit 0 ∧ Fr (fun _ => False) (fun _ => False) h0 h' ∧ ∃ a : Int, getP (way 3) t' = some (.int .i64 a) ∧ (a ≤ 2000 → a = total its) := by
  intro j
  induction j with
  | zero =>
    intro i k acc t h hi hk w ha hf t0 t4 t3
    obtain ⟨k, rfl⟩ : ∃ m, k = m + 1 := ⟨k - 1, by omega⟩
    have hn : m = its.length := by have := w.1; rw [itCells_length] at this; omega
    rw [loop_succ]
    generalize (fun t h => cLoop Try.l7_0 k Try.lc t h) = L
    unfold Try.l7_0
    have e1 : ltI (i : Int) m = false := by rw [ltI_eq]; simp; omega
    simp [kr, bO_mk, vLt, vLe, vLen, w.length, vPick, isB, bB, i2, kx, t0, t4, t3, e1, gets_some]
    refine ⟨hf, fun q => ?_⟩
    rw [ha q, List.take_of_length_le (by omega)]
  | succ j ih =>
    intro i k acc t h hi hk w ha hf t0 t4 t3
    obtain ⟨k, rfl⟩ : ∃ m, k = m + 1 := ⟨k - 1, by omega⟩
    have hn : m = its.length := by have := w.1; rw [itCells_length] at this; omega
    rw [loop_succ]
    generalize hL : (fun t h => cLoop Try.l7_0 k Try.lc t h) = L
    unfold Try.l7_0
    have e1 : ltI (i : Int) m = true := by rw [ltI_eq]; simp; omega
    by_cases hs : acc ≤ 2000
    · have e2 : ltI 2000 acc = false := by rw [ltI_eq]; simp; omega
      obtain ⟨x, hx⟩ : ∃ x, its[i]? = some x := ⟨its[i]'(by omega), List.getElem?_eq_getElem (by omega)⟩
      obtain ⟨id, o, k1, _, _, k2⟩ := View.item w hx
      have hacc := ha hs
      have hli := total_length (its.take i)
      rw [List.length_take] at hli
      have e3 : IntKind.i64.wrap ((i : Int) + 1) = ((i + 1 : Nat) : Int) := by
        rw [Int.natCast_add]; exact wrap_i64 (by omega) (by omega)
      have f1 : Fr (fun _ => False) (fun _ => False) h (h.push (.cells [.int .i64 x.text.length, .int .i64 4] .fixed)) := .push
      have hrow : rowCells (h.push (.cells [.int .i64 x.text.length, .int .i64 4] .fixed)).get h.next = some [.int .i64 x.text.length, .int .i64 4] := by
        unfold rowCells; rw [H.get_push, if_pos rfl]
      have hsum := Try.sum (h := h.push (.cells [.int .i64 x.text.length, .int .i64 4] .fixed)) (v := .slice h.next 0 2 1 (some 2)) (m := 2) (zs := [(x.text.length : Int), 4])
        ⟨rfl, .inr ⟨h.next, 0, some 2, _, rfl, hrow, rfl, fun c q => by cases q; exact Nat.le_refl _⟩⟩ (by omega) acc
      have hrow2 : ∀ (a b : SV) (ha : a.cells? = some [a]) (hb : b.cells? = some [b]) (c : CF) (m : Nat) (t : T) (h : H) (K : SV → H → FR), sN (aRow 2 1 [1, 1] [xC a, xC b]) c m t h K = K (.slice h.next 0 2 1 (some 2)) (h.push (.cells [a, b] .fixed)) := fun a b ha hb c m t h K => by
        have : kcat [1, 1] [a, b] = some [a, b] := by
          show bO a.cells? _ = _
          rw [ha]
          show bO (bO b.cells? _) _ = _
          rw [hb]; rfl
        show bO (bO (kcat [1, 1] [a, b]) _) _ = _
        rw [this]; rfl
      have hr2 := hrow2 (.int .i64 x.text.length) (.int .i64 4) rfl rfl
      simp [kr, bO_mk, vLt, vLe, vLen, vLenS, w.length, vPick, isB, bB, i2, kx, vIdx, vAddr, vAdd, wrapS_eq, t0, t4, t3, e1, e2, e3, intN_nat, k1, k2, hr2, hsum, -Int.natCast_add]
      rw [← hL]
      refine ih (i + 1) k (satSum acc [(x.text.length : Int), 4]) _ _ (by omega) (by omega) (w.keep f1 fun _ _ k => k) (fun q => ?_) (hf.trans f1) ?_ ?_ ?_
      · rw [total_take its i x hx]
        rcases satSum_two (a := acc) (l := x.text.length) (by omega) hs with e | e
        · rw [e]; omega
        · rw [e] at q; omega
      · simp [kr, t0]
      · simp [kr, -Int.natCast_add]
      · simp [kr]
    · have e2 : ltI 2000 acc = true := by rw [ltI_eq]; simp; omega
      simp [kr, bO_mk, vLt, vLe, vLen, w.length, vPick, isB, bB, i2, kx, t0, t4, t3, e1, e2, gets_some]
      exact ⟨hf, fun q => absurd q hs⟩
theorem Try.small {h : H} {v : SV} {m : Nat} {its : List It} (w : View h 3 v m (itCells its)) :
    ∃ r h', Try.lc 7 [v] h = some (.bool r, h') ∧ Fr (fun _ => False) (fun _ => False) h h' ∧ (r = true → total its ≤ 2000) := by
  have hl := Try.small_loop (its := its) (h0 := h) m 0 (m + 1) 0 (setP (way 4) (.int .i64 0) (setP (way 3) (.int .i64 0) (setP (way 2) (.bool false) (setP (way 0) v .leaf)))) h (by omega) (by omega) w (fun _ => by simp [total]) .refl (by simp [kr]) (by simp [kr]) (by simp [kr])
  obtain ⟨v', h', k1, ⟨r, rfl, k2⟩, k3⟩ := gets_fin (rs := [.tmp (way 2)]) (Q := fun v' h' => (∃ r, v' = .bool r ∧ (r = true → total its ≤ 2000)) ∧ Fr (fun _ => False) (fun _ => False) h h') (gets_next (k := cSeq (cOps (oLet (sV (xW 3)) fun v24 => oLet (sV (vLe .i64 (xC v24) (xC (.int .i64 2000)))) fun v25 => oSet 2 (sV (xC v25)) fun v2 => oEnd)) cRet (m + 1) Try.lc) (gets_leave (id := 0) (Gets.mono hl fun fl t' h' ⟨b1, b2, a, b3, b4⟩ => by
    subst b1
    simp [kr, bO_mk, gets_some, b3, vLe, i2, kx, kresL, kres, oneS]
    refine ⟨?_, b2⟩
    rw [ltI_eq]
    by_cases q : 2000 < a
    · left; simpa using q
    · right; exact ⟨by simpa using q, by have := b4 (by omega); omega⟩)))
  refine ⟨r, h', Try.en (n := m + 1) (kf := Try.k7) (by kernel_rfl) ?_, k3, k2⟩
  rw [Try.k7_eq, enter_eq]
  simp [argsP, kr, bO_mk]
  exact k1
end
end Go.Proofs
