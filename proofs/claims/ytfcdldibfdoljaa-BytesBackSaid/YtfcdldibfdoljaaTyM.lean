/- Bytes: the items of the laws; is all of it small? -/
import Derived.Test.YtfcdldibfdoljaaTyJ
set_option linter.unusedVariables false
set_option linter.unusedSimpArgs false
set_option linter.unusedSectionVars false
namespace Go.Sh
theorem View.at {h : H} {es n : Nat} {v : SV} {cs : List SV} (w : View h es v n cs) {i : Nat} (hi : i < n) : ∃ id o all, atIdx es i v = some (.ptr id o) ∧ isRow v id ∧ rowCells h.get id = some all ∧ o + es ≤ all.length ∧ (all.drop o).take es = (cs.drop (i * es)).take es := by
  obtain ⟨h1, ⟨rfl, rfl⟩ | ⟨id, off, cap, all, rfl, h2, h3, h4⟩⟩ := w
  · omega
  · have hm : i * es + es ≤ n * es := by rw [← Nat.succ_mul]; exact Nat.mul_le_mul_right _ hi
    have h5 := take_part h3 hm
    unfold takeCells at h5
    split at h5
    · rename_i hle
      refine ⟨id, off + i * es, all, ?_, rfl, h2, hle, by simpa using h5⟩
      show bB (Nat.blt i n) _ _ = _
      rw [show Nat.blt i n = true from Nat.ble_eq_true_of_le hi]; rfl
    · cases h5
theorem load_agg {g : Nat → Option SObj} {id o m : Nat} {all : List SV} (h2 : rowCells g id = some all) (hle : o + m ≤ all.length) (t : T) : lLoad (some m) (xC (.ptr id o)) g t = some (.agg ((all.drop o).take m)) := by
  show bO (rowCells g id) (fun cs => bO (dropX o cs) fun r => bO (takeX m r) fun l => some (SV.agg l)) = _
  rw [h2]
  show bO (dropX o all) _ = _
  rw [dropX_eq, if_pos (by omega)]
  show bO (takeX m (all.drop o)) _ = _
  rw [takeX_eq, if_pos (by rw [List.length_drop]; omega)]; rfl
theorem load_one {g : Nat → Option SObj} {id o : Nat} {all : List SV} (h2 : rowCells g id = some all) (t : T) : lLoad none (xC (.ptr id o)) g t = all[o]? := by
  show bO (rowCells g id) (fun cs => idxX o cs) = _
  rw [h2]; exact idxX_get _ _
end Go.Sh
namespace Go.Proofs
open Go.Sh
set_option linter.unusedVariables false
attribute [local instance] heldNone
noncomputable section
/-- Something to write. -/
structure It where
  how : Int
  num : Int
  text : List UInt8
def It.cells (x : It) : List SV := [.int .i64 x.how, .int .i64 x.num, .str x.text]
def itCells : List It → List SV
  | [] => []
  | x :: l => .int .i64 x.how :: .int .i64 x.num :: .str x.text :: itCells l
theorem itCells_length : ∀ l, (itCells l).length = l.length * 3
  | [] => rfl
  | x :: l => by simp [itCells, itCells_length l]; omega
theorem itCells_take : ∀ (l : List It) (i : Nat) (x : It), l[i]? = some x → ((itCells l).drop (i * 3)).take 3 = x.cells
  | [], _, _, h => by simp at h
  | y :: l, 0, x, h => by
    simp at h; subst h; simp [itCells, It.cells]
  | y :: l, i + 1, x, h => by
    rw [show (i + 1) * 3 = i * 3 + 1 + 1 + 1 by omega]
    simp only [itCells, List.drop_succ_cons]
    exact itCells_take l i x (by simpa using h)
theorem View.item {h : H} {n : Nat} {v : SV} {its : List It} (w : View h 3 v n (itCells its)) {i : Nat} {x : It} (hx : its[i]? = some x) :
    ∃ id o, atIdx 3 i v = some (.ptr id o) ∧ (∀ t, lLoad (some 3) (xC (.ptr id o)) h.get t = some (.agg x.cells)) ∧ (∀ t, lLoad none (xC (.ptr id o)) h.get t = some (.int .i64 x.how)) ∧ (∀ t, lLoad none (xC (.ptr id (o + 2))) h.get t = some (.str x.text)) := by
  have hn : n = its.length := by have := w.1; rw [itCells_length] at this; omega
  have hi : i < n := by rw [hn]; exact (List.getElem?_eq_some_iff.1 hx).1
  obtain ⟨id, o, all, h1, _, h2, h3, h4⟩ := w.at hi
  rw [itCells_take its i x hx] at h4
  refine ⟨id, o, h1, fun t => by rw [load_agg h2 h3, h4], fun t => ?_, fun t => ?_⟩
  · rw [load_one h2, show all[o]? = ((all.drop o).take 3)[0]? by simp, h4]; rfl
  · rw [load_one h2, show all[o + 2]? = ((all.drop o).take 3)[2]? by simp, h4]; rfl
/-- A sum that does not grow past a bound. -/
def satSum (n : Int) : List Int → Int
  | [] => n
  | x :: l => if ltI 1099511627776 n || ltI (IntKind.i64.wrap (1099511627776 - n)) x then 1099511627776 else satSum (IntKind.i64.wrap (n + x)) l
def i64s (l : List Int) : List SV := l.map fun z => .int .i64 z
theorem Try.sum_loop {h : H} {v : SV} {m : Nat} {zs : List Int} (w : View h 1 v m (i64s zs)) (hm : m ≤ 1099511627776) (c : CF) : ∀ (j i k : Nat) (acc : Int) (t : T), i + j = m → j < k → getP (way 1) t = some v → getP (way 5) t = some (.int .i64 i) → getP (way 0) t = some (.int .i64 acc) →
    Gets (cLoop Try.l25_0 k c t h) fun fl t' h' => h' = h ∧ (fl = .exit 0 ∧ getP (way 0) t' = some (.int .i64 (satSum acc (zs.drop i))) ∨ fl = .ret ∧ getP (way 4) t' = some (.int .i64 (satSum acc (zs.drop i)))) := by
  have hz : zs.length = m := by have := w.1; simpa [i64s] using this
  intro j
  induction j with
  | zero =>
    intro i k acc t hi hk h1 h5 h0
    obtain ⟨k, rfl⟩ : ∃ m, k = m + 1 := ⟨k - 1, by omega⟩
    rw [loop_succ]
    generalize (fun t h => cLoop Try.l25_0 k c t h) = L
    unfold Try.l25_0
    have e1 : ltI (i : Int) m = false := by rw [ltI_eq]; simp; omega
    simp [kr, bO_mk, vLt, vLen, w.length, i2, kx, h1, h5, h0, e1, gets_some]
    rw [List.drop_eq_nil_of_le (by omega)]
    rfl
  | succ j ih =>
    intro i k acc t hi hk h1 h5 h0
    obtain ⟨k, rfl⟩ : ∃ m, k = m + 1 := ⟨k - 1, by omega⟩
    rw [loop_succ]
    generalize hL : (fun t h => cLoop Try.l25_0 k c t h) = L
    unfold Try.l25_0
    have e1 : ltI (i : Int) m = true := by rw [ltI_eq]; simp; omega
    obtain ⟨p, k1, k2⟩ := w.load (i := i) (by omega)
    obtain ⟨z, hzi⟩ : ∃ z, zs[i]? = some z := ⟨zs[i]'(by omega), List.getElem?_eq_getElem (by omega)⟩
    have k3 : ∀ t, lLoad none (xC p) h.get t = some (.int .i64 z) := fun t => by rw [k2]; simp [i64s, hzi]
    have hd : zs.drop i = z :: zs.drop (i + 1) := by
      rw [List.drop_eq_getElem_cons (by omega : i < zs.length)]
      rw [List.getElem?_eq_getElem (by omega)] at hzi
      cases hzi; rfl
    have e2 : IntKind.i64.wrap ((i : Int) + 1) = ((i + 1 : Nat) : Int) := by
      rw [Int.natCast_add]; exact wrap_i64 (by omega) (by omega)
    rw [hd]
    by_cases hs : (ltI 1099511627776 acc || ltI (IntKind.i64.wrap (1099511627776 - acc)) z) = true
    · have hr : satSum acc (z :: zs.drop (i + 1)) = 1099511627776 := by unfold satSum; rw [if_pos hs]
      rw [hr]
      cases ha : ltI 1099511627776 acc
      · have hb : ltI (IntKind.i64.wrap (1099511627776 - acc)) z = true := by simpa [ha] using hs
        simp [kr, bO_mk, vLt, vGt, vLen, w.length, vIdx, vSub, vPick, isB, bB, i2, kx, h1, h5, h0, e1, ha, hb, intN_nat, k1, k3, wrapS_eq, gets_some]
      · simp [kr, bO_mk, vLt, vGt, vLen, w.length, vIdx, vSub, vPick, isB, bB, i2, kx, h1, h5, h0, e1, ha, intN_nat, k1, k3, wrapS_eq, gets_some]
    · have hr : satSum acc (z :: zs.drop (i + 1)) = satSum (IntKind.i64.wrap (acc + z)) (zs.drop (i + 1)) := by rw [satSum, if_neg hs]
      rw [hr]
      have ha : ltI 1099511627776 acc = false := by cases q : ltI 1099511627776 acc <;> simp [q] at hs ⊢
      have hb : ltI (IntKind.i64.wrap (1099511627776 - acc)) z = false := by simpa [ha] using hs
      simp [kr, bO_mk, vLt, vGt, vLen, w.length, vIdx, vSub, vAdd, vPick, isB, bB, i2, kx, h1, h5, h0, e1, e2, ha, hb, intN_nat, k1, k3, wrapS_eq, -Int.natCast_add]
      rw [← hL]
      refine ih (i + 1) k _ _ (by omega) (by omega) ?_ ?_ ?_
      · simp [kr, h1]
      · simp [kr, -Int.natCast_add]
      · simp [kr]
theorem Try.sum {h : H} {v : SV} {m : Nat} {zs : List Int} (w : View h 1 v m (i64s zs)) (hm : m ≤ 1099511627776) (n : Int) : Try.lc 25 [.int .i64 n, v] h = some (.int .i64 (satSum n zs), h) := by
  have hl := Try.sum_loop w hm Try.lc m 0 (m + 1) n (setP (way 5) (.int .i64 0) (setP (way 4) (.int .i64 0) (setP (way 1) v (setP (way 0) (.int .i64 n) .leaf)))) (by omega) (by omega) (by simp [kr]) (by simp [kr]) (by simp [kr])
  obtain ⟨v', h', k1, rfl, k2⟩ := gets_fin (rs := [.tmp (way 4)]) (Q := fun v' h' => v' = .int .i64 (satSum n zs) ∧ h' = h) (gets_next (k := cSeq (cOps (oLet (sV (xW 0)) fun v29 => oSet 4 (sV (xC v29)) fun v4 => oEnd)) cRet (m + 1) Try.lc) (gets_leave (id := 0) (Gets.mono hl fun fl t' h' ⟨b1, b2⟩ => by
    subst b1
    rcases b2 with ⟨rfl, b2⟩ | ⟨rfl, b2⟩
    · simp [kr, bO_mk, gets_some, show getP (way 0) t' = some (.int .i64 (satSum n zs)) by simpa using b2, kresL, kres, oneS]
    · simp [gets_some, show getP (way 4) t' = some (.int .i64 (satSum n zs)) by simpa using b2, kresL, kres, oneS])))
  subst k2
  refine Try.en (n := m + 1) (kf := Try.k25) (by kernel_rfl) ?_
  rw [Try.k25_eq, enter_eq]
  simp [argsP, kr, bO_mk]
  exact k1
end
end Go.Proofs
