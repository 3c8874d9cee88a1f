/- Bytes: one thing, as the document writes it. -/
import Derived.Test.YtfcdldibfdoljaaTyO
import Derived.Test.YtfcdldibfdoljaaSh15
set_option linter.unusedVariables false
set_option linter.unusedSimpArgs false
set_option linter.unusedSectionVars false
namespace Go.Proofs
open Go.Sh
set_option linter.unusedVariables false
attribute [local instance] heldNone
noncomputable section
theorem outOf_lt (x lo hi : Int) : outOf false x lo hi = !(!ltI x lo && ltI x (hi + 1)) := by
  have : ltI x (hi + 1) = !ltI hi x := by
    rw [ltI_eq, ltI_eq]
    by_cases h : hi < x
    · have : ¬ x < hi + 1 := by omega
      simp [h, this]
    · have : x < hi + 1 := by omega
      simp [h, this]
  rw [this, outOf]
  simp
theorem Try.num_row (x : Int) (s : Nat) (hs : s ≤ 8) (h : H) : ∃ h', Try.lc 29 [.int .i64 x, .int .i64 s] h = some (.slice h.next 0 s 1 (some s), h') ∧ View h' 1 (.slice h.next 0 s 1 (some s)) (be s x).length (be s x) ∧ Fr (fun _ => False) (fun _ => False) h h' := by
  obtain ⟨h2, k1, k2, k3⟩ := Try.u x s hs h
  refine ⟨h2, k1, ?_, k3⟩
  have hr : rowCells h2.get h.next = some (be s x) := by unfold rowCells; rw [k2]
  refine ⟨by simp, .inr ⟨h.next, 0, some s, be s x, by rw [be_length], hr, ?_, fun c q => by cases q; rw [be_length]; exact Nat.le_refl _⟩⟩
  unfold takeCells
  rw [if_pos (by simp), List.drop_zero, Nat.mul_one, List.take_length]
theorem Try.text_row (s : List UInt8) (h : H) (hmax : (2 + s.length) * 3 ≤ 1099511627776) : ∃ v h', Try.lc 30 [.str s] h = some (v, h') ∧ View h' 1 v (be 2 s.length ++ u8s s).length (be 2 s.length ++ u8s s) ∧ Fr (fun _ => False) (fun _ => False) h h' ∧ (∀ q, isRow v q → h.next ≤ q) := by
  obtain ⟨v, h2, k1, k2, k3, k4⟩ := Try.text s h hmax
  refine ⟨v, h2, k1, ?_, k3, k4⟩
  rw [show (be 2 (s.length : Int) ++ u8s s).length = 2 + s.length by simp [be_length, u8s]]
  exact k2
theorem Try.bytesOf {x : It} {h : H} (hmax : (x.text.length + 4) * 3 ≤ 1099511627776) :
    ∃ v h', Try.lc 10 [.agg x.cells] h = some (.tuple [v, .bool (!x.bad)], h') ∧ View h' 1 v x.bs.length x.bs ∧ Fr (fun _ => False) (fun _ => False) h h' ∧ (∀ q, isRow v q → h.next ≤ q) := by
  have hrow : rowCells (h.push (.cells x.cells .fixed)).get h.next = some x.cells := by unfold rowCells; rw [H.get_push, if_pos rfl]
  have f1 : Fr (fun _ => False) (fun _ => False) h (h.push (.cells x.cells .fixed)) := .push
  have hlt : h.next < (h.push (.cells x.cells .fixed)).next := Nat.lt_succ_self _
  have hbox : ∀ c m K, sN (aBox (xW 0)) c m (setP (way 0) (.agg x.cells) .leaf) h K = K (.ptr h.next 0) (h.push (.cells x.cells .fixed)) := fun c m K => by
    show bO (bO (xW 0 _) _) _ = _
    simp [kr]; rfl
  generalize h.push (.cells x.cells .fixed) = h1 at *
  have d0 : ∀ t, lLoad none (xC (.ptr h.next 0)) h1.get t = some (.int .i64 x.how) := fun t => load_one hrow t
  have d1 : ∀ t, lLoad none (xC (.ptr h.next 1)) h1.get t = some (.int .i64 x.num) := fun t => load_one hrow t
  have d2 : ∀ t, lLoad none (xC (.ptr h.next 2)) h1.get t = some (.str x.text) := fun t => load_one hrow t
  have later : ∀ {h2 : H}, Fr (fun _ => False) (fun _ => False) h1 h2 → rowCells h2.get h.next = some x.cells ∧ rowCells (mixTo h1 h2 h2.next) h.next = some x.cells := fun f2 => by
    have : rowCells _ h.next = some x.cells := (rowCells_keep f2 hlt fun k => k).trans hrow
    exact ⟨this, (rowCells_mix hlt).trans hrow⟩
  by_cases q1 : x.how = 1
  · obtain ⟨h2, k1, k2, k3⟩ := Try.num_row x.num 1 (by omega) h1
    have k1 : Try.lc 29 [.int .i64 x.num, .int .i64 1] h1 = some (.slice h1.next 0 1 1 (some 1), h2) := k1
    obtain ⟨l1, l2⟩ := later k3
    have c1 := fun t => load_one (o := 1) l1 t
    have c2 := fun t => load_one (o := 1) l2 t
    refine ⟨.slice h1.next 0 1 1 (some 1), h2, Try.en (n := 1) (kf := Try.k10) (by kernel_rfl) ?_, by simpa [It.bs, q1] using k2, f1.trans k3, fun q hq => by rw [show q = h1.next from hq]; exact f1.next⟩
    rw [Try.k10_eq, enter_eq]
    have hb : x.bad = !(!ltI x.num 0 && ltI x.num 256) := by unfold It.bad; rw [if_pos q1, outOf_lt]; rfl
    have dd : x.cells[1]? = some (.int .i64 x.num) := rfl
    rw [hb]
    cases hz : ltI x.num 0 <;> cases hz2 : ltI x.num 256 <;> simp [argsP, kq, ko, eqS1_int, eqS1_str, bO_mk, kx, hbox, d0, d1, vAddr, vEq, vGe, vLt, vPick, i2, eqI_eq, q1, k1, c1, c2, dd, hz, hz2, kfin, kresL, kres, oneS]
  by_cases q2 : x.how = 2
  · obtain ⟨h2, k1, k2, k3⟩ := Try.num_row x.num 2 (by omega) h1
    have k1 : Try.lc 29 [.int .i64 x.num, .int .i64 2] h1 = some (.slice h1.next 0 2 1 (some 2), h2) := k1
    obtain ⟨l1, l2⟩ := later k3
    have c1 := fun t => load_one (o := 1) l1 t
    have c2 := fun t => load_one (o := 1) l2 t
    refine ⟨.slice h1.next 0 2 1 (some 2), h2, Try.en (n := 1) (kf := Try.k10) (by kernel_rfl) ?_, by simpa [It.bs, q2] using k2, f1.trans k3, fun q hq => by rw [show q = h1.next from hq]; exact f1.next⟩
    rw [Try.k10_eq, enter_eq]
    have hb : x.bad = !(!ltI x.num 0 && ltI x.num 65536) := by unfold It.bad; rw [if_neg q1, if_pos q2, outOf_lt]; rfl
    have dd : x.cells[1]? = some (.int .i64 x.num) := rfl
    rw [hb]
    cases hz : ltI x.num 0 <;> cases hz2 : ltI x.num 65536 <;> simp [argsP, kq, ko, eqS1_int, eqS1_str, bO_mk, kx, hbox, d0, d1, vAddr, vEq, vGe, vLt, vPick, i2, eqI_eq, q2, k1, c1, c2, dd, hz, hz2, kfin, kresL, kres, oneS]
  by_cases q3 : x.how = 3
  · obtain ⟨h2, k1, k2, k3⟩ := Try.num_row x.num 4 (by omega) h1
    have k1 : Try.lc 29 [.int .i64 x.num, .int .i64 4] h1 = some (.slice h1.next 0 4 1 (some 4), h2) := k1
    obtain ⟨l1, l2⟩ := later k3
    have c1 := fun t => load_one (o := 1) l1 t
    have c2 := fun t => load_one (o := 1) l2 t
    refine ⟨.slice h1.next 0 4 1 (some 4), h2, Try.en (n := 1) (kf := Try.k10) (by kernel_rfl) ?_, by simpa [It.bs, q3] using k2, f1.trans k3, fun q hq => by rw [show q = h1.next from hq]; exact f1.next⟩
    rw [Try.k10_eq, enter_eq]
    have hb : x.bad = !(!ltI x.num (-2147483648) && ltI x.num 2147483648) := by unfold It.bad; rw [if_neg q1, if_neg q2, if_pos q3, outOf_lt]; rfl
    have dd : x.cells[1]? = some (.int .i64 x.num) := rfl
    rw [hb]
    cases hz : ltI x.num (-2147483648) <;> cases hz2 : ltI x.num 2147483648 <;> simp [argsP, kq, ko, eqS1_int, eqS1_str, bO_mk, kx, hbox, d0, d1, vAddr, vEq, vGe, vLt, vPick, i2, eqI_eq, q3, k1, c1, c2, dd, hz, hz2, kfin, kresL, kres, oneS]
  by_cases q4 : x.how = 4
  · obtain ⟨v, h2, k1, k2, k3, k4⟩ := Try.text_row x.text h1 (by omega)
    obtain ⟨l1, l2⟩ := later k3
    have c1 := fun t => load_one (o := 2) l1 t
    have c2 := fun t => load_one (o := 2) l2 t
    refine ⟨v, h2, Try.en (n := 1) (kf := Try.k10) (by kernel_rfl) ?_, by simpa [It.bs, q4] using k2, f1.trans k3, fun q hq => Nat.le_trans f1.next (k4 q hq)⟩
    rw [Try.k10_eq, enter_eq]
    have e0 : ltI (x.text.length : Int) 0 = false := by rw [ltI_eq]; simp
    have hb : x.bad = !(ltI x.text.length 65536) := by unfold It.bad; rw [if_neg q1, if_neg q2, if_neg q3, if_pos q4, outOf_lt, e0]; rfl
    have dd : x.cells[2]? = some (.str x.text) := rfl
    rw [hb]
    simp [argsP, kq, ko, eqS1_int, eqS1_str, bO_mk, kx, hbox, d0, d2, vAddr, vEq, vLt, vLenS, i2, eqI_eq, q4, k1, c1, c2, dd, kfin, kresL, kres, oneS]
  refine ⟨.nilslice, h1, Try.en (n := 1) (kf := Try.k10) (by kernel_rfl) ?_, ⟨by simp, .inl ⟨rfl, by simp [It.bs, q1, q2, q3, q4]⟩⟩, f1, fun q hq => hq.elim⟩
  rw [Try.k10_eq, enter_eq]
  have hb : x.bad = false := by unfold It.bad; rw [if_neg q1, if_neg q2, if_neg q3, if_neg q4]
  simp [argsP, kq, ko, eqS1_int, eqS1_str, bO_mk, kx, hbox, d0, vAddr, vEq, i2, eqI_eq, q1, q2, q3, q4, hb, kfin, kresL, kres, oneS]
end
end Go.Proofs
