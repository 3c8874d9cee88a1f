/- Bytes: one thing that is written, by the program and by the document. -/
import Derived.Test.YtfcdldibfdoljaaTyN
set_option linter.unusedVariables false
set_option linter.unusedSimpArgs false
set_option linter.unusedSectionVars false
namespace Go.Sh
theorem sCs_eq (f : FuncId) (xs : List XF) (c : CF) (m : Nat) (t : T) (h : H) (k : SV → H → FR) : sCs f xs c m t h k = bO (xL xs t) fun vs => on2 (lower m h.low (c f vs ⟨h.next, m, h.tr⟩)) k := rfl
theorem lower_ge {m l : Nat} {v : SV} {h' : H} (hl : m ≤ h'.low) : lower m l (some (v, h')) = some (v, ⟨h'.next, min l m, h'.tr⟩) := by
  show (if h'.low < m then none else _) = _
  rw [if_neg (by omega)]
theorem Fr.strict {S W : Nat → Prop} {h h' : H} {m : Nat} (f : Fr S W ⟨h.next, m, h.tr⟩ h') : Fr S (· = m) h ⟨h'.next, min h.low m, h'.tr⟩ :=
  ⟨f.next, f.keep, fun m' h1 _ h3 => Nat.le_min.2 ⟨h1, h3 m rfl⟩⟩
theorem Fr.ge {S : Nat → Prop} {h h' : H} {m : Nat} (f : Fr S (fun _ => False) ⟨h.next, m, h.tr⟩ h') (hm : m ≤ h.next) : m ≤ h'.low := f.low m (Nat.le_refl _) hm fun _ k => k.elim
theorem getTo_lt {h : H} {m q : Nat} (hq : q < m) : getTo h m q = h.get q := by unfold getTo; rw [if_pos hq]
theorem rowCells_to {h : H} {m q : Nat} (hq : q < m) : rowCells (getTo h m) q = rowCells h.get q := by unfold rowCells; rw [getTo_lt hq]
end Go.Sh
namespace Go.Proofs
open Go.Sh
set_option linter.unusedVariables false
attribute [local instance] heldNone
noncomputable section
/-- its bytes -/
def It.bs (x : It) : List SV := if x.how = 1 then be 1 x.num else if x.how = 2 then be 2 x.num else if x.how = 3 then be 4 x.num else if x.how = 4 then be 2 x.text.length ++ u8s x.text else []
/-- Can it be written? -/
def It.bad (x : It) : Bool := if x.how = 1 then outOf false x.num 0 255 else if x.how = 2 then outOf false x.num 0 65535 else if x.how = 3 then outOf false x.num (-2147483648) 2147483647 else if x.how = 4 then outOf false x.text.length 0 65535 else false
theorem outOf_or (b : Bool) (x lo hi : Int) : outOf b x lo hi = (b || outOf false x lo hi) := by simp [outOf]
theorem It.bs_le (x : It) : x.bs.length ≤ x.text.length + 4 := by
  unfold It.bs
  split
  · simp [be_length]
  · split
    · simp [be_length]
    · split
      · simp [be_length]
      · split
        · simp [be_length, u8s]; omega
        · simp
theorem wrOwn_lt {h : H} {p n : Nat} {bad : Bool} {cs : List SV} (w : Wr h p bad n cs) : ∀ q, wrOwn h p q → q < h.next := fun q hq => by
  obtain ⟨buf, h1, h2, _⟩ := w
  rcases hq with rfl | ⟨b, c, h3, h4⟩
  · exact H.get_lt h1
  · rw [h1] at h3; cases h3
    obtain ⟨_, ⟨rfl, _⟩ | ⟨id, par, rfl, e⟩⟩ := h2
    · exact h4.elim
    · rw [show q = id from h4]; exact H.get_lt e
theorem wrOwn_keep {h h' : H} {p : Nat} {S W : Nat → Prop} (f : Fr S W h h') (hp : p < h.next) (hs : ¬ S p) : ∀ q, wrOwn h' p q ↔ wrOwn h p q := fun q => by
  unfold wrOwn; rw [f.keep p hp hs]
def wrote (bad : Bool) (n : Nat) (x : It) : Nat := if bad || x.bad then n else n + x.bs.length
def wroteCs (bad : Bool) (cs : List SV) (x : It) : List SV := if bad || x.bad then cs else cs ++ x.bs
theorem Try.write {p : Nat} {x : It} {h : H} {bad : Bool} {n : Nat} {cs : List SV} (hmax : (n + (x.text.length + 4)) * 3 ≤ 1099511627776) (w : Wr h p bad n cs) :
    ∃ h', Try.lc 9 [.ptr p 0, .agg x.cells] h = some (.ptr p 0, h') ∧ Fr (wrOwn h p) (· = p) h h' ∧ Wr h' p (bad || x.bad) (wrote bad n x) (wroteCs bad cs x) ∧ (∀ q, wrOwn h' p q → wrOwn h p q ∨ h.next ≤ q) := by
  have f1 : Fr (fun _ => False) (fun _ => False) h (h.push (.cells x.cells .fixed)) := .push
  have w1 := w.keep f1 fun _ _ k => k
  have hp : p < h.next := by obtain ⟨_, e, _⟩ := w; exact H.get_lt e
  have hown := wrOwn_keep f1 hp fun k => k
  have hrow : rowCells (h.push (.cells x.cells .fixed)).get h.next = some x.cells := by unfold rowCells; rw [H.get_push, if_pos rfl]
  have d0 : ∀ t, lLoad none (xC (.ptr h.next 0)) (h.push (.cells x.cells .fixed)).get t = some (.int .i64 x.how) := fun t => load_one hrow t
  have d1 : ∀ t, lLoad none (xC (.ptr h.next 1)) (h.push (.cells x.cells .fixed)).get t = some (.int .i64 x.num) := fun t => load_one hrow t
  have d2 : ∀ t, lLoad none (xC (.ptr h.next 2)) (h.push (.cells x.cells .fixed)).get t = some (.str x.text) := fun t => load_one hrow t
  have hbox : ∀ c m t K, sN (aBox (xW 1)) c m (setP (way 1) (.agg x.cells) (setP (way 0) (.ptr p 0) t)) h K = K (.ptr h.next 0) (h.push (.cells x.cells .fixed)) := fun c m t K => by
    show bO (bO (xW 1 _) _) _ = _
    simp [kr]; rfl
  have fin : ∀ (h2 : H) (b : Bool) (n2 : Nat) (cs2 : List SV), Fr (wrOwn (h.push (.cells x.cells .fixed)) p) (· = p) (h.push (.cells x.cells .fixed)) h2 → Wr h2 p b n2 cs2 → (∀ q, wrOwn h2 p q → wrOwn (h.push (.cells x.cells .fixed)) p q ∨ (h.push (.cells x.cells .fixed)).next ≤ q) →
      Fr (wrOwn h p) (· = p) h h2 ∧ Wr h2 p b n2 cs2 ∧ (∀ q, wrOwn h2 p q → wrOwn h p q ∨ h.next ≤ q) := fun h2 b n2 cs2 a1 a2 a3 => by
    refine ⟨(f1.mono (fun _ _ k => k.elim) fun _ k => k.elim).trans (a1.mono (fun q _ k => (hown q).1 k) fun q k => .inl k), a2, fun q hq => ?_⟩
    rcases a3 q hq with k | k
    · exact .inl ((hown q).1 k)
    · exact .inr (Nat.le_trans f1.next k)
  by_cases h1 : x.how = 1
  · obtain ⟨h2, k1, k2, k3, k4⟩ := Try.u1 (x := x.num) (by omega) w1
    have e1 : eqI x.how 1 = true := by rw [eqI_eq]; simp [h1]
    refine ⟨h2, Try.en (n := 1) (kf := Try.k9) (by kernel_rfl) ?_, ?_⟩
    · rw [Try.k9_eq, enter_eq]
      simp [argsP, kr, bO_mk, kx, hbox, d0, d1, d2, vAddr, vEq, i2, e1, k1, kfin, kresL, kres, oneS]
    · have := fin h2 _ _ _ k2 k3 k4
      rw [outOf_or] at this
      simpa [wrote, wroteCs, It.bad, It.bs, h1, be_length] using this
  have e1 : eqI x.how 1 = false := by rw [eqI_eq]; simp [h1]
  by_cases h2 : x.how = 2
  · obtain ⟨h3, k1, k2, k3, k4⟩ := Try.u2 (x := x.num) (by omega) w1
    have e2 : eqI x.how 2 = true := by rw [eqI_eq]; simp [h2]
    refine ⟨h3, Try.en (n := 1) (kf := Try.k9) (by kernel_rfl) ?_, ?_⟩
    · rw [Try.k9_eq, enter_eq]
      simp [argsP, kr, bO_mk, kx, hbox, d0, d1, d2, vAddr, vEq, i2, e1, e2, k1, kfin, kresL, kres, oneS]
    · have := fin h3 _ _ _ k2 k3 k4
      rw [outOf_or] at this
      simpa [wrote, wroteCs, It.bad, It.bs, h2, be_length] using this
  have e2 : eqI x.how 2 = false := by rw [eqI_eq]; simp [h2]
  by_cases h3 : x.how = 3
  · obtain ⟨h4, k1, k2, k3, k4⟩ := Try.i4 (x := x.num) (by omega) w1
    have e3 : eqI x.how 3 = true := by rw [eqI_eq]; simp [h3]
    refine ⟨h4, Try.en (n := 1) (kf := Try.k9) (by kernel_rfl) ?_, ?_⟩
    · rw [Try.k9_eq, enter_eq]
      simp [argsP, kr, bO_mk, kx, hbox, d0, d1, d2, vAddr, vEq, i2, e1, e2, e3, k1, kfin, kresL, kres, oneS]
    · have := fin h4 _ _ _ k2 k3 k4
      rw [outOf_or] at this
      simpa [wrote, wroteCs, It.bad, It.bs, h3, be_length] using this
  have e3 : eqI x.how 3 = false := by rw [eqI_eq]; simp [h3]
  by_cases h4 : x.how = 4
  · obtain ⟨h5, k1, k2, k3, k4⟩ := Try.wtext (s := x.text) (by omega) w1
    have e4 : eqI x.how 4 = true := by rw [eqI_eq]; simp [h4]
    refine ⟨h5, Try.en (n := 1) (kf := Try.k9) (by kernel_rfl) ?_, ?_⟩
    · rw [Try.k9_eq, enter_eq]
      simp [argsP, kr, bO_mk, kx, hbox, d0, d1, d2, vAddr, vEq, i2, e1, e2, e3, e4, k1, kfin, kresL, kres, oneS]
    · have := fin h5 _ _ _ k2 k3 k4
      rw [outOf_or] at this
      simpa [wrote, wroteCs, It.bad, It.bs, h4, be_length, u8s, Nat.add_assoc, List.append_assoc] using this
  have e4 : eqI x.how 4 = false := by rw [eqI_eq]; simp [h4]
  refine ⟨h.push (.cells x.cells .fixed), Try.en (n := 1) (kf := Try.k9) (by kernel_rfl) ?_, ?_⟩
  · rw [Try.k9_eq, enter_eq]
    simp [argsP, kr, bO_mk, kx, hbox, d0, d1, d2, vAddr, vEq, i2, e1, e2, e3, e4, kfin, kresL, kres, oneS]
  · have := fin _ _ _ _ .refl w1 fun q hq => .inl hq
    simpa [wrote, wroteCs, It.bad, It.bs, h1, h2, h3, h4] using this
theorem Try.write_nil (x : It) (h : H) : ∃ h', Try.lc 9 [.nilptr, .agg x.cells] h = some (.nilptr, h') ∧ Fr (fun _ => False) (fun _ => False) h h' := by
  have f1 : Fr (fun _ => False) (fun _ => False) h (h.push (.cells x.cells .fixed)) := .push
  have hrow : rowCells (h.push (.cells x.cells .fixed)).get h.next = some x.cells := by unfold rowCells; rw [H.get_push, if_pos rfl]
  have d0 : ∀ t, lLoad none (xC (.ptr h.next 0)) (h.push (.cells x.cells .fixed)).get t = some (.int .i64 x.how) := fun t => load_one hrow t
  have d1 : ∀ t, lLoad none (xC (.ptr h.next 1)) (h.push (.cells x.cells .fixed)).get t = some (.int .i64 x.num) := fun t => load_one hrow t
  have d2 : ∀ t, lLoad none (xC (.ptr h.next 2)) (h.push (.cells x.cells .fixed)).get t = some (.str x.text) := fun t => load_one hrow t
  have hbox : ∀ c m t K, sN (aBox (xW 1)) c m (setP (way 1) (.agg x.cells) (setP (way 0) .nilptr t)) h K = K (.ptr h.next 0) (h.push (.cells x.cells .fixed)) := fun c m t K => by
    show bO (bO (xW 1 _) _) _ = _
    simp [kr]; rfl
  refine ⟨h.push (.cells x.cells .fixed), Try.en (n := 1) (kf := Try.k9) (by kernel_rfl) ?_, f1⟩
  rw [Try.k9_eq, enter_eq]
  by_cases h1 : x.how = 1
  · simp [argsP, kr, bO_mk, kx, hbox, d0, d1, d2, vAddr, vEq, i2, eqI_eq, h1, Try.u1_nil, kfin, kresL, kres, oneS]
  by_cases h2 : x.how = 2
  · simp [argsP, kr, bO_mk, kx, hbox, d0, d1, d2, vAddr, vEq, i2, eqI_eq, h2, Try.u2_nil, kfin, kresL, kres, oneS]
  by_cases h3 : x.how = 3
  · simp [argsP, kr, bO_mk, kx, hbox, d0, d1, d2, vAddr, vEq, i2, eqI_eq, h3, Try.i4_nil, kfin, kresL, kres, oneS]
  by_cases h4 : x.how = 4
  · simp [argsP, kr, bO_mk, kx, hbox, d0, d1, d2, vAddr, vEq, i2, eqI_eq, h4, Try.wtext_nil, kfin, kresL, kres, oneS]
  simp [argsP, kr, bO_mk, kx, hbox, d0, d1, d2, vAddr, vEq, i2, eqI_eq, h1, h2, h3, h4, kfin, kresL, kres, oneS]
end
end Go.Proofs
