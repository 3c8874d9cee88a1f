/- General laws of the proof: a shadow machine of the form, its soundness, and a compiled form of it. -/
import Derived.Test.YtfcdldibfdoljaaSh14
set_option linter.unusedVariables false
set_option linter.unusedSimpArgs false
set_option linter.unusedSectionVars false
section
/- The compiled machine: rules for reckoning, without conditionals of propositions. -/
namespace Go.Sh
section
theorem getP_setB (a b : Nat) (v : SV) (t : T) : getP (way a) (setP (way b) v t) = bB (a == b) (some v) (getP (way a) t) := by
  rw [getP_set]
  by_cases h : a = b
  · rw [if_pos h, show (a == b) = true by simpa using h]; rfl
  · rw [if_neg h, show (a == b) = false by simpa using h]; rfl
theorem kq :
    (∀ n t, xW n t = getP (way n) t) ∧ (∀ v t, xC v t = some v) ∧
    (∀ a b v t, getP (way a) (setP (way b) v t) = bB (a == b) (some v) (getP (way a) t)) ∧ (∀ a, getP (way a) (.leaf : T) = none) ∧
    (∀ a b n c t h, cSeq a b n c t h = knext (a n c t h) (b n c)) ∧ (∀ o n c t h, cOps o n c t h = o c h.next t h fun t h => some (.normal, t, h)) ∧
    (∀ n c t h, cSkip n c t h = some (.normal, t, h)) ∧ (∀ n c t h, cRet n c t h = some (.ret, t, h)) ∧ (∀ i n c t h, cExit i n c t h = some (.exit i, t, h)) ∧ (∀ i n c t h, cGoto i n c t h = some (.goto i, t, h)) ∧
    (∀ x a b n c t h, cCond x a b n c t h = kbranch (x t) (a n c t h) (b n c t h)) ∧ (∀ i a n c t h, cBlock i a n c t h = kleave i (a n c t h)) ∧
    (∀ t h k, knext (some (.normal, t, h)) k = k t h) ∧ (∀ t h k, knext (some (.ret, t, h)) k = some (.ret, t, h)) ∧ (∀ i t h k, knext (some (.exit i, t, h)) k = some (.exit i, t, h)) ∧ (∀ i t h k, knext (some (.goto i, t, h)) k = some (.goto i, t, h)) ∧
    (∀ i t h, kleave i (some (.normal, t, h)) = some (.normal, t, h)) ∧ (∀ i t h, kleave i (some (.ret, t, h)) = some (.ret, t, h)) ∧ (∀ i j t h, kleave i (some (.exit j, t, h)) = if j = i then some (.normal, t, h) else some (.exit j, t, h)) ∧ (∀ i j t h, kleave i (some (.goto j, t, h)) = some (.goto j, t, h)) ∧
    (∀ q a b, kbranch (some (.bool q)) a b = bB q a b) ∧
    (∀ d s r c m t h k, oSet d s r c m t h k = s c m t h fun v h => r v c m (setP (way d) v t) h k) ∧ (∀ s r c m t h k, oLet s r c m t h k = s c m t h fun v h => r v c m t h k) ∧ (∀ s r c m t h k, oDo s r c m t h k = s c m t h fun _ h => r c m t h k) ∧ (∀ c m t h k, oEnd c m t h k = k t h) ∧
    (∀ f c m t h k, sV f c m t h k = bO (f t) fun v => k v h) ∧ (∀ f c m t h k, sL f c m t h k = bO (f h.get t) fun v => k v h) ∧ (∀ f c m t h k, sLs f c m t h k = bO (f (getTo h m) t) fun v => k v h) ∧
    (∀ f c m t h k, sM f c m t h k = on2 (f h t) k) ∧ (∀ f xs c m t h k, sC f xs c m t h k = bO (xL xs t) fun vs => on2 (c f vs h) k) ∧
    (∀ x w s c m t h k, sG x w s c m t h k = bO (x t) fun b => bB (isB w b) (s c m t h k) (k (.tuple []) h)) ∧
    (∀ v h k, on2 (some (v, h)) k = k v h) ∧
    (∀ (v : SV) (k : SV → FR), bO (some v) k = k v) ∧ (∀ (v : SV) (k : SV → Option SV), bO (some v) k = k v) ∧ (∀ (v : List SV) (k : List SV → FR), bO (some v) k = k v) ∧ (∀ (v : List SV) (k : List SV → Option (List SV)), bO (some v) k = k v) ∧ (∀ (v : SV) (k : SV → Option (List SV)), bO (some v) k = k v) ∧
    (∀ t, xL [] t = some []) ∧ (∀ x l t, xL (x :: l) t = bO (x t) fun v => bO (xL l t) fun vs => some (v :: vs)) ∧
    (∀ w b, isB w (.bool b) = (b == w)) ∧ (∀ (a b : FR), bB true a b = a) ∧ (∀ (a b : FR), bB false a b = b) ∧ (∀ (a b : Option SV), bB true a b = a) ∧ (∀ (a b : Option SV), bB false a b = b) := by
  refine ⟨fun _ _ => rfl, fun _ _ => rfl, getP_setB, getP_leaf, fun _ _ _ _ _ _ => rfl, fun _ _ _ _ _ => rfl, fun _ _ _ _ => rfl, fun _ _ _ _ => rfl, fun _ _ _ _ _ => rfl, fun _ _ _ _ _ => rfl, fun _ _ _ _ _ _ _ => rfl, fun _ _ _ _ _ _ => rfl,
    fun _ _ _ => rfl, fun _ _ _ => rfl, fun _ _ _ _ => rfl, fun _ _ _ _ => rfl, fun _ _ _ => rfl, fun _ _ _ => rfl, fun i j t h => ?_, fun _ _ _ _ => rfl, fun q a b => rfl,
    fun _ _ _ _ _ _ _ _ => rfl, fun _ _ _ _ _ _ _ => rfl, fun _ _ _ _ _ _ _ => rfl, fun _ _ _ _ _ => rfl, fun _ _ _ _ _ _ => rfl, fun _ _ _ _ _ _ => rfl, fun _ _ _ _ _ _ => rfl, fun _ _ _ _ _ _ => rfl, fun _ _ _ _ _ _ _ => rfl,
    fun x w s c m t h k => rfl, fun _ _ _ => rfl, fun _ _ => rfl, fun _ _ => rfl, fun _ _ => rfl, fun _ _ => rfl, fun _ _ => rfl, fun _ => rfl, fun _ _ _ => rfl, fun _ _ => rfl, fun _ _ => rfl, fun _ _ => rfl, fun _ _ => rfl, fun _ _ => rfl⟩
  · show bB (Nat.beq j i) _ _ = _
    cases hb : Nat.beq j i
    · rw [if_neg (fun e => by rw [e] at hb; simp at hb)]; rfl
    · rw [if_pos (Nat.eq_of_beq_eq_true hb)]; rfl
/-- The rules of looks of which the order is open. -/
theorem ko : (∀ r c m t h k, oCap r c m t h k = r h c m t h k) ∧ (∀ gs fr f c m t h k, sLo gs fr f c m t h k = bO (f h.get t) fun v => bB (sameV f h fr t v gs) (k v h) none) ∧ (∀ f h fr t v, sameV f h fr t v [] = true) ∧
    (∀ f h fr t v g l, sameV f h fr t v (g :: l) = match f (mixTo g h fr) t with | some u => eqSV u v && sameV f h fr t v l | none => false) := by
  refine ⟨fun _ _ _ _ _ _ => rfl, fun _ _ _ _ _ _ _ _ => rfl, fun _ _ _ _ _ => rfl, fun _ _ _ _ _ _ _ => rfl⟩
theorem eqI_self (a : Int) : eqI a a = true := by rw [eqI_eq]; simp
theorem eqB_self (a : List UInt8) : eqB a a = true := by rw [eqB_eq, eqBytes_eq]; simp
theorem eqS1_int (k : IntKind) (a : Int) : eqSV (.int k a) (.int k a) = true := by
  show (sameK k k && eqI a a) = true
  rw [sameK_self, eqI_self]; rfl
theorem eqS1_str (a : List UInt8) : eqSV (.str a) (.str a) = true := eqB_self a
theorem eqS1_bool (a : Bool) : eqSV (.bool a) (.bool a) = true := by
  show (a == a) = true
  cases a <;> rfl
/-- A row that was there, and was not turned. -/
theorem mixTo_old {g h : H} {fr q : Nat} (hq : q < g.next) : mixTo g h fr q = g.get q := by unfold mixTo; rw [if_pos hq]
theorem rowCells_mix {g h : H} {fr q : Nat} (hq : q < g.next) : rowCells (mixTo g h fr) q = rowCells g.get q := by unfold rowCells; rw [mixTo_old hq]
theorem rowCells_mix_new {g h : H} {fr q : Nat} (hq : g.next ≤ q) (hf : fr ≤ q) : rowCells (mixTo g h fr) q = rowCells h.get q := by
  unfold rowCells mixTo; rw [if_neg (by omega), if_pos hf]
end
end Go.Sh
end
