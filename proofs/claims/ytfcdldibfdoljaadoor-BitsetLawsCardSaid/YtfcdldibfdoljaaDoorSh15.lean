/- General laws of the proof: a shadow machine of the form, its soundness, and a compiled form of it. -/
import Derived.Test.YtfcdldibfdoljaaDoorSh14
set_option linter.unusedVariables false
set_option linter.unusedSimpArgs false
set_option linter.unusedSectionVars false
section
/- The compiled machine: rules for reckoning, without conditionals of propositions. -/
namespace Go.Sh
section
theorem getP_setB (a b : Nat) (v : SV) (t : T) : getP (way a) (setP (way b) v t) = bB (a == b) (some v) (getP (way a) t) := by
  rw [getP_set]
  by_cases h : a = b
  · rw [if_pos h, show (a == b) = true by simpa using h]; rfl
  · rw [if_neg h, show (a == b) = false by simpa using h]; rfl
theorem kq :
    (∀ n t, xW n t = getP (way n) t) ∧ (∀ v t, xC v t = some v) ∧
    (∀ a b v t, getP (way a) (setP (way b) v t) = bB (a == b) (some v) (getP (way a) t)) ∧ (∀ a, getP (way a) (.leaf : T) = none) ∧
    (∀ a b n c t h, cSeq a b n c t h = knext (a n c t h) (b n c)) ∧ (∀ o n c t h, cOps o n c t h = o c h.next t h fun t h => some (.normal, t, h)) ∧
    (∀ n c t h, cSkip n c t h = some (.normal, t, h)) ∧ (∀ n c t h, cRet n c t h = some (.ret, t, h)) ∧ (∀ i n c t h, cExit i n c t h = some (.exit i, t, h)) ∧ (∀ i n c t h, cGoto i n c t h = some (.goto i, t, h)) ∧
    (∀ x a b n c t h, cCond x a b n c t h = kbranch (x t) (a n c t h) (b n c t h)) ∧ (∀ i a n c t h, cBlock i a n c t h = kleave i (a n c t h)) ∧
    (∀ t h k, knext (some (.normal, t, h)) k = k t h) ∧ (∀ t h k, knext (some (.ret, t, h)) k = some (.ret, t, h)) ∧ (∀ i t h k, knext (some (.exit i, t, h)) k = some (.exit i, t, h)) ∧ (∀ i t h k, knext (some (.goto i, t, h)) k = some (.goto i, t, h)) ∧
    (∀ i t h, kleave i (some (.normal, t, h)) = some (.normal, t, h)) ∧ (∀ i t h, kleave i (some (.ret, t, h)) = some (.ret, t, h)) ∧ (∀ i j t h, kleave i (some (.exit j, t, h)) = if j = i then some (.normal, t, h) else some (.exit j, t, h)) ∧ (∀ i j t h, kleave i (some (.goto j, t, h)) = some (.goto j, t, h)) ∧
    (∀ q a b, kbranch (some (.bool q)) a b = bB q a b) ∧
    (∀ d s r c m t h k, oSet d s r c m t h k = s c m t h fun v h => r v c m (setP (way d) v t) h k) ∧ (∀ s r c m t h k, oLet s r c m t h k = s c m t h fun v h => r v c m t h k) ∧ (∀ s r c m t h k, oDo s r c m t h k = s c m t h fun _ h => r c m t h k) ∧ (∀ c m t h k, oEnd c m t h k = k t h) ∧
    (∀ f c m t h k, sV f c m t h k = bO (f t) fun v => k v h) ∧ (∀ f c m t h k, sL f c m t h k = bO (f h.get t) fun v => k v h) ∧ (∀ f c m t h k, sLs f c m t h k = bO (f (getTo h m) t) fun v => k v h) ∧
    (∀ f c m t h k, sM f c m t h k = on2 (f h t) k) ∧ (∀ f xs c m t h k, sC f xs c m t h k = bO (xL xs t) fun vs => on2 (c f vs h) k) ∧
    (∀ x w s c m t h k, sG x w s c m t h k = bO (x t) fun b => bB (isB w b) (s c m t h k) (k (.tuple []) h)) ∧
    (∀ v h k, on2 (some (v, h)) k = k v h) ∧
    (∀ (v : SV) (k : SV → FR), bO (some v) k = k v) ∧ (∀ (v : SV) (k : SV → Option SV), bO (some v) k = k v) ∧ (∀ (v : List SV) (k : List SV → FR), bO (some v) k = k v) ∧ (∀ (v : List SV) (k : List SV → Option (List SV)), bO (some v) k = k v) ∧ (∀ (v : SV) (k : SV → Option (List SV)), bO (some v) k = k v) ∧
    (∀ t, xL [] t = some []) ∧ (∀ x l t, xL (x :: l) t = bO (x t) fun v => bO (xL l t) fun vs => some (v :: vs)) ∧
    (∀ w b, isB w (.bool b) = (b == w)) ∧ (∀ (a b : FR), bB true a b = a) ∧ (∀ (a b : FR), bB false a b = b) ∧ (∀ (a b : Option SV), bB true a b = a) ∧ (∀ (a b : Option SV), bB false a b = b) := by
  refine ⟨fun _ _ => rfl, fun _ _ => rfl, getP_setB, getP_leaf, fun _ _ _ _ _ _ => rfl, fun _ _ _ _ _ => rfl, fun _ _ _ _ => rfl, fun _ _ _ _ => rfl, fun _ _ _ _ _ => rfl, fun _ _ _ _ _ => rfl, fun _ _ _ _ _ _ _ => rfl, fun _ _ _ _ _ _ => rfl,
    fun _ _ _ => rfl, fun _ _ _ => rfl, fun _ _ _ _ => rfl, fun _ _ _ _ => rfl, fun _ _ _ => rfl, fun _ _ _ => rfl, fun i j t h => ?_, fun _ _ _ _ => rfl, fun q a b => rfl,
    fun _ _ _ _ _ _ _ _ => rfl, fun _ _ _ _ _ _ _ => rfl, fun _ _ _ _ _ _ _ => rfl, fun _ _ _ _ _ => rfl, fun _ _ _ _ _ _ => rfl, fun _ _ _ _ _ _ => rfl, fun _ _ _ _ _ _ => rfl, fun _ _ _ _ _ _ => rfl, fun _ _ _ _ _ _ _ => rfl,
    fun x w s c m t h k => rfl, fun _ _ _ => rfl, fun _ _ => rfl, fun _ _ => rfl, fun _ _ => rfl, fun _ _ => rfl, fun _ _ => rfl, fun _ => rfl, fun _ _ _ => rfl, fun _ _ => rfl, fun _ _ => rfl, fun _ _ => rfl, fun _ _ => rfl, fun _ _ => rfl⟩
  · show bB (Nat.beq j i) _ _ = _
    cases hb : Nat.beq j i
    · rw [if_neg (fun e => by rw [e] at hb; simp at hb)]; rfl
    · rw [if_pos (Nat.eq_of_beq_eq_true hb)]; rfl
/-- The rules of looks of which the order is open. -/
theorem ko : (∀ r c m t h k, oCap r c m t h k = r h c m t h k) ∧ (∀ gs fr f c m t h k, sLo gs fr f c m t h k = bO (f h.get t) fun v => bB (sameV f h fr t v gs) (k v h) none) ∧ (∀ f h fr t v, sameV f h fr t v [] = true) ∧
    (∀ f h fr t v g l, sameV f h fr t v (g :: l) = match f (mixTo g h fr) t with | some u => eqSV u v && sameV f h fr t v l | none => false) := by
  refine ⟨fun _ _ _ _ _ _ => rfl, fun _ _ _ _ _ _ _ _ => rfl, fun _ _ _ _ _ => rfl, fun _ _ _ _ _ _ _ => rfl⟩
theorem eqI_self (a : Int) : eqI a a = true := by rw [eqI_eq]; simp
theorem eqB_self (a : List UInt8) : eqB a a = true := by rw [eqB_eq, eqBytes_eq]; simp
theorem eqS1_int (k : IntKind) (a : Int) : eqSV (.int k a) (.int k a) = true := by
  show (sameK k k && eqI a a) = true
  rw [sameK_self, eqI_self]; rfl
theorem eqS1_str (a : List UInt8) : eqSV (.str a) (.str a) = true := eqB_self a
theorem eqS1_bool (a : Bool) : eqSV (.bool a) (.bool a) = true := by
  show (a == a) = true
  cases a <;> rfl
/-- A row that was there, and was not turned. -/
theorem mixTo_old {g h : H} {fr q : Nat} (hq : q < g.next) : mixTo g h fr q = g.get q := by unfold mixTo; rw [if_pos hq]
theorem rowCells_mix {g h : H} {fr q : Nat} (hq : q < g.next) : rowCells (mixTo g h fr) q = rowCells g.get q := by unfold rowCells; rw [mixTo_old hq]
theorem rowCells_mix_new {g h : H} {fr q : Nat} (hq : g.next ≤ q) (hf : fr ≤ q) : rowCells (mixTo g h fr) q = rowCells h.get q := by
  unfold rowCells mixTo; rw [if_neg (by omega), if_pos hf]
end
end Go.Sh
end
section
/- The compiled machine: what each kind of value comes to, at a state; rules that simp may use beneath a rule of congruence (none is a mere unfolding). -/
namespace Go.Sh
section
theorem kb : (∀ (α β : Type) (v : α) (k : α → Option β), bO (some v) k = k v) ∧ (∀ (α : Type) (a b : α), bB true a b = a) ∧ (∀ (α : Type) (a b : α), bB false a b = b) := ⟨fun _ _ _ _ => rfl, fun _ _ _ => rfl, fun _ _ _ => rfl⟩
theorem kv :
    (∀ k x y t, vAdd k x y t = bO (x t) fun u => bO (y t) fun v => bO (asI k u) fun a => bO (asI k v) fun b => some (.int k (k.wrap (a + b)))) ∧
    (∀ k x y t, vSub k x y t = bO (x t) fun u => bO (y t) fun v => bO (asI k u) fun a => bO (asI k v) fun b => some (.int k (k.wrap (a - b)))) ∧
    (∀ k x y t, vMul k x y t = bO (x t) fun u => bO (y t) fun v => bO (asI k u) fun a => bO (asI k v) fun b => some (.int k (k.wrap (a * b)))) ∧
    (∀ k x y t, vLt k x y t = bO (x t) fun u => bO (y t) fun v => bO (asI k u) fun a => bO (asI k v) fun b => some (.bool (ltI a b))) ∧
    (∀ k x y t, vLe k x y t = bO (x t) fun u => bO (y t) fun v => bO (asI k u) fun a => bO (asI k v) fun b => some (.bool (!ltI b a))) ∧
    (∀ k x y t, vGt k x y t = bO (x t) fun u => bO (y t) fun v => bO (asI k u) fun a => bO (asI k v) fun b => some (.bool (ltI b a))) ∧
    (∀ k x y t, vGe k x y t = bO (x t) fun u => bO (y t) fun v => bO (asI k u) fun a => bO (asI k v) fun b => some (.bool (!ltI a b))) ∧
    (∀ k x y t, vEq k x y t = bO (x t) fun u => bO (y t) fun v => bO (asI k u) fun a => bO (asI k v) fun b => some (.bool (eqI a b))) ∧
    (∀ k x y t, vNe k x y t = bO (x t) fun u => bO (y t) fun v => bO (asI k u) fun a => bO (asI k v) fun b => some (.bool (!eqI a b))) ∧
    (∀ op k x y t, vAr op k x y t = bO (x t) fun u => bO (y t) fun v => bO (asI k u) fun a => bO (asI k v) fun b => bO (arithInt op k a b) fun c => some (.int k c)) ∧
    (∀ op k x y t, vSh op k x y t = bO (x t) fun u => bO (y t) fun v => bO (asI k u) fun a => bO (asInt v) fun b => bO (shiftInt op k a b) fun c => some (.int k c)) ∧
    (∀ x y t, vSEq x y t = bO (x t) fun u => bO (y t) fun v => bO (asS u) fun a => bO (asS v) fun b => some (.bool (eqB a b))) ∧
    (∀ x y t, vSNe x y t = bO (x t) fun u => bO (y t) fun v => bO (asS u) fun a => bO (asS v) fun b => some (.bool (!eqB a b))) ∧
    (∀ op x y t, vStr op x y t = bO (x t) fun u => bO (y t) fun v => bO (asS u) fun a => bO (asS v) fun b => strOp op a b) ∧
    (∀ c a b t, vPick c a b t = bO (c t) fun u => bO (asB u) fun q => bB q (a t) (b t)) ∧
    (∀ op x t, vUn op x t = bO (x t) fun u => unS op u) ∧ (∀ b, unS .not (.bool b) = some (.bool (!b))) ∧
    (∀ k x t, vToI k x t = bO (x t) fun u => bO (asInt u) fun n => some (.int k (k.wrap n))) ∧
    (∀ i x t, vExtract i x t = bO (x t) fun u => match u with
      | .tuple vs => vs[i]?
      | _ => none) ∧
    (∀ x t, vLenS x t = bO (x t) fun u => bO (asS u) fun s => some (.int .i64 s.length)) ∧ (∀ x t, vLen x t = bO (x t) fun u => bO (lenV u) fun n => some (.int .i64 n)) ∧ (lenV .nilslice = some 0) ∧ (∀ i o n s c, lenV (.slice i o n s c) = some n) ∧
    (∀ o x t, vAddr o x t = bO (x t) fun u => bO (asP u) fun p => some (.ptr p.1 (p.2 + o))) ∧
    (∀ (s : Nat) x i t, vIdx s x i t = bO (x t) fun u => bO (i t) fun j => bO (asInt j) fun n => bO (intN n) fun k => atIdx s k u) ∧ (∀ i : Nat, intN (i : Int) = some i) ∧
    (∀ x i t, vIdxS x i t = bO (x t) fun u => bO (asS u) fun (s : List UInt8) => bO (i t) fun j => bO (asInt j) fun n => bO (intN n) fun k => bO s[k]? fun b => some (.int .u8 b.toNat)) ∧
    (∀ x t, vNil x t = bO (x t) nilV) ∧ (∀ i o, nilV (.ptr i o) = some (.ptr i o)) ∧ (∀ f c, nilV (.func f c) = some (.func f c)) ∧
    (∀ (s : Nat) x lo hi mx t, vSlice s x lo hi mx t = bO (x t) fun u => bO (xL lo t) fun l => bO (xL hi t) fun h => bO (xL mx t) fun m => kslice s u l.head? h.head? m.head?) ∧
    (∀ q x y g t, lEq q x y g t = bO (x t) fun a => bO (y t) fun b => bO (keq g q a b) fun c => some (.bool c)) ∧ (∀ q x y g t, lNe q x y g t = bO (x t) fun a => bO (y t) fun b => bO (keq g q a b) fun c => some (.bool (!c))) ∧
    (∀ g (s : Bool), keq g (.ptr s) .nilptr .nilptr = some true) ∧ (∀ g (s : Bool) a o, keq g (.ptr s) (.ptr a o) .nilptr = some false) ∧ (∀ g (s : Bool) a o, keq g (.ptr s) .nilptr (.ptr a o) = some false) ∧ (∀ g a b, keq g .bool (.bool a) (.bool b) = some (a == b)) ∧
    (∀ g, keq g .slice .nilslice .nilslice = some true) ∧ (∀ g i o n s c, keq g .slice (.slice i o n s c) .nilslice = some false) ∧
    (∀ x g t, lToStr x g t = bO (x t) (strOf g)) ∧ (∀ g, strOf g .nilslice = some (.str [])) ∧
    (∀ x c m t h K, sN (aBox x) c m t h K = bO (x t) fun u => bO u.cells? fun cs => K (.ptr h.next 0) (h.push (.cells cs .fixed))) ∧
    (∀ z c m t h K, sN (aAlloc z) c m t h K = K (.ptr h.next 0) (h.push (.cells z .fixed))) := by
  have w := @wrapS_eq
  refine ⟨fun k x y t => ?_, fun k x y t => ?_, fun k x y t => ?_, fun _ _ _ _ => rfl, fun _ _ _ _ => rfl, fun _ _ _ _ => rfl, fun _ _ _ _ => rfl, fun _ _ _ _ => rfl, fun _ _ _ _ => rfl, fun _ _ _ _ _ => rfl, fun _ _ _ _ _ => rfl, fun _ _ _ => rfl, fun _ _ _ => rfl, fun _ _ _ _ => rfl, fun _ _ _ _ => rfl, fun _ _ _ => rfl, fun _ => rfl, fun k x t => ?_, fun _ _ _ => rfl,
    fun _ _ => rfl, fun _ _ => rfl, rfl, fun _ _ _ _ _ => rfl, fun _ _ _ => rfl, fun _ _ _ _ => rfl, fun _ => rfl, fun _ _ _ => rfl, fun _ _ => rfl, fun _ _ => rfl, fun _ _ => rfl, fun _ _ _ _ _ _ => rfl, fun _ _ _ _ _ => rfl, fun _ _ _ _ _ => rfl, fun _ _ => rfl, fun _ _ _ _ => rfl, fun _ _ _ _ => rfl, fun _ _ _ => rfl,
    fun _ => rfl, fun _ _ _ _ _ _ => rfl, fun _ _ _ => rfl, fun _ => rfl, fun x c m t h K => ?_, fun _ _ _ _ _ _ => rfl⟩
  · show (bO (x t) fun u => bO (y t) fun v => bO (asI k u) fun a => bO (asI k v) fun b => some (SV.int k (wrapS k (a + b)))) = _
    simp only [w]
  · show (bO (x t) fun u => bO (y t) fun v => bO (asI k u) fun a => bO (asI k v) fun b => some (SV.int k (wrapS k (a - b)))) = _
    simp only [w]
  · show (bO (x t) fun u => bO (y t) fun v => bO (asI k u) fun a => bO (asI k v) fun b => some (SV.int k (wrapS k (a * b)))) = _
    simp only [w]
  · show (bO (x t) fun u => bO (asInt u) fun n => some (SV.int k (wrapS k n))) = _
    simp only [w]
  · show bO (bO (x t) fun u => bO u.cells? fun cs => some (NR.new (.cells cs .fixed) (SV.ptr · 0))) _ = _
    cases x t with
    | none => rfl
    | some u =>
      show bO (bO u.cells? _) _ = bO u.cells? _
      cases u.cells? with
      | none => rfl
      | some cs => rfl
end
end Go.Sh
end
