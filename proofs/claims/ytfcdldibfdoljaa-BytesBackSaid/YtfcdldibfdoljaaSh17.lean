/- General laws of the proof: a shadow machine of the form, its soundness, and a compiled form of it. -/
import Derived.Test.YtfcdldibfdoljaaSh15
set_option linter.unusedVariables false
set_option linter.unusedSimpArgs false
set_option linter.unusedSectionVars false
section
/- The compiled machine: what each kind of value comes to, at a state; rules that simp may use beneath a rule of congruence (none is a mere unfolding). -/
namespace Go.Sh
section
theorem kb : (∀ (α β : Type) (v : α) (k : α → Option β), bO (some v) k = k v) ∧ (∀ (α : Type) (a b : α), bB true a b = a) ∧ (∀ (α : Type) (a b : α), bB false a b = b) := ⟨fun _ _ _ _ => rfl, fun _ _ _ => rfl, fun _ _ _ => rfl⟩
theorem kv :
    (∀ k x y t, vAdd k x y t = bO (x t) fun u => bO (y t) fun v => bO (asI k u) fun a => bO (asI k v) fun b => some (.int k (k.wrap (a + b)))) ∧
    (∀ k x y t, vSub k x y t = bO (x t) fun u => bO (y t) fun v => bO (asI k u) fun a => bO (asI k v) fun b => some (.int k (k.wrap (a - b)))) ∧
    (∀ k x y t, vMul k x y t = bO (x t) fun u => bO (y t) fun v => bO (asI k u) fun a => bO (asI k v) fun b => some (.int k (k.wrap (a * b)))) ∧
    (∀ k x y t, vLt k x y t = bO (x t) fun u => bO (y t) fun v => bO (asI k u) fun a => bO (asI k v) fun b => some (.bool (ltI a b))) ∧
    (∀ k x y t, vLe k x y t = bO (x t) fun u => bO (y t) fun v => bO (asI k u) fun a => bO (asI k v) fun b => some (.bool (!ltI b a))) ∧
    (∀ k x y t, vGt k x y t = bO (x t) fun u => bO (y t) fun v => bO (asI k u) fun a => bO (asI k v) fun b => some (.bool (ltI b a))) ∧
    (∀ k x y t, vGe k x y t = bO (x t) fun u => bO (y t) fun v => bO (asI k u) fun a => bO (asI k v) fun b => some (.bool (!ltI a b))) ∧
    (∀ k x y t, vEq k x y t = bO (x t) fun u => bO (y t) fun v => bO (asI k u) fun a => bO (asI k v) fun b => some (.bool (eqI a b))) ∧
    (∀ k x y t, vNe k x y t = bO (x t) fun u => bO (y t) fun v => bO (asI k u) fun a => bO (asI k v) fun b => some (.bool (!eqI a b))) ∧
    (∀ op k x y t, vAr op k x y t = bO (x t) fun u => bO (y t) fun v => bO (asI k u) fun a => bO (asI k v) fun b => bO (arithInt op k a b) fun c => some (.int k c)) ∧
    (∀ op k x y t, vSh op k x y t = bO (x t) fun u => bO (y t) fun v => bO (asI k u) fun a => bO (asInt v) fun b => bO (shiftInt op k a b) fun c => some (.int k c)) ∧
    (∀ x y t, vSEq x y t = bO (x t) fun u => bO (y t) fun v => bO (asS u) fun a => bO (asS v) fun b => some (.bool (eqB a b))) ∧
    (∀ x y t, vSNe x y t = bO (x t) fun u => bO (y t) fun v => bO (asS u) fun a => bO (asS v) fun b => some (.bool (!eqB a b))) ∧
    (∀ op x y t, vStr op x y t = bO (x t) fun u => bO (y t) fun v => bO (asS u) fun a => bO (asS v) fun b => strOp op a b) ∧
    (∀ c a b t, vPick c a b t = bO (c t) fun u => bO (asB u) fun q => bB q (a t) (b t)) ∧
    (∀ op x t, vUn op x t = bO (x t) fun u => unS op u) ∧ (∀ b, unS .not (.bool b) = some (.bool (!b))) ∧
    (∀ k x t, vToI k x t = bO (x t) fun u => bO (asInt u) fun n => some (.int k (k.wrap n))) ∧
    (∀ i x t, vExtract i x t = bO (x t) fun u => match u with
      | .tuple vs => vs[i]?
      | _ => none) ∧
    (∀ x t, vLenS x t = bO (x t) fun u => bO (asS u) fun s => some (.int .i64 s.length)) ∧ (∀ x t, vLen x t = bO (x t) fun u => bO (lenV u) fun n => some (.int .i64 n)) ∧ (lenV .nilslice = some 0) ∧ (∀ i o n s c, lenV (.slice i o n s c) = some n) ∧
    (∀ o x t, vAddr o x t = bO (x t) fun u => bO (asP u) fun p => some (.ptr p.1 (p.2 + o))) ∧
    (∀ (s : Nat) x i t, vIdx s x i t = bO (x t) fun u => bO (i t) fun j => bO (asInt j) fun n => bO (intN n) fun k => atIdx s k u) ∧ (∀ i : Nat, intN (i : Int) = some i) ∧
    (∀ x i t, vIdxS x i t = bO (x t) fun u => bO (asS u) fun (s : List UInt8) => bO (i t) fun j => bO (asInt j) fun n => bO (intN n) fun k => bO s[k]? fun b => some (.int .u8 b.toNat)) ∧
    (∀ x t, vNil x t = bO (x t) nilV) ∧ (∀ i o, nilV (.ptr i o) = some (.ptr i o)) ∧ (∀ f c, nilV (.func f c) = some (.func f c)) ∧
    (∀ (s : Nat) x lo hi mx t, vSlice s x lo hi mx t = bO (x t) fun u => bO (xL lo t) fun l => bO (xL hi t) fun h => bO (xL mx t) fun m => kslice s u l.head? h.head? m.head?) ∧
    (∀ q x y g t, lEq q x y g t = bO (x t) fun a => bO (y t) fun b => bO (keq g q a b) fun c => some (.bool c)) ∧ (∀ q x y g t, lNe q x y g t = bO (x t) fun a => bO (y t) fun b => bO (keq g q a b) fun c => some (.bool (!c))) ∧
    (∀ g (s : Bool), keq g (.ptr s) .nilptr .nilptr = some true) ∧ (∀ g (s : Bool) a o, keq g (.ptr s) (.ptr a o) .nilptr = some false) ∧ (∀ g (s : Bool) a o, keq g (.ptr s) .nilptr (.ptr a o) = some false) ∧ (∀ g a b, keq g .bool (.bool a) (.bool b) = some (a == b)) ∧
    (∀ g, keq g .slice .nilslice .nilslice = some true) ∧ (∀ g i o n s c, keq g .slice (.slice i o n s c) .nilslice = some false) ∧
    (∀ x g t, lToStr x g t = bO (x t) (strOf g)) ∧ (∀ g, strOf g .nilslice = some (.str [])) ∧
    (∀ x c m t h K, sN (aBox x) c m t h K = bO (x t) fun u => bO u.cells? fun cs => K (.ptr h.next 0) (h.push (.cells cs .fixed))) ∧
    (∀ z c m t h K, sN (aAlloc z) c m t h K = K (.ptr h.next 0) (h.push (.cells z .fixed))) := by
  have w := @wrapS_eq
  refine ⟨fun k x y t => ?_, fun k x y t => ?_, fun k x y t => ?_, fun _ _ _ _ => rfl, fun _ _ _ _ => rfl, fun _ _ _ _ => rfl, fun _ _ _ _ => rfl, fun _ _ _ _ => rfl, fun _ _ _ _ => rfl, fun _ _ _ _ _ => rfl, fun _ _ _ _ _ => rfl, fun _ _ _ => rfl, fun _ _ _ => rfl, fun _ _ _ _ => rfl, fun _ _ _ _ => rfl, fun _ _ _ => rfl, fun _ => rfl, fun k x t => ?_, fun _ _ _ => rfl,
    fun _ _ => rfl, fun _ _ => rfl, rfl, fun _ _ _ _ _ => rfl, fun _ _ _ => rfl, fun _ _ _ _ => rfl, fun _ => rfl, fun _ _ _ => rfl, fun _ _ => rfl, fun _ _ => rfl, fun _ _ => rfl, fun _ _ _ _ _ _ => rfl, fun _ _ _ _ _ => rfl, fun _ _ _ _ _ => rfl, fun _ _ => rfl, fun _ _ _ _ => rfl, fun _ _ _ _ => rfl, fun _ _ _ => rfl,
    fun _ => rfl, fun _ _ _ _ _ _ => rfl, fun _ _ _ => rfl, fun _ => rfl, fun x c m t h K => ?_, fun _ _ _ _ _ _ => rfl⟩
  · show (bO (x t) fun u => bO (y t) fun v => bO (asI k u) fun a => bO (asI k v) fun b => some (SV.int k (wrapS k (a + b)))) = _
    simp only [w]
  · show (bO (x t) fun u => bO (y t) fun v => bO (asI k u) fun a => bO (asI k v) fun b => some (SV.int k (wrapS k (a - b)))) = _
    simp only [w]
  · show (bO (x t) fun u => bO (y t) fun v => bO (asI k u) fun a => bO (asI k v) fun b => some (SV.int k (wrapS k (a * b)))) = _
    simp only [w]
  · show (bO (x t) fun u => bO (asInt u) fun n => some (SV.int k (wrapS k n))) = _
    simp only [w]
  · show bO (bO (x t) fun u => bO u.cells? fun cs => some (NR.new (.cells cs .fixed) (SV.ptr · 0))) _ = _
    cases x t with
    | none => rfl
    | some u =>
      show bO (bO u.cells? _) _ = bO u.cells? _
      cases u.cells? with
      | none => rfl
      | some cs => rfl
end
end Go.Sh
end
