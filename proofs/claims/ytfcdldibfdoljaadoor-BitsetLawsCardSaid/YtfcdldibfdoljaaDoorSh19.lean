/- General laws of the proof: a shadow machine of the form, its soundness, and a compiled form of it. -/
import Derived.Test.YtfcdldibfdoljaaDoorSh18
set_option linter.unusedVariables false
set_option linter.unusedSimpArgs false
set_option linter.unusedSectionVars false
section
/- Strict calls, and looks at what was. -/
namespace Go.Sh
theorem kz : (∀ f xs c m t h k, sCs f xs c m t h k = bO (xL xs t) fun vs => on2 (lower m h.low (c f vs ⟨h.next, m, h.tr⟩)) k) ∧
    (∀ F cap xs c m t h k, sXs (xC (.func F cap)) xs c m t h k = bO (xL xs t) fun vs => on2 (lower m h.low (c F (vs ++ cap) ⟨h.next, m, h.tr⟩)) k) := ⟨fun _ _ _ _ _ _ _ => rfl, fun _ _ _ _ _ _ _ _ => rfl⟩
theorem Fr.weak {S W : Nat → Prop} {h h' : H} (f : Fr S W h h') : Fr S (fun _ => True) h h' := f.mono (fun _ _ k => k) fun _ _ => .inl trivial
theorem strict_call {r : Option (SV × H)} {h h' : H} {v : SV} {m : Nat} {S : Nat → Prop} (e : r = some (v, h')) (f : Fr S (fun _ => False) ⟨h.next, m, h.tr⟩ h') (hm : m ≤ h.next) :
    lower m h.low r = some (v, ⟨h'.next, min h.low m, h'.tr⟩) ∧ Fr S (fun _ => True) h ⟨h'.next, min h.low m, h'.tr⟩ := by
  have hl : m ≤ h'.low := f.low m (Nat.le_refl _) hm fun _ k => k.elim
  refine ⟨?_, f.next, f.keep, fun m' _ _ h3 => ?_⟩
  · rw [e]
    show (if h'.low < m then none else _) = _
    rw [if_neg (by omega)]
  · have := h3 0 trivial
    omega
theorem getTo_lt {h : H} {m q : Nat} (hq : q < m) : getTo h m q = h.get q := by unfold getTo; rw [if_pos hq]
theorem rowCells_to {h : H} {m q : Nat} (hq : q < m) : rowCells (getTo h m) q = rowCells h.get q := by unfold rowCells; rw [getTo_lt hq]
end Go.Sh
end
