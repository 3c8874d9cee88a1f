/- Bytes: the document's own texts. -/
import Derived.Test.YtfcdldibfdoljaaTyH
set_option linter.unusedVariables false
set_option linter.unusedSimpArgs false
set_option linter.unusedSectionVars false
namespace Go.Proofs
open Go.Sh
set_option linter.unusedVariables false
attribute [local instance] heldNone
noncomputable section
/-- Appending to a full row. -/
theorem full_append {h : H} {id n bytes : Nat} {cs : List SV} (hg : h.get id = some (.cells cs .fixed)) (hl : cs.length = n) (k : Nat) (new : List SV) (hk : new.length = k) (hmax : (n + k) * (bytes + 2) ≤ 1099511627776) :
    ∃ v' h', kappend h bytes 1 k new (.slice id 0 n 1 (some n)) = some (v', h') ∧ View h' 1 v' (n + k) (cs ++ new) ∧ Fr (fun _ => False) (fun _ => False) h h' ∧ (∀ q, isRow v' q → q = id ∨ h.next ≤ q) := by
  have hrow : rowCells h.get id = some cs := by unfold rowCells; rw [hg]
  have e2 : (Nat.ble ((n + k) * (bytes + 1 + 1)) 1099511627776 && Nat.beq 1 1) = true := by
    rw [Nat.ble_eq_true_of_le hmax]; rfl
  have e : kappend h bytes 1 k new (.slice id 0 n 1 (some n)) = appendKnown h id 0 n 1 n k new := by
    show bB _ _ none = _
    rw [e2]; rfl
  rw [e]
  by_cases k0 : k = 0
  · subst k0
    have hn : new = [] := List.eq_nil_of_length_eq_zero hk
    subst hn
    refine ⟨.slice id 0 n 1 (some n), h, by unfold appendKnown; rw [if_pos (by omega)]; rfl, ⟨by simp [hl], .inr ⟨id, 0, some n, cs, rfl, hrow, ?_, fun c q => by cases q; omega⟩⟩, .refl, fun q hq => .inl hq⟩
    unfold takeCells
    rw [if_pos (by omega), List.drop_zero, List.append_nil, List.take_of_length_le (by omega)]
  · refine ⟨.slice h.next 0 (n + k) 1 none, h.push (.cells (cs ++ new) (.grown none)), ?_, ⟨by simp [hl, hk], .inr ⟨h.next, 0, none, cs ++ new, rfl, by unfold rowCells; rw [H.get_push, if_pos rfl], ?_, fun c q => by cases q⟩⟩, .push, fun q hq => .inr (by rw [show q = h.next from hq]; exact Nat.le_refl _)⟩
    · unfold appendKnown
      rw [if_neg (by omega), hrow]
      have : takeCells cs 0 (n * 1) = some cs := by
        unfold takeCells
        rw [if_pos (by omega), List.drop_zero, List.take_of_length_le (by omega)]
      simp only [this]
    · unfold takeCells
      rw [if_pos (by simp [hl, hk]), List.drop_zero, List.take_of_length_le (by simp [hl, hk])]
theorem Try.text (s : List UInt8) (h : H) (hmax : (2 + s.length) * 3 ≤ 1099511627776) : ∃ v h', Try.lc 30 [.str s] h = some (v, h') ∧ View h' 1 v (2 + s.length) (be 2 s.length ++ u8s s) ∧ Fr (fun _ => False) (fun _ => False) h h' ∧ (∀ q, isRow v q → h.next ≤ q) := by
  obtain ⟨h1, k1, k2, k3⟩ := Try.u (s.length : Int) 2 (by omega) h
  have k1 : Try.lc 29 [.int .i64 s.length, .int .i64 2] h = some (.slice h.next 0 2 1 (some 2), h1) := k1
  obtain ⟨v, h2, a1, a2, a3, a4⟩ := full_append (bytes := 1) k2 (be_length 2 _) s.length (u8s s) (by simp [u8s]) (by omega)
  refine ⟨v, h2, Try.en (n := 1) (kf := Try.k30) (by kernel_rfl) ?_, a2, k3.trans a3, fun q hq => ?_⟩
  · rw [Try.k30_eq, enter_eq]
    simp [argsP, kr, bO_mk, kx, vLenS, k1, append_str a1, kfin, kresL, kres, oneS]
  · rcases a4 q hq with k | k
    · omega
    · exact Nat.le_trans k3.next k
end
end Go.Proofs
