/- General laws of the proof: a shadow machine of the form, its soundness, and a compiled form of it. -/
import Derived.Test.YtfcdldibfdoljaaDoorSh17
set_option linter.unusedVariables false
set_option linter.unusedSimpArgs false
set_option linter.unusedSectionVars false
section
/- Rows that grow and are written: insertion, sorting. -/
namespace Go.Sh
/-- What a row grew out of, all of it at or above `lo`. -/
inductive Chn (h : H) (lo : Nat) : Nat → Option Nat → Prop
  | none {id : Nat} : Chn h lo id none
  | dead {id p : Nat} {cs : List SV} (a : p < id) (b : lo ≤ p) (e : h.get p = some (.cells cs .dead)) : Chn h lo id (some p)
  | step {id p : Nat} {cs : List SV} {par : Option Nat} (a : p < id) (b : lo ≤ p) (e : h.get p = some (.cells cs (.stale par))) (c : Chn h lo p par) : Chn h lo id (some p)
theorem Chn.keep {h h' : H} {lo id : Nat} {par : Option Nat} (c : Chn h lo id par) (k : ∀ q, lo ≤ q → q < id → q < h.next → h'.get q = h.get q) : Chn h' lo id par := by
  induction c with
  | none => exact .none
  | dead a b e => exact .dead a b (by rw [k _ b a (H.get_lt e)]; exact e)
  | step a b e c ih => exact .step a b (by rw [k _ b a (H.get_lt e)]; exact e) (ih fun q h1 h2 h3 => k q h1 (by omega) h3)
theorem Chn.kill {h : H} {lo id : Nat} {par : Option Nat} (c : Chn h lo id par) : ∀ f, id ≤ f → ∃ h', killUp (f + 1) h par = some h' ∧ Fr (fun q => lo ≤ q ∧ q < id) (fun q => lo ≤ q ∧ q < id) h h' := by
  suffices ∀ id par, Chn h lo id par → ∀ (g : H), (∀ q, lo ≤ q → q < id → q < h.next → g.get q = h.get q) → ∀ f, id ≤ f → ∃ h', killUp (f + 1) g par = some h' ∧ Fr (fun q => lo ≤ q ∧ q < id) (fun q => lo ≤ q ∧ q < id) g h' from this id par c h fun _ _ _ _ => rfl
  intro id par c
  induction c with
  | none => exact fun g _ f _ => ⟨g, rfl, .refl⟩
  | @dead id p cs a b e =>
    intro g k f hf
    have e := (k p b a (H.get_lt e)).trans e
    exact ⟨g, by simp [killUp, e], .refl⟩
  | @step id p cs par a b e c ih =>
    intro g k f hf
    have e := (k p b a (H.get_lt e)).trans e
    have hp := H.get_lt e
    obtain ⟨f, rfl⟩ : ∃ m, f = m + 1 := ⟨f - 1, by omega⟩
    obtain ⟨h', h1, h2⟩ := ih (g.put p (.cells [] .dead)) (fun q q1 q2 q3 => by
      rw [H.get_put _ _ _ _ hp, if_neg (by omega)]; exact k q q1 (by omega) q3) f (by omega)
    refine ⟨h', by rw [killUp]; simp only [e]; exact h1, ?_⟩
    exact (Fr.put (o := .cells [] .dead) hp |>.mono (fun q _ e => by subst e; exact ⟨b, a⟩) fun q e => .inl (by subst e; exact ⟨b, a⟩)).trans (h2.mono (fun q _ e => ⟨e.1, by omega⟩) fun q e => .inl ⟨e.1, by omega⟩)
/-- A row that grows and may be written: all of it stands at or above `lo`. -/
def Gro (h : H) (lo es : Nat) (v : SV) (n : Nat) (cs : List SV) : Prop := cs.length = n * es ∧ ((v = .nilslice ∧ n = 0) ∨ ∃ id par, v = .slice id 0 n es none ∧ lo ≤ id ∧ h.get id = some (.cells cs (.grown par)) ∧ Chn h lo id par)
theorem Gro.nil {h : H} {lo es : Nat} : Gro h lo es .nilslice 0 [] := ⟨by simp, .inl ⟨rfl, rfl⟩⟩
theorem Gro.buf {h : H} {lo es n : Nat} {v : SV} {cs : List SV} (g : Gro h lo es v n cs) : Buf h es v n cs := by
  obtain ⟨h1, h2 | ⟨id, par, h2, _, h3, _⟩⟩ := g
  · exact ⟨h1, .inl h2⟩
  · exact ⟨h1, .inr ⟨id, par, h2, h3⟩⟩
theorem Gro.row {h : H} {lo es n : Nat} {v : SV} {cs : List SV} (g : Gro h lo es v n cs) : ∀ q, isRow v q → lo ≤ q := fun q hq => by
  obtain ⟨_, ⟨rfl, _⟩ | ⟨id, par, rfl, h2, _⟩⟩ := g
  · exact hq.elim
  · rw [show q = id from hq]; exact h2
theorem Buf.view' {h : H} {es n : Nat} {v : SV} {cs : List SV} (b : Buf h es v n cs) : View h es v n cs := by
  obtain ⟨h1, h2 | ⟨id, par, rfl, h3⟩⟩ := b
  · exact ⟨h1, .inl h2⟩
  · refine ⟨h1, .inr ⟨id, 0, none, cs, rfl, by unfold rowCells; rw [h3], ?_, fun c q => by cases q⟩⟩
    unfold takeCells
    rw [if_pos (by omega), List.drop_zero, ← h1, List.take_length]
theorem Gro.view {h : H} {lo es n : Nat} {v : SV} {cs : List SV} (g : Gro h lo es v n cs) : View h es v n cs := g.buf.view'
theorem Gro.keep {h h' : H} {lo es n : Nat} {v : SV} {cs : List SV} {S W : Nat → Prop} (g : Gro h lo es v n cs) (f : Fr S W h h') (hn : ∀ q, lo ≤ q → ¬ S q) : Gro h' lo es v n cs := by
  obtain ⟨h1, h2 | ⟨id, par, h2, h3, h4, h5⟩⟩ := g
  · exact ⟨h1, .inl h2⟩
  · exact ⟨h1, .inr ⟨id, par, h2, h3, f.get h4 (hn id h3), h5.keep fun q q1 _ q2 => f.keep q q2 (hn q q1)⟩⟩
theorem Gro.append {h : H} {lo bytes es n : Nat} {v : SV} {cs : List SV} (g : Gro h lo es v n cs) (k : Nat) (new : List SV) (hk : new.length = k * es) (hmax : (n + k) * (bytes + es + 1) ≤ 1099511627776) (hlo : lo ≤ h.next) :
    ∃ v' h', kappend h bytes es k new v = some (v', h') ∧ Gro h' lo es v' (n + k) (cs ++ new) ∧ Fr (lo ≤ ·) (fun _ => False) h h' := by
  obtain ⟨h1, ⟨rfl, rfl⟩ | ⟨id, par, rfl, h2, h3, h4⟩⟩ := g
  · have hc : cs = [] := List.eq_nil_of_length_eq_zero (by simpa using h1)
    subst hc
    by_cases k0 : k = 0
    · subst k0
      have hn : new = [] := List.eq_nil_of_length_eq_zero (by simpa using hk)
      subst hn
      exact ⟨.nilslice, h, rfl, .nil, .refl⟩
    · have e1 : Nat.beq k 0 = false := by cases k with | zero => exact absurd rfl k0 | succ k => rfl
      have e2 : Nat.ble (k * (bytes + es + 1)) 1099511627776 = true := Nat.ble_eq_true_of_le (by simpa using hmax)
      refine ⟨.slice h.next 0 k es none, h.push (.cells new (.grown none)), ?_, ⟨by simp [hk], .inr ⟨h.next, none, by simp, hlo, by rw [H.get_push, if_pos rfl]; simp, .none⟩⟩, .push⟩
      show bB (Nat.beq k 0) _ (bB (Nat.ble _ _) _ _) = _
      rw [e1, e2]; rfl
  · have hid := H.get_lt h3
    have e2 : (Nat.ble ((n + k) * (bytes + es + 1)) 1099511627776 && Nat.beq es es) = true := by
      rw [Nat.ble_eq_true_of_le hmax]; simp
    by_cases k0 : k = 0
    · subst k0
      have hn : new = [] := List.eq_nil_of_length_eq_zero (by simpa using hk)
      subst hn
      refine ⟨.slice id 0 n es none, h, ?_, ⟨by simpa using h1, .inr ⟨id, par, rfl, h2, by simpa using h3, h4⟩⟩, .refl⟩
      show bB _ _ _ = _
      rw [e2]; rfl
    · have e1 : Nat.beq k 0 = false := by cases k with | zero => exact absurd rfl k0 | succ k => rfl
      refine ⟨.slice h.next 0 (n + k) es none, (h.mark id (.cells cs (.stale par))).push (.cells (cs ++ new) (.grown (some id))), ?_, ⟨by rw [List.length_append, h1, hk, Nat.add_mul], .inr ⟨h.next, some id, rfl, hlo, by rw [H.get_push, H.next_mark, if_pos rfl], .step (cs := cs) (par := par) hid h2 ?_ ?_⟩⟩, ?_⟩
      · show bB _ (bB (Nat.beq k 0) _ (growRow h id 0 n es k new)) _ = _
        rw [e2, e1]
        show growRow h id 0 n es k new = _
        unfold growRow
        simp only [h3, Nat.zero_add, h1, if_pos, List.drop_zero]
      · rw [H.get_push, H.next_mark, if_neg (Nat.ne_of_lt hid), H.get_mark _ _ _ _ hid, if_pos rfl]
      · exact h4.keep fun q q1 q2 q3 => by rw [H.get_push, H.next_mark, if_neg (Nat.ne_of_lt q3), H.get_mark _ _ _ _ hid, if_neg (by omega)]
      · exact ((Fr.mark hid).mono (fun q _ e => by subst e; exact h2) (fun q e => .inl e)).trans Fr.push
theorem Gro.store {h : H} {lo n : Nat} {v : SV} {cs : List SV} (g : Gro h lo 1 v n cs) {i : Nat} (hi : i < n) {x : SV} (hx : x.cells? = some [x]) :
    ∃ p h', atIdx 1 i v = some p ∧ storeV 1 h p x = some (.tuple [], h') ∧ Gro h' lo 1 v n (cs.set i x) ∧ Fr (lo ≤ ·) (lo ≤ ·) h h' := by
  obtain ⟨h1, ⟨rfl, rfl⟩ | ⟨id, par, rfl, h2, h3, h4⟩⟩ := g
  · omega
  · obtain ⟨h', k1, k2⟩ := h4.kill id (Nat.le_refl _)
    have e := k2.get h3 (by simp)
    refine ⟨.ptr id i, h'.put id (.cells (cs.set i x) (.grown none)), ?_, ?_, ⟨by simpa using h1, .inr ⟨id, none, rfl, h2, get_put_self e, .none⟩⟩, ?_⟩
    · show bB (Nat.blt i n) (some (SV.ptr id (0 + i * 1))) none = _
      rw [show Nat.blt i n = true from Nat.ble_eq_true_of_le hi, Nat.zero_add, Nat.mul_one]; rfl
    · have hl : layX [x] i cs = some (cs.set i x) := by rw [layX_one, if_pos (by omega)]
      have hs : storeX h id i [x] = some (h'.put id (.cells (cs.set i x) (.grown none))) := by
        unfold storeX
        rw [h3]
        simp only [hl, bO]
        rw [show Nat.succ id = id + 1 from rfl, k1]
      show bO x.cells? (fun vs => bB (hasLen 1 vs) (bO (storeX h id i vs) fun h => some (SV.tuple [], h)) none) = _
      rw [hx]
      show bO (storeX h id i [x]) _ = _
      rw [hs]; rfl
    · exact (k2.mono (fun q _ e => e.1) fun q e => .inl e.1).trans ((Fr.put (H.get_lt e)).mono (fun q _ e => by subst e; exact h2) fun q e => .inl (by subst e; exact h2))
end Go.Sh
end
