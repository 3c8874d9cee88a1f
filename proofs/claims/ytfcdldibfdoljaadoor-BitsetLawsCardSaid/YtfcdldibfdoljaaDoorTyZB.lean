/- Bitset: words. -/
import Derived.Test.YtfcdldibfdoljaaDoorTyZA
import Derived.Test.YtfcdldibfdoljaaDoorSh17
set_option linter.unusedVariables false
set_option linter.unusedSimpArgs false
set_option linter.unusedSectionVars false
namespace Go.Proofs
open Go.Sh
set_option linter.unusedVariables false
attribute [local instance] tabHeld
noncomputable section
def u64s (ws : List Nat) : List SV := ws.map fun (w : Nat) => SV.int .u64 (w : Int)
def wd (ws : List Nat) (i : Nat) : Nat := ws.getD i 0
theorem Fr.new {h h1 h2 : H} (f1 : Fr (fun _ => False) (fun _ => False) h h1) {S W : Nat → Prop} (f2 : Fr S W h1 h2) (hs : ∀ q, S q → h.next ≤ q) (hw : ∀ q, W q → h.next ≤ q) : Fr (fun _ => False) (fun _ => False) h h2 :=
  ((f1.mono (S' := S) (W' := W) (fun _ _ k => k.elim) (fun _ k => k.elim)).trans f2).mono (fun q hq e => by have := hs q e; omega) (fun q e => .inr (hw q e))
theorem kc : (∀ t h p s, kres t h (.cell p s) = bO (getP p t) (loadV s h.get)) ∧ (∀ t h p, kres t h (.tmp p) = getP p t) ∧ (∀ t h, kresL t h [] = some []) ∧ (∀ t h r l, kresL t h (r :: l) = bO (kres t h r) fun v => bO (kresL t h l) fun vs => some (v :: vs)) := ⟨fun _ _ _ _ => rfl, fun _ _ _ => rfl, fun _ _ => rfl, fun _ _ _ _ => rfl⟩
theorem u64s_len (ws : List Nat) : (u64s ws).length = ws.length := by simp [u64s]
theorem u64s_get (ws : List Nat) (i : Nat) (h : i < ws.length) : (u64s ws)[i]? = some (.int .u64 ((wd ws i : Nat) : Int)) := by
  simp [u64s, wd, List.getElem?_eq_getElem h]
theorem u64s_take (ws : List Nat) (i : Nat) : u64s (ws.take i) = (u64s ws).take i := by simp [u64s, List.map_take]
/-- what stands ahead of the zeros at the end -/
def trimN (ws : List Nat) : Nat → List Nat
  | 0 => []
  | n + 1 => if wd ws n = 0 then trimN ws n else ws.take (n + 1)
def Tryd.s28 : Cd := (cSeq cSkip
 (cSeq (cSeq (cOps (oLet (sV ((xW 0))) fun v4 => oLet (sV (vLen (xC v4))) fun v5 => oSet 3 (sV ((xC v5))) fun v3 => oEnd))
 (cSeq (cOps (oLet (sV ((xW 3))) fun v6 => oLet (sV (vGt .i64 (xC v6) (xC (.int .i64 0)))) fun v7 => oLet (sG (xC v7) true (sV ((xW 0)))) fun v9 => oLet (sG (xC v7) true (sV ((xC v6)))) fun v10 => oLet (sG (xC v7) true (sV (vSub .i64 (xC v10) (xC (.int .i64 1))))) fun v11 => oLet (sG (xC v7) true (sV (vIdx 1 (xC v9) (xC v11)))) fun v12 => oLet (sG (xC v7) true (sL (lLoad none (xC v12)))) fun v13 => oLet (sG (xC v7) true (sV (vEq .u64 (xC v13) (xC (.int .u64 0))))) fun v14 => oSet 15 (sV (vPick (xC v7) (xC v14) (xC (.bool false)))) fun v15 => oEnd))
 (cCond (xW 15) (cSeq (cOps (oLet (sV ((xW 0))) fun v16 => oLet (sV ((xW 3))) fun v17 => oLet (sV (vSub .i64 (xC v17) (xC (.int .i64 1)))) fun v18 => oLet (sV (vSlice 1 (xC v16) [] [(xC v18)] [])) fun v19 => oSet 0 (sV ((xC v19))) fun v0 => oEnd))
 (cGoto 0))
 cSkip)))
 (cSeq (cOps (oLet (sV ((xW 0))) fun v20 => oLet (sV (vCat [1] [(xC v20)])) fun v21 => oDo (sM (tStore 1 (xW 2) (xC v21))) (oEnd)))
 cRet)))
theorem Tryd.k28_s : Tryd.k28 = ⟨[(way 0)], (cSeq (cOps (oSet 2 (sN (aAlloc [.nilslice])) fun v2 => oEnd))
 (cScope Tryd.s28 [(0, Tryd.s28)])), [.cell (way 2) (some 1)]⟩ := rfl

theorem Tryd.trim_loop {h : H} {p : Nat} {a : SV} (hp : h.get p = some (.cells [a] .fixed)) (ws : List Nat) (hws : ws.length < 9223372036854775808) (c : CF) : ∀ (m k : Nat) (v : SV) (t : T), m ≤ ws.length → m < k → View h 1 v m (u64s (ws.take m)) → getP (way 0) t = some v → getP (way 2) t = some (.ptr p 0) →
    Gets (cScope Tryd.s28 [(0, Tryd.s28)] k c t h) fun fl t' h' => fl = .ret ∧ getP (way 2) t' = some (.ptr p 0) ∧ ∃ v', h' = h.put p (.cells [v'] .fixed) ∧ View h 1 v' (trimN ws m).length (u64s (trimN ws m)) ∧ ∀ q, isRow v' q → isRow v q := by
  intro m
  induction m with
  | zero =>
    intro k v t hm hk w t0 t2
    obtain ⟨k, rfl⟩ : ∃ m, k = m + 1 := ⟨k - 1, by omega⟩
    rw [scope_succ]
    generalize (fun l t h => match behind [(0, Tryd.s28)] l with
      | some b => cScope b [(0, Tryd.s28)] k c t h
      | none => none) = L
    unfold Tryd.s28
    have e1 : ltI 0 0 = false := rfl
    have hl : lenV v = some 0 := w.length
    simp [↓ kq, kq, ↓ ko, ko, kb, kv, kt, kx, kj, t0, t2, hl, e1, w.cat, storeV_agg (b := v) hp, gets_some, -bO_of, -bB_true, -bB_false, -Int.natCast_add]
    exact ⟨v, rfl, w, fun q hq => hq⟩
  | succ m ih =>
    intro k v t hm hk w t0 t2
    obtain ⟨k, rfl⟩ : ∃ m, k = m + 1 := ⟨k - 1, by omega⟩
    rw [scope_succ]
    generalize hL : (fun l t h => match behind [(0, Tryd.s28)] l with
      | some b => cScope b [(0, Tryd.s28)] k c t h
      | none => none) = L
    unfold Tryd.s28
    have e1 : ltI 0 ((m + 1 : Nat) : Int) = true := by rw [ltI_eq]; simp
    have e2 : IntKind.i64.wrap (((m + 1 : Nat) : Int) - 1) = ((m : Nat) : Int) := by
      rw [show ((m + 1 : Nat) : Int) - 1 = (m : Int) by omega]; exact wrap_i64 (by omega) (by omega)
    obtain ⟨q, c1, c2⟩ := w.loadV (i := m) (by omega)
    rw [u64s_take, List.getElem?_take_of_lt (by omega), u64s_get ws m (by omega)] at c2
    have hl : lenV v = some (m + 1) := w.length
    by_cases hz : wd ws m = 0
    · have e3 : eqI ((wd ws m : Nat) : Int) 0 = true := by rw [eqI_eq]; simp [hz]
      obtain ⟨v', k1, k2, k3⟩ := w.upto m (by omega)
      have k2' : View h 1 v' m (u64s (ws.take m)) := by
        rw [u64s_take, List.take_take, Nat.mul_one, Nat.min_eq_left (by omega)] at k2
        rw [u64s_take]
        exact k2
      simp [↓ kq, kq, ↓ ko, ko, kb, kv, kt, kx, kj, t0, t2, hl, e1, e2, c1, c2, e3, k1, -bO_of, -bB_true, -bB_false, -Int.natCast_add]
      rw [← hL]
      refine Gets.mono (ih k v' _ (by omega) (by omega) k2' ?_ ?_) fun fl t' h' ⟨b1, b2, v2, b3, b4, b5⟩ => ⟨b1, b2, v2, b3, ?_, fun q hq => k3 q (b5 q hq)⟩
      · simp [kq]
      · simp [kq, t2]
      · have : trimN ws (m + 1) = trimN ws m := by rw [trimN, if_pos hz]
        rw [this]; exact b4
    · have e3 : eqI ((wd ws m : Nat) : Int) 0 = false := by rw [eqI_eq]; simp; omega
      simp [↓ kq, kq, ↓ ko, ko, kb, kv, kt, kx, kj, t0, t2, hl, e1, e2, c1, c2, e3, w.cat, storeV_agg (b := v) hp, gets_some, -bO_of, -bB_true, -bB_false, -Int.natCast_add]
      refine ⟨v, rfl, ?_, fun q hq => hq⟩
      have : trimN ws (m + 1) = ws.take (m + 1) := by rw [trimN, if_neg hz]
      rw [this, List.length_take, Nat.min_eq_left (by omega)]
      exact w
theorem behind_put {h : H} {p : Nat} {v : SV} {n : Nat} {cs cs' : List SV} {a : SV} (w : View h 1 v n cs) (hp : h.get p = some (.cells [a] .fixed)) (hn : ∀ q, isRow v q → q ≠ p) : View (h.put p (.cells cs' .fixed)) 1 v n cs := w.keep (Fr.put (H.get_lt hp)) hn
theorem Tryd.trimmed {h : H} {v : SV} {ws : List Nat} (w : View h 1 v ws.length (u64s ws)) (hws : ws.length < 9223372036854775808) :
    ∃ v' h', Tryd.lc 28 [v] h = some (.agg [v'], h') ∧ View h' 1 v' (trimN ws ws.length).length (u64s (trimN ws ws.length)) ∧ Fr (fun _ => False) (fun _ => False) h h' ∧ ∀ q, isRow v' q → isRow v q := by
  have hp : (h.push (.cells [.nilslice] .fixed)).get h.next = some (.cells [.nilslice] .fixed) := by rw [H.get_push, if_pos rfl]
  have f1 : Fr (fun _ => False) (fun _ => False) h (h.push (.cells [.nilslice] .fixed)) := .push
  have w1 := w.keep f1 fun _ _ k => k
  have hne : ∀ q, isRow v q → q ≠ h.next := fun q hq => Nat.ne_of_lt (w.lt q hq)
  obtain ⟨r, h', k1, v', rfl, k2, k3, k4⟩ : ∃ r h', Tryd.lc 28 [v] h = some (r, h') ∧ ∃ v', r = .agg [v'] ∧ View h' 1 v' (trimN ws ws.length).length (u64s (trimN ws ws.length)) ∧ Fr (fun _ => False) (fun _ => False) h h' ∧ ∀ q, isRow v' q → isRow v q := by
    refine Tryd.enG (n := ws.length + 1) (kf := Tryd.k28) (by kernel_rfl) Tryd.k28_s rfl ?_
    simp [↓ kq, kq, ↓ ko, ko, kb, kv, kt, kx, Tryd.lc, -bO_of, -bB_true, -bB_false, -Int.natCast_add]
    refine Gets.mono (Tryd.trim_loop hp ws hws Tryd.lc ws.length (ws.length + 1) v _ (Nat.le_refl _) (by omega) (by rw [List.take_length]; exact w1) ?_ ?_) fun fl t' h' ⟨b1, b2, v', b3, b4, b5⟩ => ?_
    · simp [kq]
    · simp [kq]
    subst b1 b3
    refine ⟨.inr rfl, [.agg [v']], ?_, v', rfl, b4.keep (Fr.put (H.get_lt hp)) (fun q hq => hne q (b5 q hq)), ((f1.mono (fun _ _ k => k.elim) (fun _ k => k.elim)).trans (Fr.put (H.get_lt hp))).mono (fun q hq e => by omega) (fun q e => .inr (by omega)), b5⟩
    simp [kc, kb, b2, loadV_agg (rowCells_put (cs' := [v']) hp), -bO_of]
  exact ⟨v', h', k1, k2, k3, k4⟩
end
end Go.Proofs
