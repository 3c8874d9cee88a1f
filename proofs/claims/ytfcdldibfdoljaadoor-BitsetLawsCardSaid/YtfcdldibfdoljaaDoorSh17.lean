/- General laws of the proof: a shadow machine of the form, its soundness, and a compiled form of it. -/
import Derived.Test.YtfcdldibfdoljaaDoorSh15
set_option linter.unusedVariables false
set_option linter.unusedSimpArgs false
set_option linter.unusedSectionVars false
section
/- The compiled machine: what looks at the memory and what turns it, at values. -/
namespace Go.Sh
noncomputable section
def loadV (s : Option Nat) (g : Nat → Option SObj) (u : SV) : Option SV := bO (asP u) fun p => bO (rowCells g p.1) fun cs => kpart s cs p.2
def storeV (size : Nat) (h : H) (u v : SV) : Option (SV × H) := bO (asP u) fun p => bO v.cells? fun vs => bB (hasLen size vs) (bO (storeX h p.1 p.2 vs) fun h => some (SV.tuple [], h)) none
def appendV (bytes size : Nat) (h : H) (s x : SV) : Option (SV × H) := bO (srcLen x) fun n => bO (srcCells h.get size n x) fun new => kappend h bytes size n new s
def copyV (size : Nat) (h : H) (d x : SV) : Option (SV × H) := bO (srcLen d) fun n => bO (srcLen x) fun m => bO (srcCells h.get size (min m n) x) fun new => copyS h d (min m n) new
def maxV (big : Bool) : List SV → Option SV
  | v :: l => maxS big v l
  | [] => none
def makeV (bytes size : Nat) (z : List SV) (u v : SV) (h : H) : Option (SV × H) := bO (asInt u) fun n => bO (asInt v) fun m => bO (intN n) fun n => bO (intN m) fun m =>
  bB (Nat.ble n m && Nat.ble (m * (bytes + size + 1)) 1099511627776) (some (SV.slice h.next 0 n size (some m), h.push (.cells (repeatCells z m) .fixed))) none
theorem kt :
    (∀ s x g t, lLoad s x g t = bO (x t) (loadV s g)) ∧ (∀ s a x h t, tStore s a x h t = bO (a t) fun u => bO (x t) fun v => storeV s h u v) ∧
    (∀ b s a x h t, tAppend b s a x h t = bO (a t) fun u => bO (x t) fun v => appendV b s h u v) ∧ (∀ s d x h t, tCopy s d x h t = bO (d t) fun u => bO (x t) fun v => copyV s h u v) ∧
    (∀ z xs t, vCat z xs t = bO (xL xs t) fun vs => bO (kcat z vs) fun cs => some (.agg cs)) ∧ (∀ k (z : Int), kcat [1] [.int k z] = some [.int k z]) ∧ (∀ k (a b : Int), kcat [1, 1] [.int k a, .int k b] = some [.int k a, .int k b]) ∧
    (∀ b xs t, vMax b xs t = bO (xL xs t) (maxV b)) ∧
    (∀ n s z xs c m t h K, sN (aRow n s z xs) c m t h K = bO (xL xs t) fun vs => bO (kcat z vs) fun cs => K (.slice h.next 0 n s (some n)) (h.push (.cells cs .fixed))) ∧
    (∀ b s z x y c m t h K, sN (aMakeSlice b s z x y) c m t h K = bO (x t) fun u => bO (y t) fun v => on2 (makeV b s z u v h) K) ∧
    (∀ F cap xs c m t h k, sX (xC (.func F cap)) xs c m t h k = bO (xL xs t) fun vs => on2 (c F (vs ++ cap) h) k) ∧
    (∀ cs, (SV.agg cs).cells? = some cs) := by
  refine ⟨fun _ _ _ _ => rfl, fun s a x h t => ?_, fun _ _ _ _ _ _ => rfl, fun _ _ _ _ _ => rfl, fun _ _ _ => rfl, fun _ _ => rfl, fun _ _ _ => rfl, fun b xs t => ?_, fun n s z xs c m t h K => ?_, fun b s z x y c m t h K => ?_, fun _ _ _ _ _ _ _ _ => rfl, fun _ => rfl⟩
  · show (bO (a t) fun u => bO (asP u) fun p => bO (x t) fun v => bO v.cells? fun vs => bB (hasLen s vs) (bO (storeX h p.1 p.2 vs) fun h => some (SV.tuple [], h)) none) = _
    cases a t with
    | none => rfl
    | some u =>
      show (bO (asP u) fun p => bO (x t) fun v => _) = bO (x t) fun v => bO (asP u) _
      cases asP u with
      | none => cases x t <;> rfl
      | some p => cases x t <;> rfl
  · show (bO (xL xs t) fun vs => match vs with
      | v :: l => maxS b v l
      | [] => none) = _
    cases xL xs t with
    | none => rfl
    | some vs => cases vs <;> rfl
  · show bO (bO (xL xs t) fun vs => bO (kcat z vs) fun cs => some (NR.new (.cells cs .fixed) (SV.slice · 0 n s (some n)))) _ = _
    cases xL xs t with
    | none => rfl
    | some vs =>
      show bO (bO (kcat z vs) _) _ = bO (kcat z vs) _
      cases kcat z vs <;> rfl
  · show bO (bO (x t) fun u => bO (y t) fun v => bO (asInt u) fun n => bO (asInt v) fun m => bO (intN n) fun n => bO (intN m) fun m => bB (Nat.ble n m && Nat.ble (m * (b + s + 1)) 1099511627776) (some (NR.new (.cells (repeatCells z m) .fixed) (SV.slice · 0 n s (some m)))) none) _ = _
    cases x t with
    | none => rfl
    | some u =>
      cases y t with
      | none => rfl
      | some v =>
        show bO (bO (asInt u) _) _ = on2 (makeV b s z u v h) K
        unfold makeV
        cases asInt u with
        | none => rfl
        | some n =>
          cases asInt v with
          | none => rfl
          | some m =>
            show bO (bO (intN n) _) _ = on2 (bO (intN n) _) K
            cases intN n with
            | none => rfl
            | some n =>
              show bO (bO (intN m) _) _ = on2 (bO (intN m) _) K
              cases intN m with
              | none => rfl
              | some m =>
                show bO (bB (Nat.ble n m && Nat.ble (m * (b + s + 1)) 1099511627776) _ none) _ = on2 (bB (Nat.ble n m && Nat.ble (m * (b + s + 1)) 1099511627776) _ none) K
                cases (Nat.ble n m && Nat.ble (m * (b + s + 1)) 1099511627776) <;> rfl
theorem rowCells_push {h : H} {cs : List SV} : rowCells (h.push (.cells cs .fixed)).get h.next = some cs := by unfold rowCells; rw [H.get_push, if_pos rfl]
theorem rowCells_put {h : H} {p : Nat} {cs cs' : List SV} (e : h.get p = some (.cells cs .fixed)) : rowCells (h.put p (.cells cs' .fixed)).get p = some cs' := by
  unfold rowCells; rw [H.get_put _ _ _ _ (H.get_lt e), if_pos rfl]
theorem rowCells_fixed {h : H} {p : Nat} {cs : List SV} (e : h.get p = some (.cells cs .fixed)) : rowCells h.get p = some cs := by unfold rowCells; rw [e]
theorem loadV_one {g : Nat → Option SObj} {id o : Nat} {all : List SV} (h2 : rowCells g id = some all) : loadV none g (.ptr id o) = all[o]? := by
  show bO (rowCells g id) (fun cs => idxX o cs) = _
  rw [h2]; exact idxX_get _ _
theorem loadV_agg {g : Nat → Option SObj} {id : Nat} {a : SV} (h2 : rowCells g id = some [a]) : loadV (some 1) g (.ptr id 0) = some (.agg [a]) := by
  show bO (rowCells g id) (fun cs => bO (dropX 0 cs) fun r => bO (takeX 1 r) fun l => some (SV.agg l)) = _
  rw [h2]; rfl
theorem storeV_one {h : H} {p off : Nat} {cs : List SV} {v : SV} (e : h.get p = some (.cells cs .fixed)) (ho : off < cs.length) (hv : v.cells? = some [v]) : storeV 1 h (.ptr p off) v = some (.tuple [], h.put p (.cells (cs.set off v) .fixed)) := store_fixed e off v .leaf ho hv
theorem storeV_agg {h : H} {p : Nat} {a b : SV} (e : h.get p = some (.cells [a] .fixed)) : storeV 1 h (.ptr p 0) (.agg [b]) = some (.tuple [], h.put p (.cells [b] .fixed)) := by
  have h1 : storeX h p 0 [b] = some (h.put p (.cells [b] .fixed)) := by
    unfold storeX; rw [e]; rfl
  show bO (storeX h p 0 [b]) _ = _
  rw [h1]; rfl
theorem View.loadV {h : H} {n : Nat} {v : SV} {cs : List SV} (w : View h 1 v n cs) {i : Nat} (hi : i < n) : ∃ p, atIdx 1 i v = some p ∧ loadV none h.get p = cs[i]? := by
  obtain ⟨h1, ⟨rfl, rfl⟩ | ⟨id, off, cap, all, rfl, h2, h3, h4⟩⟩ := w
  · omega
  · refine ⟨.ptr id (off + i * 1), ?_, ?_⟩
    · show bB (Nat.blt i n) _ _ = _
      rw [show Nat.blt i n = true from Nat.ble_eq_true_of_le hi]; rfl
    · rw [loadV_one h2]
      unfold takeCells at h3
      split at h3
      · cases h3
        rw [List.getElem?_take_of_lt (by omega), List.getElem?_drop, Nat.mul_one]
      · cases h3
theorem View.upto {h : H} {es n : Nat} {v : SV} {cs : List SV} (w : View h es v n cs) (k : Nat) (hk : k ≤ n) :
    ∃ v', kslice es v none (some (.int .i64 k)) none = some v' ∧ View h es v' k (cs.take (k * es)) ∧ (∀ q, isRow v' q → isRow v q) := by
  obtain ⟨v', h1, h2, h3⟩ := w.slice 0 k (Nat.zero_le _) hk
  refine ⟨v', ?_, by simpa using h2, h3⟩
  rw [← h1]
  obtain ⟨_, ⟨rfl, rfl⟩ | ⟨id, off, cap, all, rfl, _, _, _⟩⟩ := w <;> rfl
theorem View.cells {h : H} {es n : Nat} {v : SV} {cs : List SV} (w : View h es v n cs) : v.cells? = some [v] := by
  obtain ⟨_, ⟨rfl, _⟩ | ⟨id, off, cap, all, rfl, _⟩⟩ := w <;> rfl
theorem View.cat {h : H} {es n : Nat} {v : SV} {cs : List SV} (w : View h es v n cs) : kcat [1] [v] = some [v] := by
  obtain ⟨_, ⟨rfl, _⟩ | ⟨id, off, cap, all, rfl, _⟩⟩ := w <;> rfl
theorem View.lt {h : H} {es n : Nat} {v : SV} {cs : List SV} (w : View h es v n cs) : ∀ q, isRow v q → q < h.next := fun q hq => by
  obtain ⟨_, ⟨rfl, _⟩ | ⟨id, off, cap, all, rfl, e, _⟩⟩ := w
  · exact hq.elim
  · rw [show q = id from hq]; exact rowCells_lt e
end
end Go.Sh
end
