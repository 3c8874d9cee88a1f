/- Bitset: sets together. -/
import Derived.Test.YtfcdldibfdoljaaDoorTyZC
set_option linter.unusedVariables false
set_option linter.unusedSimpArgs false
set_option linter.unusedSectionVars false
namespace Go.Proofs
open Go.Sh
set_option linter.unusedVariables false
attribute [local instance] tabHeld
noncomputable section
def zipG (g : Nat → Nat → Nat) (a b : List Nat) : List Nat := (List.range (max a.length b.length)).map fun k => g (wd a k) (wd b k)
theorem zipG_length (g : Nat → Nat → Nat) (a b : List Nat) : (zipG g a b).length = max a.length b.length := by simp [zipG]
theorem max_lens (m n : Nat) : maxV true [.int .i64 (m : Int), .int .i64 (n : Int)] = some (.int .i64 ((max m n : Nat) : Int)) := by
  show maxS true (.int .i64 (m : Int)) [.int .i64 (n : Int)] = _
  unfold maxS
  rw [if_pos rfl]
  unfold maxS
  simp only [if_true]
  by_cases h : (n : Int) > m
  · rw [if_pos h]; congr 2; omega
  · rw [if_neg h]; congr 2; omega
theorem repeat_one (v : SV) : ∀ n, repeatCells [v] n = List.replicate n v
  | 0 => rfl
  | n + 1 => by
    show [v] ++ repeatCells [v] n = _
    rw [repeat_one v n, List.replicate_succ]; rfl
theorem make_u64 (n : Nat) (h : H) (hn : n ≤ 1024) : makeV 8 1 [.int .u64 0] (.int .i64 n) (.int .i64 n) h = some (.slice h.next 0 n 1 (some n), h.push (.cells (List.replicate n (.int .u64 0)) .fixed)) := by
  have e : (Nat.ble n n && Nat.ble (n * (8 + 1 + 1)) 1099511627776) = true := by
    rw [Nat.ble_eq_true_of_le (Nat.le_refl n), Nat.ble_eq_true_of_le (by omega)]; rfl
  show bB (Nat.ble n n && Nat.ble (n * (8 + 1 + 1)) 1099511627776) (some (SV.slice h.next 0 n 1 (some n), h.push (.cells (repeatCells [.int .u64 0] n) .fixed))) none = _
  rw [e, repeat_one]; rfl
theorem view_row {h : H} {id n : Nat} {cs : List SV} (e : rowCells h.get id = some cs) (hl : cs.length = n) : View h 1 (.slice id 0 n 1 (some n)) n cs := by
  refine ⟨by omega, .inr ⟨id, 0, some n, cs, rfl, e, ?_, fun c q => by cases q; exact Nat.le_refl _⟩⟩
  unfold takeCells
  rw [if_pos (by omega), List.drop_zero, Nat.mul_one, ← hl, List.take_length]
/-- A set, by its words. -/
structure IsSet (h : H) (v : SV) (ws : List Nat) : Prop where
  view : View h 1 v ws.length (u64s ws)
  words : Words ws
  len : ws.length ≤ 1024
theorem IsSet.keep {h h' : H} {v : SV} {ws : List Nat} (s : IsSet h v ws) {S W : Nat → Prop} (f : Fr S W h h') (hn : ∀ q, isRow v q → ¬ S q) : IsSet h' v ws := ⟨s.view.keep f hn, s.words, s.len⟩
theorem IsSet.calm {h h' : H} {v : SV} {ws : List Nat} (s : IsSet h v ws) {W : Nat → Prop} (f : Fr (fun _ => False) W h h') : IsSet h' v ws := s.keep f fun _ _ k => k
theorem trimN_length (ws : List Nat) : ∀ n, (trimN ws n).length ≤ n
  | 0 => Nat.le_refl _
  | n + 1 => by
    unfold trimN
    split
    · have := trimN_length ws n; omega
    · rw [List.length_take]; omega
theorem trimN_mem (ws : List Nat) : ∀ n w, w ∈ trimN ws n → w ∈ ws
  | 0, w, h => by simp [trimN] at h
  | n + 1, w, h => by
    unfold trimN at h
    split at h
    · exact trimN_mem ws n w h
    · exact List.mem_of_mem_take h
def trim (ws : List Nat) : List Nat := trimN ws ws.length
/-- A set that is made. -/
def SetRes (h : H) (ws : List Nat) (r : SV) (h' : H) : Prop := ∃ v', r = .agg [v'] ∧ IsSet h' v' ws ∧ Fr (fun _ => False) (fun _ => False) h h' ∧ ∀ q, isRow v' q → h.next ≤ q
theorem Tryd.over {F : FuncId} {g : Nat → Nat → Nat} (hF : Two F g) (hg : ∀ x y, x < 18446744073709551616 → y < 18446744073709551616 → g x y < 18446744073709551616) {h : H} {va vb : SV} {a b : List Nat} (sa : IsSet h va a) (sb : IsSet h vb b) :
    ∃ r h', Tryd.lc 23 [.agg [va], .agg [vb], .func F []] h = some (r, h') ∧ SetRes h (trim (zipG g a b)) r h' := by
  have hn : max a.length b.length ≤ 1024 := by have := sa.len; have := sb.len; omega
  generalize hN : max a.length b.length = n at hn
  generalize hh1 : h.push (.cells [va] .fixed) = h1
  generalize hh2 : h1.push (.cells [vb] .fixed) = h2
  generalize hh3 : h2.push (.cells [.nilslice] .fixed) = h3
  generalize hh4 : h3.push (.cells (List.replicate n (.int .u64 0)) .fixed) = h4
  have f1 : Fr (fun _ => False) (fun _ => False) h h1 := by rw [← hh1]; exact .push
  have f2 : Fr (fun _ => False) (fun _ => False) h1 h2 := by rw [← hh2]; exact .push
  have f3 : Fr (fun _ => False) (fun _ => False) h2 h3 := by rw [← hh3]; exact .push
  have f4 : Fr (fun _ => False) (fun _ => False) h3 h4 := by rw [← hh4]; exact .push
  have n1 : h1.next = h.next + 1 := by rw [← hh1]; rfl
  have n2 : h2.next = h1.next + 1 := by rw [← hh2]; rfl
  have n3 : h3.next = h2.next + 1 := by rw [← hh3]; rfl
  have n4 : h4.next = h3.next + 1 := by rw [← hh4]; rfl
  have f04 := ((f1.trans f2).trans f3).trans f4
  have ca : rowCells h4.get h.next = some [va] := (rowCells_keep ((f2.trans f3).trans f4) (by omega) (fun k => k)).trans (by rw [← hh1]; exact rowCells_push)
  have cb : rowCells h4.get h1.next = some [vb] := (rowCells_keep (f3.trans f4) (by omega) (fun k => k)).trans (by rw [← hh2]; exact rowCells_push)
  have cr : h4.get h2.next = some (.cells [.nilslice] .fixed) := f4.get (S := fun _ => False) (by rw [← hh3, H.get_push, if_pos rfl]) (fun k => k)
  have ci : h4.get h3.next = some (.cells (u64s ((List.range 0).map fun k => g (wd a k) (wd b k)) ++ List.replicate n (.int .u64 0)) .fixed) := by rw [← hh4, H.get_push, if_pos rfl]; rfl
  have ca3 : loadV none h3.get (.ptr h.next 0) = some va := by
    rw [loadV_one ((rowCells_keep (f2.trans f3) (by omega) (fun k => k)).trans (by rw [← hh1]; exact rowCells_push))]; rfl
  have cb3 : loadV none h3.get (.ptr h1.next 0) = some vb := by
    rw [loadV_one ((rowCells_keep f3 (by omega) (fun k => k)).trans (by rw [← hh2]; exact rowCells_push))]; rfl
  have mk := make_u64 n h3 hn
  rw [hh4] at mk
  have mx := max_lens a.length b.length
  rw [hN] at mx
  refine Tryd.enG (n := n + 1) (kf := Tryd.k23) (by kernel_rfl) Tryd.k23_eq rfl ?_
  simp [↓ kq, kq, ↓ ko, ko, kb, kv, kt, kx, hh1, hh2, hh3, ca3, cb3, sa.view.length, sb.view.length, mx, mk, -bO_of, -bB_true, -bB_false, -H.next_push, -Int.natCast_add]
  refine gets_next (gets_leave (Gets.mono (Tryd.over_loop (pr := h2.next) hF sa.words sb.words hn (id := h3.next) (pa := h.next) (pb := h1.next) (by omega) (by omega) (fun q hq => by have := sa.view.lt q hq; omega) (fun q hq => by have := sb.view.lt q hq; omega) n 0 (n + 1) _ h4 (by omega) (by omega) (sa.view.keep f04 fun _ _ k => k) (sb.view.keep f04 fun _ _ k => k) ca cb ci ?_ ?_ ?_ ?_ ?_ ?_ ?_) fun fl t' h5 ⟨b1, t7, t6, b4, f5⟩ => ?_))
  · simp [kq]
  · simp [kq]
  · simp [kq]
  · simp [kq]
  · simp [kq]
  · simp [kq]
  · simp [kq]
  subst b1
  have hz : (List.range n).map (fun k => g (wd a k) (wd b k)) = zipG g a b := by rw [zipG, hN]
  rw [hz] at b4
  have wv : View h5 1 (.slice h3.next 0 n 1 (some n)) (zipG g a b).length (u64s (zipG g a b)) := by
    rw [zipG_length, hN]
    exact view_row (rowCells_fixed b4) (by rw [u64s_len, zipG_length, hN])
  obtain ⟨v', h6, c1, c2, f6, c4⟩ := Tryd.trimmed wv (by rw [zipG_length, hN]; omega)
  have cr6 : h6.get h2.next = some (.cells [.nilslice] .fixed) := f6.get (f5.get cr (by show ¬ h2.next = h3.next; omega)) (fun k => k)
  have st := storeV_agg (b := v') cr6
  have hw : Words (trim (zipG g a b)) := fun w hw => by
    have := trimN_mem _ _ w hw
    unfold zipG at this
    obtain ⟨k, _, rfl⟩ := List.mem_map.1 this
    exact hg _ _ (sa.words.wd k) (sb.words.wd k)
  have fp := Fr.put (o := .cells [v'] .fixed) (H.get_lt cr6)
  simp [↓ kq, kq, ↓ ko, ko, kb, kv, kt, kx, t6, t7, c1, st, gets_some, kc, loadV_agg (rowCells_put (cs' := [v']) cr6), -bO_of, -bB_true, -bB_false, -H.next_push, -Int.natCast_add]
  refine ⟨v', rfl, ⟨c2.keep fp fun q hq e => ?_, hw, Nat.le_trans (trimN_length _ _) (by rw [zipG_length, hN]; exact hn)⟩, Fr.new ((Fr.new f04 f5 (fun q e => ?_) (fun q e => ?_)).trans f6) fp (fun q e => ?_) (fun q e => ?_), fun q hq => by have h1 : q = h3.next := c4 q hq; omega⟩
  · have h1 : q = h3.next := c4 q hq
    have e : q = h2.next := e
    omega
  · have e : q = h3.next := e
    omega
  · have e : q = h3.next := e
    omega
  · have e : q = h2.next := e
    omega
  · have e : q = h2.next := e
    omega
end
end Go.Proofs
