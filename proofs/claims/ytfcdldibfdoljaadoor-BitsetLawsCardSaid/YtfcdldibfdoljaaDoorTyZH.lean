/- Bitset: the list of a set's numbers; how many they are. -/
import Derived.Test.YtfcdldibfdoljaaDoorTyZG
import Derived.Test.YtfcdldibfdoljaaDoorSh18
set_option linter.unusedVariables false
set_option linter.unusedSimpArgs false
set_option linter.unusedSectionVars false
namespace Go.Proofs
open Go.Sh
set_option linter.unusedVariables false
attribute [local instance] tabHeld
noncomputable section
def ni (l : List Nat) : List SV := l.map fun (k : Nat) => SV.int .i64 (k : Int)
theorem i64s_ni (f : Nat → Nat) (l : List Nat) : i64s (l.map fun b => ((f b : Nat) : Int)) = ni (l.map f) := by simp [i64s, ni]
theorem ni_len (l : List Nat) : (ni l).length = l.length := by simp [ni]
def numsUpto (ws : List Nat) (i : Nat) : List Nat := (List.range (64 * i)).filter (mem ws)
def nums (ws : List Nat) : List Nat := numsUpto ws ws.length
theorem numsUpto_succ (ws : List Nat) (i : Nat) : numsUpto ws (i + 1) = numsUpto ws i ++ (bitsOf (wd ws i)).map fun b => 64 * i + b := by
  unfold numsUpto bitsOf
  rw [show 64 * (i + 1) = 64 * i + 64 by omega, List.range_add, List.filter_append, List.filter_map]
  congr 2
  apply List.filter_congr
  intro b hb
  have hb := List.mem_range.1 hb
  show mem ws (64 * i + b) = _
  unfold mem
  rw [show (64 * i + b) / 64 = i by omega, show (64 * i + b) % 64 = b by omega]
theorem numsUpto_len (ws : List Nat) (i : Nat) : (numsUpto ws i).length ≤ 64 * i := by
  have := List.length_filter_le (mem ws) (List.range (64 * i))
  simpa [numsUpto] using this
theorem bitsOf_len (w : Nat) : (bitsOf w).length ≤ 64 := by
  have := List.length_filter_le w.testBit (List.range 64)
  simpa [bitsOf] using this
/-- A list that is made. -/
def ListRes (h : H) (cs : List SV) (r : SV) (h' : H) : Prop := View h' 1 r cs.length cs ∧ Fr (fun _ => False) (fun _ => False) h h' ∧ ∀ q, isRow r q → h.next ≤ q
def ListEnd (hb : H) (ws : List Nat) (t' : T) (h' : H) : Prop := ∃ out', getP (way 2) t' = some out' ∧ Buf h' 1 out' (nums ws).length (ni (nums ws)) ∧ (∀ q, isRow out' q → hb.next ≤ q) ∧ Fr (fun _ => False) (fun _ => False) hb h'
theorem Tryd.list_loop {hb : H} {v : SV} {ws : List Nat} (hws : Words ws) (hl : ws.length ≤ 1024) : ∀ (j i k : Nat) (t : T) (h : H) (out : SV) (n : Nat), i + j = ws.length → j + 66 < k → View h 1 v ws.length (u64s ws) → Buf h 1 out n (ni (numsUpto ws i)) → (∀ q, isRow out q → hb.next ≤ q) → (∀ q, isRow v q → q < hb.next) → Fr (fun _ => False) (fun _ => False) hb h →
    getP (way 2) t = some out → getP (way 6) t = some v → getP (way 7) t = some (.int .i64 ws.length) → getP (way 8) t = some (.int .i64 i) →
    Gets (cLoop Tryd.l10_1 k Tryd.lc t h) fun fl t' h' => fl = .exit 0 ∧ ListEnd hb ws t' h' := by
  intro j
  induction j with
  | zero =>
    intro i k t h out n hi hk w b ro rv fb t2 t6 t7 t8
    obtain ⟨k, rfl⟩ : ∃ m, k = m + 1 := ⟨k - 1, by omega⟩
    rw [loop_succ]
    generalize (fun t h => cLoop Tryd.l10_1 k Tryd.lc t h) = L
    unfold Tryd.l10_1
    have e1 : ltI (i : Int) ws.length = false := by rw [ltI_eq]; exact decide_eq_false (by omega)
    simp [↓ kq, kq, ↓ ko, ko, kb, kv, kt, kx, t2, t6, t7, t8, e1, -bO_of, -bB_true, -bB_false, -H.next_push, -Int.natCast_add]
    obtain rfl : i = ws.length := by omega
    have hn : n = (nums ws).length := by have := b.1; rw [ni_len] at this; unfold nums; omega
    subst hn
    exact ⟨rfl, out, by simp [kq, t2], b, ro, fb⟩
  | succ j ih =>
    intro i k t h out n hi hk w b ro rv fb t2 t6 t7 t8
    obtain ⟨k, rfl⟩ : ∃ m, k = m + 1 := ⟨k - 1, by omega⟩
    rw [loop_succ]
    generalize hL : (fun t h => cLoop Tryd.l10_1 k Tryd.lc t h) = L
    unfold Tryd.l10_1
    have e1 : ltI (i : Int) ws.length = true := by rw [ltI_eq]; exact decide_eq_true (by omega)
    have e2 : IntKind.i64.wrap ((i : Int) + 1) = ((i + 1 : Nat) : Int) := by
      rw [Int.natCast_add]; exact wrap_i64 (by omega) (by omega)
    obtain ⟨pA, x2, x3⟩ := w.loadV (i := i) (by omega)
    rw [u64s_get ws i (by omega)] at x3
    have hbl := bitsOf_len (wd ws i)
    have hnl := numsUpto_len ws i
    have hbn : n = (numsUpto ws i).length := by have := b.1; rw [ni_len] at this; omega
    simp [↓ kq, kq, ↓ ko, ko, kb, kv, kt, kx, t2, t6, t7, t8, e1, x2, x3, -bO_of, -bB_true, -bB_false, -H.next_push, -Int.natCast_add]
    refine gets_next (gets_next (gets_leave (gets_leave (Gets.mono (Tryd.bits_loop (i := i) (by omega) (bitsOf (wd ws i)).length (wd ws i) (k + 1) _ h out n _ rfl (hws.wd i) (by omega) (by omega) ?_ ?_ ?_ b) fun fl t' h' ⟨b1, ⟨q2, q3, q4⟩, out2, q5, q6, q7, q8⟩ => ?_))))
    · simp [kq, t2]
    · simp [kq]
    · simp [kq]
    subst b1
    have t6' : getP (way 6) t' = some v := by rw [q2]; simp [kq, t6]
    have t7' : getP (way 7) t' = some (.int .i64 ws.length) := by rw [q3]; simp [kq, t7]
    have t8' : getP (way 8) t' = some (.int .i64 i) := by rw [q4]; simp [kq, t8]
    clear q2 q3 q4
    simp [↓ kq, kq, ↓ ko, ko, kb, kv, kt, kx, t6', t7', t8', q5, e2, -bO_of, -bB_true, -bB_false, -H.next_push, -Int.natCast_add]
    rw [← hL]
    rw [i64s_ni] at q6
    have hq6 : Buf h' 1 out2 (n + (bitsOf (wd ws i)).length) (ni (numsUpto ws (i + 1))) := by
      rw [numsUpto_succ]
      simpa [ni] using q6
    refine ih (i + 1) k _ h' out2 _ (by omega) (by omega) (w.keep q7 fun q hq e => ?_) hq6 (fun q hq => ?_) rv (Fr.new fb q7 ro (fun q e => e.elim)) ?_ ?_ ?_ ?_
    · have := rv q hq; have := ro q e; omega
    · rcases q8 q hq with e | e
      · exact ro q e
      · have := fb.next; omega
    · simp [kq, q5]
    · simp [kq, t6']
    · simp [kq, t7']
    · simp [kq, -Int.natCast_add]
theorem Tryd.list {h : H} {va : SV} {ws : List Nat} (s : IsSet h va ws) : ∃ r h', Tryd.lc 10 [.agg [va]] h = some (r, h') ∧ ListRes h (ni (nums ws)) r h' := by
  generalize hh1 : h.push (.cells [va] .fixed) = h1
  have f1 : Fr (fun _ => False) (fun _ => False) h h1 := by rw [← hh1]; exact .push
  have n1 : h1.next = h.next + 1 := by rw [← hh1]; rfl
  have ca' : loadV none h1.get (.ptr h.next 0) = some va := by rw [loadV_one (by rw [← hh1]; exact rowCells_push : rowCells h1.get h.next = some [va])]; rfl
  have w1 := (s.calm f1).view
  refine Tryd.enG (n := ws.length + 68) (kf := Tryd.k10) (by kernel_rfl) Tryd.k10_eq rfl ?_
  simp [↓ kq, kq, ↓ ko, ko, kb, kv, kt, kx, hh1, ca', w1.length, -bO_of, -bB_true, -bB_false, -H.next_push, -Int.natCast_add]
  refine gets_next (gets_leave (Gets.mono (Tryd.list_loop (hb := h1) s.words s.len ws.length 0 (ws.length + 68) _ h1 .nilslice 0 (by omega) (by omega) w1 ⟨rfl, .inl ⟨rfl, rfl⟩⟩ (fun q hq => hq.elim) w1.lt .refl ?_ ?_ ?_ ?_) fun fl t' h2 ⟨b1, out, t2, c2, r2, f2⟩ => ?_))
  · simp [kq]
  · simp [kq]
  · simp [kq]
  · simp [kq]
  subst b1
  simp [↓ kq, kq, ↓ ko, ko, kb, kv, kt, kx, t2, gets_some, kc, -bO_of, -bB_true, -bB_false, -H.next_push, -Int.natCast_add]
  refine ⟨?_, f1.trans f2, fun q hq => by have := r2 q hq; omega⟩
  rw [ni_len]; exact c2.view'
end
end Go.Proofs
