/- General laws of the proof: a shadow machine of the form, its soundness, and a compiled form of it. -/
import Derived.Test.YtknnamdpgiplfaaGreatDoorTzAA
import Derived.Test.YtknnamdpgiplfaaGreatDoorSh17
set_option linter.unusedVariables false
set_option linter.unusedSimpArgs false
set_option linter.unusedSectionVars false
section
/- 'awake' of ChaWithin answers true: a run of the compiled machine. -/
namespace Go.Proofs
open Go.Sh
set_option linter.unusedVariables false
set_option maxRecDepth 100000
attribute [local instance] powHeld
theorem Tryz.awake10 : ((kcall Tryz.kTab.get Tryz.X 100000 7 [] .empty).map (·.1)) = some (.bool true) := by kernel_rfl
end Go.Proofs
end
section
/- ChaWithin: awake as an oracle; how much is given. -/
namespace Go.Proofs
open Go.Sh
set_option linter.unusedVariables false
set_option maxRecDepth 100000
attribute [local instance] powHeld
noncomputable section
theorem Tryz.awake_or : OrOK Tryz.prog (7, xBool true) := by
  have h1 := Tryz.awake10
  cases h2 : kcall Tryz.kTab.get Tryz.X 100000 7 [] .empty with
  | none => rw [h2] at h1; cases h1
  | some r =>
    rw [h2] at h1
    obtain ⟨v, h'⟩ := r
    cases h1
    exact xBool_ok Tryz.good Tryz.X_ok (kcall_ok Tryz.kTab_ok 100000 _ _ _ _ h2) Tryz.func7 (body_of (by kernel_rfl)) held_up
def Tryz.OL2 : OrL := [(7, xBool true)]
def Tryz.X2 : FuncId → Option (List SV → H → Option (SV × H)) := orGet Tryz.X Tryz.OL2
theorem Tryz.X2_ok : OracleOK Tryz.prog Tryz.X2 := orGet_ok Tryz.X_ok (l := Tryz.OL2) ⟨Tryz.awake_or, trivial⟩
abbrev Tryz.l2 : CF := (lim Tryz.prog Tryz.X2).call
theorem Tryz.awake2 (h : H) : Tryz.l2 7 [] h = some (.bool true, h) := lc_or (g := xBool true) rfl _ _
end
end Go.Proofs
end
section
/- ChaWithin: Sum. -/
namespace Go.Proofs
open Go.Sh
set_option linter.unusedVariables false
attribute [local instance] powHeld
noncomputable section
theorem Tryz.sum7_loop {h : H} {v : SV} {zs : List Int} (w : View h 1 v zs.length (i64s zs)) (hm : zs.length ≤ 1099511627776) (hz0 : ∀ z, z ∈ zs → 0 ≤ z) : ∀ (j i k : Nat) (acc : Int) (t : T), i + j = zs.length → j < k → 0 ≤ acc → acc ≤ 1099511627776 → getP (way 1) t = some v → getP (way 5) t = some (.int .i64 i) → getP (way 0) t = some (.int .i64 acc) →
    Gets (cLoop Tryz.l4_0 k Tryz.l2 t h) fun fl t' h' => h' = h ∧ (fl = .exit 0 ∧ getP (way 0) t' = some (.int .i64 (acc + (zs.drop i).sum)) ∧ acc + (zs.drop i).sum ≤ 1099511627776 ∧ 0 ≤ (zs.drop i).sum ∨ fl = .ret ∧ getP (way 4) t' = some (.int .i64 1099511627776)) := by
  have hl := w.length
  intro j
  induction j with
  | zero =>
    intro i k acc t hi hk h0 h1 t1 t5 t0
    obtain ⟨k, rfl⟩ : ∃ m, k = m + 1 := ⟨k - 1, by omega⟩
    rw [loop_succ]
    generalize (fun t h => cLoop Tryz.l4_0 k Tryz.l2 t h) = L
    unfold Tryz.l4_0
    have e1 : ltI (i : Int) (zs.length : Int) = false := ltIf (by omega)
    have hd : zs.drop i = [] := List.drop_eq_nil_of_le (by omega)
    rw [hd]
    generalize zs.length = n at *
    simp [↓ kq, kq, ↓ ko, ko, ↓ kt, ↓ kz, kb, kv, kt, kx, t1, t5, t0, hl, e1, gets_some, -bO_of, -bB_true, -bB_false, -H.next_push, -Int.natCast_add]
    exact h1
  | succ j ih =>
    intro i k acc t hi hk h0 h1 t1 t5 t0
    obtain ⟨k, rfl⟩ : ∃ m, k = m + 1 := ⟨k - 1, by omega⟩
    rw [loop_succ]
    generalize hL : (fun t h => cLoop Tryz.l4_0 k Tryz.l2 t h) = L
    obtain ⟨z, hz⟩ : ∃ z, zs[i]? = some z := ⟨zs[i], List.getElem?_eq_getElem (by omega)⟩
    have hz1 := hz0 z (List.mem_of_getElem? hz)
    obtain ⟨p, c1, c2⟩ := w.loadV (i := i) (by omega)
    rw [i64s_get hz] at c2
    have e1 : ltI (i : Int) (zs.length : Int) = true := ltIt (by omega)
    have e3 : IntKind.i64.wrap ((i : Int) + 1) = ((i + 1 : Nat) : Int) := by rw [wrapI64 (by omega) (by omega)]; omega
    have e4 : ltI 1099511627776 acc = false := ltIf (by omega)
    have e5 : IntKind.i64.wrap (1099511627776 - acc) = 1099511627776 - acc := wrapI64 (by omega) (by omega)
    have hdrop : zs.drop i = z :: zs.drop (i + 1) := by
      obtain ⟨h1, h2⟩ := List.getElem?_eq_some_iff.1 hz
      rw [List.drop_eq_getElem_cons h1, h2]
    by_cases hb : 1099511627776 - acc < z
    · have e6 : ltI (1099511627776 - acc) z = true := ltIt hb
      unfold Tryz.l4_0
      simp [↓ kq, kq, ↓ ko, ko, ↓ kt, ↓ kz, kb, kv, kt, kx, t1, t5, t0, hl, e1, e3, e4, e5, e6, c1, c2, gets_some, -bO_of, -bB_true, -bB_false, -H.next_push, -Int.natCast_add]
    · have e6 : ltI (1099511627776 - acc) z = false := ltIf hb
      have e7 : IntKind.i64.wrap (acc + z) = acc + z := wrapI64 (by omega) (by omega)
      unfold Tryz.l4_0
      simp [↓ kq, kq, ↓ ko, ko, ↓ kt, ↓ kz, kb, kv, kt, kx, t1, t5, t0, hl, e1, e3, e4, e5, e6, e7, c1, c2, -bO_of, -bB_true, -bB_false, -H.next_push, -Int.natCast_add]
      rw [← hL]
      refine Gets.mono (ih (i + 1) k (acc + z) _ (by omega) (by omega) (by omega) (by omega) (by simp [kq, kb, t1]) (by simp [kq, kb]) (by simp [kq, kb])) fun fl t' h' ⟨b1, b2⟩ => ⟨b1, ?_⟩
      rw [hdrop, List.sum_cons]
      rcases b2 with ⟨b2, b3, b4, b5⟩ | b2
      · refine .inl ⟨b2, ?_, by omega, by omega⟩
        rw [b3, Int.add_assoc]
      · exact .inr b2
/-- A sum that is small is the sum. -/
theorem Tryz.sum7 {h : H} {v : SV} {zs : List Int} (w : View h 1 v zs.length (i64s zs)) (hm : zs.length ≤ 10) (hz0 : ∀ z, z ∈ zs → 0 ≤ z) {acc : Int} (h0 : 0 ≤ acc) (h1 : acc ≤ 1099511627776) :
    ∃ r, Tryz.l2 4 [.int .i64 acc, v] h = some (.int .i64 r, h) ∧ 0 ≤ r ∧ r ≤ 1099511627776 ∧ (r = acc + zs.sum ∨ r = 1099511627776) := by
  have main : ∃ v' h', Tryz.l2 4 [.int .i64 acc, v] h = some (v', h') ∧ (h' = h ∧ ∃ r, v' = .int .i64 r ∧ 0 ≤ r ∧ r ≤ 1099511627776 ∧ (r = acc + zs.sum ∨ r = 1099511627776)) := by
    refine Go.Sh.enG Tryz.kTab_ok (X := Tryz.X2) (kf := Tryz.k4) rfl (by kernel_rfl) 102 Tryz.k4_eq rfl ?_
    simp [↓ kq, kq, ↓ ko, ko, ↓ kt, ↓ kz, kb, kv, kt, kx, gets_some, -bO_of, -bB_true, -bB_false, -H.next_push, -Int.natCast_add]
    refine gets_next (gets_leave (Gets.mono (Tryz.sum7_loop w (by omega) hz0 zs.length 0 102 acc _ (by omega) (by omega) h0 h1 (by simp [kq, kb]) (by simp [kq, kb]) (by simp [kq, kb])) fun fl t' h' ⟨b1, b2⟩ => ?_))
    subst b1
    rcases b2 with ⟨rfl, b3, b4, b5⟩ | ⟨rfl, b3⟩
    · rw [List.drop_zero] at b3 b4 b5
      simp only [if_true]
      simp [↓ kq, kq, ↓ ko, ko, ↓ kt, ↓ kz, kb, kv, kt, kx, b3, gets_some, kc, oneS, -bO_of, -bB_true, -bB_false, -H.next_push, -Int.natCast_add]
      omega
    · simp [↓ kq, kq, ↓ ko, ko, ↓ kt, ↓ kz, kb, kv, kt, kx, b3, gets_some, kc, oneS, -bO_of, -bB_true, -bB_false, -H.next_push, -Int.natCast_add]
  obtain ⟨_, _, k1, rfl, r, rfl, k2⟩ := main
  exact ⟨r, k1, k2⟩
end
end Go.Proofs
end
section
/- ChaWithin: how much is given: Total, Edges. -/
namespace Go.Proofs
open Go.Sh
set_option linter.unusedVariables false
attribute [local instance] powHeld
noncomputable section
/-- a call's edge -/
structure Edg where
  src : List UInt8
  pc : Int
  dst : List UInt8
def Edg.cells (e : Edg) : List SV := [.str e.src, .int .i64 e.pc, .str e.dst]
def edgs (l : List Edg) : List SV := l.flatMap Edg.cells
theorem edgs_len (l : List Edg) : (edgs l).length = l.length * 3 := by
  induction l with
  | nil => rfl
  | cons e l ih =>
    show (e.cells ++ edgs l).length = (l.length + 1) * 3
    rw [List.length_append, ih]
    show 3 + l.length * 3 = _
    omega
theorem edgs_at {l : List Edg} {i : Nat} {e : Edg} (h : l[i]? = some e) : ((edgs l).drop (i * 3)).take 3 = e.cells := by
  induction l generalizing i with
  | nil => simp at h
  | cons x l ih =>
    cases i with
    | zero =>
      simp at h
      subst h
      rfl
    | succ i =>
      simp at h
      show ((x.cells ++ edgs l).drop ((i + 1) * 3)).take 3 = _
      rw [show (i + 1) * 3 = x.cells.length + i * 3 by show _ = 3 + i * 3; omega, List.drop_append]
      simp only [Nat.add_sub_cancel_left]
      rw [List.drop_eq_nil_of_le (by omega), List.nil_append]
      exact ih h
/-- an edge of a row of edges, cell by cell -/
theorem view_edge {h : H} {v : SV} {l : List Edg} (w : View h 3 v l.length (edgs l)) {i : Nat} {e : Edg} (he : l[i]? = some e) :
    ∃ id o, atIdx 3 i v = some (.ptr id o) ∧ isRow v id ∧ loadV none h.get (.ptr id o) = some (.str e.src) ∧ loadV none h.get (.ptr id (o + 1)) = some (.int .i64 e.pc) ∧ loadV none h.get (.ptr id (o + 2)) = some (.str e.dst) ∧ ∃ all, rowCells h.get id = some all ∧ o + 3 ≤ all.length ∧ (all.drop o).take 3 = e.cells := by
  have hi : i < l.length := (List.getElem?_eq_some_iff.1 he).1
  obtain ⟨id, o, all, h1, h2, h3, h4, h5⟩ := w.at hi
  rw [edgs_at he] at h5
  have g : ∀ k x, e.cells[k]? = some x → all[o + k]? = some x := fun k x hx => by
    rw [← h5, List.getElem?_take] at hx
    split at hx
    · rw [List.getElem?_drop] at hx; exact hx
    · cases hx
  have hl := loadB h3
  exact ⟨id, o, h1, h2, (hl o).trans (g 0 _ rfl), (hl (o + 1)).trans (g 1 _ rfl), (hl (o + 2)).trans (g 2 _ rfl), all, h3, h4, h5⟩
def tot (l : List (List UInt8)) : Int := (l.map fun s => (s.length : Int) + 1).sum
def totE (l : List Edg) : Int := (l.map fun e => (e.src.length : Int) + (e.dst.length : Int) + 1).sum
theorem tot_ge (l : List (List UInt8)) : (l.length : Int) ≤ tot l := by
  induction l with
  | nil => exact Int.le_refl _
  | cons s l ih =>
    unfold tot at *
    simp only [List.map_cons, List.sum_cons, List.length_cons]
    omega
theorem totE_ge (l : List Edg) : (l.length : Int) ≤ totE l := by
  induction l with
  | nil => exact Int.le_refl _
  | cons s l ih =>
    unfold totE at *
    simp only [List.map_cons, List.sum_cons, List.length_cons]
    omega
theorem tot_take {l : List (List UInt8)} {i : Nat} {s : List UInt8} (h : l[i]? = some s) : tot (l.take (i + 1)) = tot (l.take i) + ((s.length : Int) + 1) := by
  unfold tot
  rw [List.take_add_one, h]
  simp
theorem totE_take {l : List Edg} {i : Nat} {e : Edg} (h : l[i]? = some e) : totE (l.take (i + 1)) = totE (l.take i) + ((e.src.length : Int) + (e.dst.length : Int) + 1) := by
  unfold totE
  rw [List.take_add_one, h]
  simp
theorem Tryz.total9_loop {h0 : H} {v : SV} {l : List (List UInt8)} (w0 : View h0 1 v l.length (strs l)) : ∀ (j i k : Nat) (h : H) (acc : Int) (t : T), i + j = l.length → j < k → Calms h0 h → 0 ≤ acc → acc ≤ 1099511627776 → (acc ≤ 3000 → acc = tot (l.take i)) → getP (way 0) t = some v → getP (way 1) t = some (.int .i64 3000) → getP (way 6) t = some (.int .i64 i) → getP (way 5) t = some (.int .i64 acc) →
    Gets (cLoop Tryz.l6_0 k Tryz.l2 t h) fun fl t' h' => fl = .exit 0 ∧ Calms h0 h' ∧ ∃ r, getP (way 5) t' = some (.int .i64 r) ∧ 0 ≤ r ∧ r ≤ 1099511627776 ∧ (r ≤ 3000 → r = tot l) := by
  have hl := w0.length
  intro j
  induction j with
  | zero =>
    intro i k h acc t hi hk f h0' h1' hacc t0 t1 t6 t5
    obtain ⟨k, rfl⟩ : ∃ m, k = m + 1 := ⟨k - 1, by omega⟩
    rw [loop_succ]
    generalize (fun t h => cLoop Tryz.l6_0 k Tryz.l2 t h) = L
    unfold Tryz.l6_0
    have e1 : ltI (i : Int) (l.length : Int) = false := ltIf (by omega)
    rw [List.take_of_length_le (by omega)] at hacc
    generalize l.length = n at *
    simp [↓ kq, kq, ↓ ko, ko, ↓ kt, ↓ kz, kb, kv, kt, kx, t0, t1, t6, t5, hl, e1, gets_some, -bO_of, -bB_true, -bB_false, -H.next_push, -Int.natCast_add]
    exact ⟨f, h0', h1', hacc⟩
  | succ j ih =>
    intro i k h acc t hi hk f h0' h1' hacc t0 t1 t6 t5
    obtain ⟨k, rfl⟩ : ∃ m, k = m + 1 := ⟨k - 1, by omega⟩
    rw [loop_succ]
    generalize hL : (fun t h => cLoop Tryz.l6_0 k Tryz.l2 t h) = L
    have e1 : ltI (i : Int) (l.length : Int) = true := ltIt (by omega)
    by_cases hb : 3000 < acc
    · have e2 : ltI 3000 acc = true := ltIt hb
      unfold Tryz.l6_0
      generalize l.length = n at *
      simp [↓ kq, kq, ↓ ko, ko, ↓ kt, ↓ kz, kb, kv, kt, kx, t0, t1, t6, t5, hl, e1, e2, gets_some, -bO_of, -bB_true, -bB_false, -H.next_push, -Int.natCast_add]
      exact ⟨f, h0', h1', fun hx => by omega⟩
    · have e2 : ltI 3000 acc = false := ltIf hb
      have hacc := hacc (by omega)
      obtain ⟨s, hs⟩ : ∃ s, l[i]? = some s := ⟨l[i], List.getElem?_eq_getElem (by omega)⟩
      have hge := tot_ge (l.take i)
      rw [List.length_take, Nat.min_eq_left (by omega)] at hge
      have e3 : IntKind.i64.wrap ((i : Int) + 1) = ((i + 1 : Nat) : Int) := by rw [wrapI64 (by omega) (by omega)]; omega
      have w := w0.keep f fun _ _ k => k
      obtain ⟨p, c1, c2⟩ := w.loadV (i := i) (by omega)
      have c3 : (strs l)[i]? = some (.str s) := by unfold strs; rw [List.getElem?_map, hs]; rfl
      rw [c3] at c2
      have kc1 : kcat [1, 1] [.int .i64 (s.length : Int), .int .i64 1] = some [.int .i64 (s.length : Int), .int .i64 1] := rfl
      generalize hh1 : h.push (.cells [.int .i64 (s.length : Int), .int .i64 1] .fixed) = h1
      have f1 := calm_push hh1
      have wr : View h1 1 (.slice h.next 0 2 1 (some 2)) 2 (i64s [(s.length : Int), 1]) := view_row (cs := [.int .i64 (s.length : Int), .int .i64 1]) (rowCells_fixed (get_pushed hh1)) rfl
      obtain ⟨r, k1, k2, k3, k4⟩ := Tryz.sum7 (zs := [(s.length : Int), 1]) wr (by simp) (fun z hz => by simp at hz; rcases hz with rfl | rfl <;> omega) h0' h1'
      have k5 : r = acc + ((s.length : Int) + 1) ∨ r = 1099511627776 := by
        refine k4.imp (fun q => ?_) (fun q => q)
        rw [q]
        simp only [List.sum_cons, List.sum_nil]
        omega
      unfold Tryz.l6_0
      generalize hn : l.length = n at *
      simp [↓ kq, kq, ↓ ko, ko, ↓ kt, ↓ kz, kb, kv, kt, kx, t0, t1, t6, t5, hl, e1, e2, e3, hh1, kc1, k1, c1, c2, -bO_of, -bB_true, -bB_false, -H.next_push, -Int.natCast_add]
      rw [← hL]
      refine Gets.mono (ih (i + 1) k h1 r _ (by omega) (by omega) (f.trans f1) k2 k3 (fun hr => ?_) (by simp [kq, kb, t0]) (by simp [kq, kb, t1]) (by simp [kq, kb]) (by simp [kq, kb])) fun fl t' h' q => q
      rw [tot_take hs]
      rcases k5 with q | q
      · rw [q, hacc]
      · omega
theorem Tryz.total9 {h : H} {v : SV} {l : List (List UInt8)} (w : View h 1 v l.length (strs l)) :
    ∃ r h', Tryz.l2 6 [v, .int .i64 3000] h = some (.int .i64 r, h') ∧ Calms h h' ∧ 0 ≤ r ∧ r ≤ 1099511627776 ∧ (r ≤ 3000 → r = tot l) := by
  have main : ∃ v' h', Tryz.l2 6 [v, .int .i64 3000] h = some (v', h') ∧ (Calms h h' ∧ ∃ r, v' = .int .i64 r ∧ 0 ≤ r ∧ r ≤ 1099511627776 ∧ (r ≤ 3000 → r = tot l)) := by
    refine Go.Sh.enG Tryz.kTab_ok (X := Tryz.X2) (kf := Tryz.k6) rfl (by kernel_rfl) (l.length + 2) Tryz.k6_eq rfl ?_
    simp [↓ kq, kq, ↓ ko, ko, ↓ kt, ↓ kz, kb, kv, kt, kx, gets_some, -bO_of, -bB_true, -bB_false, -H.next_push, -Int.natCast_add]
    refine gets_next (gets_leave (Gets.mono (Tryz.total9_loop w l.length 0 (l.length + 2) h 0 _ (by omega) (by omega) .refl (by omega) (by omega) (fun _ => rfl) (by simp [kq, kb]) (by simp [kq, kb]) (by simp [kq, kb]) (by simp [kq, kb])) fun fl t' h' ⟨b1, b2, r, b3, b4, b5, b6⟩ => ?_))
    subst b1
    simp only [if_true]
    simp [↓ kq, kq, ↓ ko, ko, ↓ kt, ↓ kz, kb, kv, kt, kx, b3, gets_some, kc, oneS, -bO_of, -bB_true, -bB_false, -H.next_push, -Int.natCast_add]
    exact ⟨b2, b4, b5, b6⟩
  obtain ⟨_, h', k1, k2, r, rfl, k3⟩ := main
  exact ⟨r, h', k1, k2, k3⟩
theorem Tryz.edges8_loop {h0 : H} {v : SV} {l : List Edg} (w0 : View h0 3 v l.length (edgs l)) : ∀ (j i k : Nat) (h : H) (acc : Int) (t : T), i + j = l.length → j < k → Calms h0 h → 0 ≤ acc → acc ≤ 1099511627776 → (acc ≤ 3000 → acc = totE (l.take i)) → getP (way 0) t = some v → getP (way 1) t = some (.int .i64 3000) → getP (way 6) t = some (.int .i64 i) → getP (way 5) t = some (.int .i64 acc) →
    Gets (cLoop Tryz.l5_0 k Tryz.l2 t h) fun fl t' h' => fl = .exit 0 ∧ Calms h0 h' ∧ ∃ r, getP (way 5) t' = some (.int .i64 r) ∧ 0 ≤ r ∧ r ≤ 1099511627776 ∧ (r ≤ 3000 → r = totE l) := by
  have hl := w0.length
  intro j
  induction j with
  | zero =>
    intro i k h acc t hi hk f h0' h1' hacc t0 t1 t6 t5
    obtain ⟨k, rfl⟩ : ∃ m, k = m + 1 := ⟨k - 1, by omega⟩
    rw [loop_succ]
    generalize (fun t h => cLoop Tryz.l5_0 k Tryz.l2 t h) = L
    unfold Tryz.l5_0
    have e1 : ltI (i : Int) (l.length : Int) = false := ltIf (by omega)
    rw [List.take_of_length_le (by omega)] at hacc
    generalize l.length = n at *
    simp [↓ kq, kq, ↓ ko, ko, ↓ kt, ↓ kz, kb, kv, kt, kx, t0, t1, t6, t5, hl, e1, gets_some, -bO_of, -bB_true, -bB_false, -H.next_push, -Int.natCast_add]
    exact ⟨f, h0', h1', hacc⟩
  | succ j ih =>
    intro i k h acc t hi hk f h0' h1' hacc t0 t1 t6 t5
    obtain ⟨k, rfl⟩ : ∃ m, k = m + 1 := ⟨k - 1, by omega⟩
    rw [loop_succ]
    generalize hL : (fun t h => cLoop Tryz.l5_0 k Tryz.l2 t h) = L
    have e1 : ltI (i : Int) (l.length : Int) = true := ltIt (by omega)
    by_cases hb : 3000 < acc
    · have e2 : ltI 3000 acc = true := ltIt hb
      unfold Tryz.l5_0
      generalize l.length = n at *
      simp [↓ kq, kq, ↓ ko, ko, ↓ kt, ↓ kz, kb, kv, kt, kx, t0, t1, t6, t5, hl, e1, e2, gets_some, -bO_of, -bB_true, -bB_false, -H.next_push, -Int.natCast_add]
      exact ⟨f, h0', h1', fun hx => by omega⟩
    · have e2 : ltI 3000 acc = false := ltIf hb
      have hacc := hacc (by omega)
      obtain ⟨s, hs⟩ : ∃ s, l[i]? = some s := ⟨l[i], List.getElem?_eq_getElem (by omega)⟩
      have hge := totE_ge (l.take i)
      rw [List.length_take, Nat.min_eq_left (by omega)] at hge
      have e3 : IntKind.i64.wrap ((i : Int) + 1) = ((i + 1 : Nat) : Int) := by rw [wrapI64 (by omega) (by omega)]; omega
      have w := w0.keep f fun _ _ k => k
      obtain ⟨id, o, c1, _, c2, _, c3, _⟩ := view_edge w hs
      have kc1 : kcat [1, 1, 1] [.int .i64 (s.src.length : Int), .int .i64 (s.dst.length : Int), .int .i64 1] = some [.int .i64 (s.src.length : Int), .int .i64 (s.dst.length : Int), .int .i64 1] := rfl
      generalize hh1 : h.push (.cells [.int .i64 (s.src.length : Int), .int .i64 (s.dst.length : Int), .int .i64 1] .fixed) = h1
      have f1 := calm_push hh1
      have wr : View h1 1 (.slice h.next 0 3 1 (some 3)) 3 (i64s [(s.src.length : Int), (s.dst.length : Int), 1]) := view_row (cs := [.int .i64 (s.src.length : Int), .int .i64 (s.dst.length : Int), .int .i64 1]) (rowCells_fixed (get_pushed hh1)) rfl
      obtain ⟨r, k1, k2, k3, k4⟩ := Tryz.sum7 (zs := [(s.src.length : Int), (s.dst.length : Int), 1]) wr (by simp) (fun z hz => by simp at hz; rcases hz with rfl | rfl | rfl <;> omega) h0' h1'
      have k5 : r = acc + ((s.src.length : Int) + (s.dst.length : Int) + 1) ∨ r = 1099511627776 := by
        refine k4.imp (fun q => ?_) (fun q => q)
        rw [q]
        simp only [List.sum_cons, List.sum_nil]
        omega
      unfold Tryz.l5_0
      generalize hn : l.length = n at *
      simp [↓ kq, kq, ↓ ko, ko, ↓ kt, ↓ kz, kb, kv, kt, kx, t0, t1, t6, t5, hl, e1, e2, e3, hh1, kc1, k1, c1, c2, c3, -bO_of, -bB_true, -bB_false, -H.next_push, -Int.natCast_add]
      rw [← hL]
      refine Gets.mono (ih (i + 1) k h1 r _ (by omega) (by omega) (f.trans f1) k2 k3 (fun hr => ?_) (by simp [kq, kb, t0]) (by simp [kq, kb, t1]) (by simp [kq, kb]) (by simp [kq, kb])) fun fl t' h' q => q
      rw [totE_take hs]
      rcases k5 with q | q
      · rw [q, hacc]
      · omega
theorem Tryz.edges8 {h : H} {v : SV} {l : List Edg} (w : View h 3 v l.length (edgs l)) :
    ∃ r h', Tryz.l2 5 [v, .int .i64 3000] h = some (.int .i64 r, h') ∧ Calms h h' ∧ 0 ≤ r ∧ r ≤ 1099511627776 ∧ (r ≤ 3000 → r = totE l) := by
  have main : ∃ v' h', Tryz.l2 5 [v, .int .i64 3000] h = some (v', h') ∧ (Calms h h' ∧ ∃ r, v' = .int .i64 r ∧ 0 ≤ r ∧ r ≤ 1099511627776 ∧ (r ≤ 3000 → r = totE l)) := by
    refine Go.Sh.enG Tryz.kTab_ok (X := Tryz.X2) (kf := Tryz.k5) rfl (by kernel_rfl) (l.length + 2) Tryz.k5_eq rfl ?_
    simp [↓ kq, kq, ↓ ko, ko, ↓ kt, ↓ kz, kb, kv, kt, kx, gets_some, -bO_of, -bB_true, -bB_false, -H.next_push, -Int.natCast_add]
    refine gets_next (gets_leave (Gets.mono (Tryz.edges8_loop w l.length 0 (l.length + 2) h 0 _ (by omega) (by omega) .refl (by omega) (by omega) (fun _ => rfl) (by simp [kq, kb]) (by simp [kq, kb]) (by simp [kq, kb]) (by simp [kq, kb])) fun fl t' h' ⟨b1, b2, r, b3, b4, b5, b6⟩ => ?_))
    subst b1
    simp only [if_true]
    simp [↓ kq, kq, ↓ ko, ko, ↓ kt, ↓ kz, kb, kv, kt, kx, b3, gets_some, kc, oneS, -bO_of, -bB_true, -bB_false, -H.next_push, -Int.natCast_add]
    exact ⟨b2, b4, b5, b6⟩
  obtain ⟨_, h', k1, k2, r, rfl, k3⟩ := main
  exact ⟨r, h', k1, k2, k3⟩
end
end Go.Proofs
end
section
/- Orders of texts; what rises. -/
namespace Go.Proofs
open Go.Sh
set_option linter.unusedVariables false
/-- A strict order of all. -/
structure Ord {α : Type} (R : α → α → Prop) : Prop where
  irr : ∀ a, ¬ R a a
  trans : ∀ a b c, R a b → R b c → R a c
  tri : ∀ a b, ¬ R a b → ¬ R b a → a = b
theorem insert_rises {α : Type} {R : α → α → Prop} (o : Ord R) {S : List α} (hS : S.Pairwise R) {z : α} {a : Nat} (h1 : ∀ y ∈ S.drop a, R z y) (h2 : ∀ b, a = b + 1 → ∃ y, S[b]? = some y ∧ ¬ R z y) (hz : ∀ b, a = b + 1 → S[b]? ≠ some z) : (S.take a ++ z :: S.drop a).Pairwise R ∧ ∀ x, x ∈ S.take a ++ z :: S.drop a ↔ x ∈ S ∨ x = z := by
  have hlow : ∀ y ∈ S.take a, R y z := fun y hy => by
    obtain ⟨c, hc, rfl⟩ := List.mem_iff_getElem.1 hy
    have hc : c < a ∧ c < S.length := by rw [List.length_take] at hc; omega
    obtain ⟨b, rfl⟩ : ∃ b, a = b + 1 := ⟨a - 1, by omega⟩
    obtain ⟨y, e1, e2⟩ := h2 b rfl
    obtain ⟨hb, rfl⟩ := List.getElem?_eq_some_iff.1 e1
    have hne : S[b] ≠ z := fun e => hz b rfl (by rw [e1, e])
    have hbz : R S[b] z := by
      rcases Classical.em (R S[b] z) with h | h
      · exact h
      · exact absurd (o.tri _ _ h e2) hne
    rw [List.getElem_take]
    rcases Nat.lt_or_ge c b with h | h
    · exact o.trans _ _ _ (List.pairwise_iff_getElem.1 hS c b (by omega) hb h) hbz
    · have : c = b := by omega
      subst this; exact hbz
  have hsplit := List.take_append_drop a S
  have hp := hS
  rw [← hsplit, List.pairwise_append] at hp
  refine ⟨?_, fun x => ?_⟩
  · rw [List.pairwise_append]
    refine ⟨hp.1, List.pairwise_cons.2 ⟨h1, hp.2.1⟩, fun x hx y hy => ?_⟩
    rcases List.mem_cons.1 hy with rfl | hy
    · exact hlow x hx
    · exact hp.2.2 x hx y hy
  · rw [List.mem_append, List.mem_cons]
    constructor
    · rintro (h | rfl | h)
      · exact .inl (List.mem_of_mem_take h)
      · exact .inr rfl
      · exact .inl (List.mem_of_mem_drop h)
    · rintro (h | rfl)
      · rw [← hsplit, List.mem_append] at h
        rcases h with h | h
        · exact .inl h
        · exact .inr (.inr h)
      · exact .inr (.inl rfl)
theorem rises_ext {α : Type} {R : α → α → Prop} (o : Ord R) : ∀ {a b : List α}, a.Pairwise R → b.Pairwise R → (∀ x, x ∈ a ↔ x ∈ b) → a = b
  | [], [], _, _, _ => rfl
  | [], y :: b, _, _, h => by have := (h y).2 (List.mem_cons_self ..); simp at this
  | x :: a, [], _, _, h => by have := (h x).1 (List.mem_cons_self ..); simp at this
  | x :: a, y :: b, ha, hb, h => by
    rw [List.pairwise_cons] at ha hb
    have e : x = y := by
      rcases List.mem_cons.1 ((h x).1 (List.mem_cons_self ..)) with e | e
      · exact e
      · rcases List.mem_cons.1 ((h y).2 (List.mem_cons_self ..)) with e' | e'
        · exact e'.symm
        · exact absurd (o.trans _ _ _ (ha.1 y e') (hb.1 x e)) (o.irr x)
    subst e
    rw [rises_ext o ha.2 hb.2 fun z => ?_]
    constructor
    · intro hz
      rcases List.mem_cons.1 ((h z).1 (List.mem_cons_of_mem _ hz)) with e | e
      · subst e; exact absurd (ha.1 z hz) (o.irr z)
      · exact e
    · intro hz
      rcases List.mem_cons.1 ((h z).2 (List.mem_cons_of_mem _ hz)) with e | e
      · subst e; exact absurd (hb.1 z hz) (o.irr z)
      · exact e
def BLt (a b : List UInt8) : Prop := ltBytes a b = true
theorem blt_cons {x y : UInt8} {a b : List UInt8} : BLt (x :: a) (y :: b) ↔ x.toNat < y.toNat ∨ x.toNat = y.toNat ∧ BLt a b := by
  unfold BLt
  simp [ltBytes, Nat.blt_eq]
theorem bOrd : Ord BLt where
  irr := fun a => by
    induction a with
    | nil => intro h; cases h
    | cons x a ih =>
      rw [blt_cons]
      rintro (h | ⟨_, h⟩)
      · omega
      · exact ih h
  trans := fun a => by
    induction a with
    | nil =>
      intro b c h1 h2
      cases c with
      | nil => cases b <;> cases h2
      | cons z c => rfl
    | cons x a ih =>
      intro b c h1 h2
      cases b with
      | nil => cases h1
      | cons y b =>
        cases c with
        | nil => cases h2
        | cons z c =>
          rw [blt_cons] at *
          rcases h1 with h1 | ⟨h1, h3⟩
          · rcases h2 with h2 | ⟨h2, h4⟩
            · exact .inl (by omega)
            · exact .inl (by omega)
          · rcases h2 with h2 | ⟨h2, h4⟩
            · exact .inl (by omega)
            · exact .inr ⟨by omega, ih _ _ h3 h4⟩
  tri := fun a => by
    induction a with
    | nil =>
      intro b h1 h2
      cases b with
      | nil => rfl
      | cons y b => exact absurd rfl h1
    | cons x a ih =>
      intro b h1 h2
      cases b with
      | nil => exact absurd rfl h2
      | cons y b =>
        rw [blt_cons] at h1 h2
        have hxy : x.toNat = y.toNat := by
          rcases Nat.lt_trichotomy x.toNat y.toNat with h | h | h
          · exact absurd (.inl h) h1
          · exact h
          · exact absurd (.inl h) h2
        have : x = y := UInt8.toNat_inj.1 hxy
        subst this
        rw [ih b (fun h => h1 (.inr ⟨rfl, h⟩)) (fun h => h2 (.inr ⟨rfl, h⟩))]
theorem eqBytes_iff {a b : List UInt8} : eqBytes a b = true ↔ a = b := by
  rw [eqBytes_eq]; simp
theorem gtr_true {y z : List UInt8} (h : BLt z y) : strOp .gtr y z = some (.bool true) := by
  have h1 : ltBytes y z = false := by
    cases e : ltBytes y z with
    | false => rfl
    | true => exact absurd (bOrd.trans _ _ _ h e) (bOrd.irr z)
  have h2 : eqBytes y z = false := by
    cases e : eqBytes y z with
    | false => rfl
    | true => rw [eqBytes_iff] at e; subst e; exact absurd h (bOrd.irr _)
  simp [strOp, h1, h2]
theorem gtr_false {y z : List UInt8} (h : ¬ BLt z y) : strOp .gtr y z = some (.bool false) := by
  have h1 : (ltBytes y z || eqBytes y z) = true := by
    cases e : ltBytes y z with
    | true => rfl
    | false =>
      have : y = z := bOrd.tri _ _ (fun k => by unfold BLt at k; rw [e] at k; cases k) h
      rw [eqBytes_iff.2 this]; rfl
  simp [strOp, h1]
theorem eqB_self (z : List UInt8) : eqB z z = true := by rw [eqB_eq]; exact eqBytes_iff.2 rfl
theorem eqB_ne {y z : List UInt8} (h : y ≠ z) : eqB y z = false := by
  cases e : eqB y z with
  | false => rfl
  | true => rw [eqB_eq] at e; exact absurd (eqBytes_iff.1 e) h
theorem strs_get (l : List (List UInt8)) (i : Nat) (h : i < l.length) : (strs l)[i]? = some (.str l[i]) := by
  unfold strs; rw [List.getElem?_map, List.getElem?_eq_getElem h]; rfl
theorem strs_append (a b : List (List UInt8)) : strs (a ++ b) = strs a ++ strs b := by simp [strs]
theorem strs_set (a : List (List UInt8)) (i : Nat) (x : List UInt8) : (strs a).set i (.str x) = strs (a.set i x) := by simp [strs, List.map_set]
end Go.Proofs
end
section
/- ChaWithin: the reference's texts, in order, each once. -/
namespace Go.Proofs
open Go.Sh
set_option linter.unusedVariables false
attribute [local instance] powHeld
noncomputable section
/-- where a number goes: what stands at and behind it is above -/
def PosEnd (S : List (List UInt8)) (z : List UInt8) (t' : T) : Prop := ∃ a, getP (way 5) t' = some (.int .i64 (a : Nat)) ∧ a ≤ S.length ∧ (∀ y ∈ S.drop a, BLt z y) ∧ (∀ b, a = b + 1 → ∃ y, S[b]? = some y ∧ ¬ BLt z y)
theorem Tryz.pos_loop {v out : SV} {h : H} {zs S : List (List UInt8)} {z : List UInt8} {i : Nat} (w : View h 1 v zs.length (strs zs)) (hi : i < zs.length) (hz : zs[i]? = some z) (wo : View h 1 out S.length (strs S)) (hS : S.length < 4294967296) : ∀ (a k : Nat) (t : T), a ≤ S.length → a < k → (∀ y ∈ S.drop a, BLt z y) →
    getP (way 0) t = some v → getP (way 3) t = some out → getP (way 4) t = some (.int .i64 i) → getP (way 5) t = some (.int .i64 a) →
    Gets (cLoop Tryz.l125_1 k Tryz.l2 t h) fun fl t' h' => fl = .exit 2 ∧ h' = h ∧ getP (way 0) t' = some v ∧ getP (way 3) t' = some out ∧ getP (way 4) t' = some (.int .i64 i) ∧ PosEnd S z t' := by
  intro a
  obtain ⟨pA, x2, x3⟩ := w.loadV (i := i) (by omega)
  have x3 : loadV none h.get pA = some (.str z) := by
    rw [x3, strs, List.getElem?_map, hz]; rfl
  induction a with
  | zero =>
    intro k t ha hk hup t0 t3 t4 t5
    obtain ⟨k, rfl⟩ : ∃ m, k = m + 1 := ⟨k - 1, by omega⟩
    rw [loop_succ]
    generalize (fun t h => cLoop Tryz.l125_1 k Tryz.l2 t h) = L
    unfold Tryz.l125_1
    have e1 : ltI 0 0 = false := rfl
    have t5 : getP (way 5) t = some (.int .i64 0) := t5
    simp [↓ kq, kq, ↓ ko, ko, ↓ kt, ↓ kz, kb, kv, kt, kx, t0, t3, t4, t5, e1, gets_some, -bO_of, -bB_true, -bB_false, -H.next_push, -Int.natCast_add]
    exact ⟨0, by simp [kq, t5], by omega, hup, fun b hb => by omega⟩
  | succ a ih =>
    intro k t ha hk hup t0 t3 t4 t5
    obtain ⟨k, rfl⟩ : ∃ m, k = m + 1 := ⟨k - 1, by omega⟩
    rw [loop_succ]
    generalize hL : (fun t h => cLoop Tryz.l125_1 k Tryz.l2 t h) = L
    unfold Tryz.l125_1
    have e1 : ltI 0 ((a + 1 : Nat) : Int) = true := by rw [ltI_eq]; exact decide_eq_true (by omega)
    have e2 : IntKind.i64.wrap (((a + 1 : Nat) : Int) - 1) = (a : Int) := by
      rw [show ((a + 1 : Nat) : Int) - 1 = (a : Int) by omega]; exact wrapI64 (by omega) (by omega)
    obtain ⟨pB, y2, y3⟩ := wo.loadV (i := a) (by omega)
    rw [strs_get S a (by omega)] at y3
    have hd : S.drop a = S[a] :: S.drop (a + 1) := List.drop_eq_getElem_cons (by omega)
    have hg : S[a]? = some S[a] := List.getElem?_eq_getElem (by omega)
    generalize hy : S[a] = y at *
    by_cases e : BLt z y
    · have e3 : strOp .gtr y z = some (.bool true) := gtr_true e
      simp [↓ kq, kq, ↓ ko, ko, ↓ kt, ↓ kz, kb, kv, kt, kx, t0, t3, t4, t5, e1, e2, e3, x2, x3, y2, y3, -bO_of, -bB_true, -bB_false, -H.next_push, -Int.natCast_add]
      rw [← hL]
      refine ih k _ (by omega) (by omega) ?_ ?_ ?_ ?_ ?_
      · intro u hu
        rw [hd] at hu
        rcases List.mem_cons.1 hu with rfl | hu
        · exact e
        · exact hup u hu
      · simp [kq, t0]
      · simp [kq, t3]
      · simp [kq, t4]
      · simp [kq]
    · have e3 : strOp .gtr y z = some (.bool false) := gtr_false e
      have hend : ∀ t', getP (way 5) t' = getP (way 5) t → PosEnd S z t' := fun t' e5 => ⟨a + 1, by rw [e5]; exact t5, by omega, hup, fun b hb => ⟨y, by rw [show b = a by omega]; exact hg, e⟩⟩
      simp [↓ kq, kq, ↓ ko, ko, ↓ kt, ↓ kz, kb, kv, kt, kx, t0, t3, t4, t5, e1, e2, e3, x2, x3, y2, y3, gets_some, -bO_of, -bB_true, -bB_false, -H.next_push, -Int.natCast_add]
      exact hend _ (by simp [kq])
/-- moving up what stands behind a place -/
theorem Tryz.shift_loop {hb : H} {S : List (List UInt8)} {a : Nat} {v : SV} {i : Nat} (hS : S.length < 65536) : ∀ (j b k : Nat) (t : T) (h : H) (out : SV), a + j = b → b ≤ S.length → j < k → Gro h hb.next 1 out (S.length + 1) (strs ((S ++ [[]]).take (b + 1) ++ S.drop b)) → Fr (fun _ => False) (fun _ => False) hb h →
    getP (way 0) t = some v → getP (way 3) t = some out → getP (way 4) t = some (.int .i64 i) → getP (way 5) t = some (.int .i64 a) → getP (way 6) t = some (.int .i64 b) →
    Gets (cLoop Tryz.l125_0 k Tryz.l2 t h) fun fl t' h' => fl = .exit 4 ∧ getP (way 0) t' = some v ∧ getP (way 3) t' = some out ∧ getP (way 4) t' = some (.int .i64 i) ∧ getP (way 5) t' = some (.int .i64 a) ∧ Gro h' hb.next 1 out (S.length + 1) (strs ((S ++ [[]]).take (a + 1) ++ S.drop a)) ∧ Fr (fun _ => False) (fun _ => False) hb h' := by
  intro j
  induction j with
  | zero =>
    intro b k t h out hb' hbl hk g fb t0 t3 t4 t5 t6
    obtain ⟨k, rfl⟩ : ∃ m, k = m + 1 := ⟨k - 1, by omega⟩
    rw [loop_succ]
    generalize (fun t h => cLoop Tryz.l125_0 k Tryz.l2 t h) = L
    unfold Tryz.l125_0
    obtain rfl : b = a := by omega
    have e1 : ltI (b : Int) b = false := by rw [ltI_eq]; exact decide_eq_false (by omega)
    simp [↓ kq, kq, ↓ ko, ko, ↓ kt, ↓ kz, kb, kv, kt, kx, t0, t3, t4, t5, t6, e1, gets_some, -bO_of, -bB_true, -bB_false, -H.next_push, -Int.natCast_add]
    exact ⟨g, fb⟩
  | succ j ih =>
    intro b k t h out hb' hbl hk g fb t0 t3 t4 t5 t6
    obtain ⟨k, rfl⟩ : ∃ m, k = m + 1 := ⟨k - 1, by omega⟩
    rw [loop_succ]
    generalize hL : (fun t h => cLoop Tryz.l125_0 k Tryz.l2 t h) = L
    unfold Tryz.l125_0
    obtain ⟨b, rfl⟩ : ∃ c, b = c + 1 := ⟨b - 1, by omega⟩
    have e1 : ltI (a : Int) ((b + 1 : Nat) : Int) = true := by rw [ltI_eq]; exact decide_eq_true (by omega)
    have e2 : IntKind.i64.wrap (((b + 1 : Nat) : Int) - 1) = (b : Int) := by
      rw [show ((b + 1 : Nat) : Int) - 1 = (b : Int) by omega]; exact wrapI64 (by omega) (by omega)
    obtain ⟨pB, y2, y3⟩ := g.view.loadV (i := b) (by omega)
    have ht : ((S ++ [[]]).take (b + 1 + 1)).length = b + 1 + 1 := by simp; omega
    have hl : ((S ++ [[]]).take (b + 1 + 1) ++ S.drop (b + 1)).length = S.length + 1 := by rw [List.length_append, ht, List.length_drop]; omega
    rw [strs_get _ b (by omega)] at y3
    have hy : ((S ++ [[]]).take (b + 1 + 1) ++ S.drop (b + 1))[b]'(by omega) = S[b] := by
      rw [List.getElem_append_left (by omega), List.getElem_take, List.getElem_append_left (by omega)]
    rw [hy] at y3
    obtain ⟨pC, h2, z2, z3, z4, z5⟩ := g.store (i := b + 1) (by omega) (x := .str S[b]) rfl
    rw [strs_set] at z4
    have hset : (((S ++ [[]]).take (b + 1 + 1) ++ S.drop (b + 1)).set (b + 1) S[b]) = (S ++ [[]]).take (b + 1) ++ S.drop b := by
      rw [List.set_append_left _ _ (by omega), List.drop_eq_getElem_cons (show b < S.length by omega), List.take_succ_eq_append_getElem (show b + 1 < (S ++ [[]]).length by simp; omega)]
      rw [List.set_append_right _ _ (by simp; omega)]
      have : (b + 1 - (List.take (b + 1) (S ++ [[]])).length) = 0 := by simp; omega
      rw [this, List.append_assoc]
      rfl
    rw [hset] at z4
    generalize S[b] = y at *
    simp [↓ kq, kq, ↓ ko, ko, ↓ kt, ↓ kz, kb, kv, kt, kx, t0, t3, t4, t5, t6, e1, e2, y2, y3, z2, z3, -bO_of, -bB_true, -bB_false, -H.next_push, -Int.natCast_add]
    rw [← hL]
    refine ih b k _ h2 out (by omega) (by omega) (by omega) z4 (Fr.new fb z5 (fun q e => e) (fun q e => e)) ?_ ?_ ?_ ?_ ?_
    · simp [kq, t0]
    · simp [kq, t3]
    · simp [kq, t4]
    · simp [kq, t5]
    · simp [kq]
def RiseEnd (hb : H) (zs : List (List UInt8)) (t' : T) (h' : H) : Prop := ∃ out S, getP (way 3) t' = some out ∧ Gro h' hb.next 1 out S.length (strs S) ∧ S.Pairwise BLt ∧ (∀ x, x ∈ S ↔ x ∈ zs) ∧ S.length ≤ zs.length ∧ Fr (fun _ => False) (fun _ => False) hb h'
theorem Tryz.rise_loop {hb : H} {v : SV} {zs : List (List UInt8)} (w : View hb 1 v zs.length (strs zs)) (hl : zs.length < 60000) : ∀ (j i k : Nat) (t : T) (h : H) (out : SV) (S : List (List UInt8)), i + j = zs.length → j + zs.length + 3 < k → Gro h hb.next 1 out S.length (strs S) → S.Pairwise BLt → (∀ x, x ∈ S ↔ x ∈ zs.take i) → S.length ≤ i → Fr (fun _ => False) (fun _ => False) hb h →
    getP (way 0) t = some v → getP (way 3) t = some out → getP (way 4) t = some (.int .i64 i) →
    Gets (cLoop Tryz.l125_2 k Tryz.l2 t h) fun fl t' h' => fl = .exit 0 ∧ RiseEnd hb zs t' h' := by
  intro j
  induction j with
  | zero =>
    intro i k t h out S hi hk g hS hm hn fb t0 t3 t4
    obtain ⟨k, rfl⟩ : ∃ m, k = m + 1 := ⟨k - 1, by omega⟩
    rw [loop_succ]
    generalize (fun t h => cLoop Tryz.l125_2 k Tryz.l2 t h) = L
    unfold Tryz.l125_2
    have e1 : ltI (i : Int) zs.length = false := by rw [ltI_eq]; exact decide_eq_false (by omega)
    simp [↓ kq, kq, ↓ ko, ko, ↓ kt, ↓ kz, kb, kv, kt, kx, t0, t3, t4, w.length, e1, gets_some, -bO_of, -bB_true, -bB_false, -H.next_push, -Int.natCast_add]
    rw [List.take_of_length_le (by omega)] at hm
    exact ⟨out, S, by simp [kq, t3], g, hS, hm, by omega, fb⟩
  | succ j ih =>
    intro i k t h out S hi hk g hS hm hn fb t0 t3 t4
    obtain ⟨k, rfl⟩ : ∃ m, k = m + 1 := ⟨k - 1, by omega⟩
    rw [loop_succ]
    generalize hL : (fun t h => cLoop Tryz.l125_2 k Tryz.l2 t h) = L
    unfold Tryz.l125_2
    have e1 : ltI (i : Int) zs.length = true := by rw [ltI_eq]; exact decide_eq_true (by omega)
    have e2 : IntKind.i64.wrap ((i : Int) + 1) = ((i + 1 : Nat) : Int) := by
      rw [Int.natCast_add]; exact wrapI64 (by omega) (by omega)
    obtain ⟨z, hz⟩ : ∃ z, zs[i]? = some z := ⟨zs[i]'(by omega), List.getElem?_eq_getElem (by omega)⟩
    have hmem : ∀ x, x ∈ zs.take (i + 1) ↔ x ∈ zs.take i ∨ x = z := fun x => by
      obtain ⟨hi', rfl⟩ := List.getElem?_eq_some_iff.1 hz
      rw [List.take_succ_eq_append_getElem hi', List.mem_append, List.mem_singleton]
    have w' := w.keep fb fun _ _ k => k
    simp [↓ kq, kq, ↓ ko, ko, ↓ kt, ↓ kz, kb, kv, kt, kx, t0, t3, t4, w.length, g.view.length, e1, -bO_of, -bB_true, -bB_false, -H.next_push, -Int.natCast_add]
    refine gets_next (gets_next (gets_leave (gets_next (gets_leave (Gets.mono (Tryz.pos_loop w' (by omega) hz g.view (by omega) S.length (k + 1) _ (Nat.le_refl _) (by omega) (by rw [List.drop_length]; simp) ?_ ?_ ?_ ?_) fun fl t' h' ⟨b1, b2, b3, b4, b5, a, b6, b7, b8, b9⟩ => ?_)))))
    · simp [kq, t0]
    · simp [kq, t3]
    · simp [kq, t4]
    · simp [kq]
    subst b1 b2
    obtain ⟨pA, x2, x3⟩ := w'.loadV (i := i) (by omega)
    have x3 : loadV none h'.get pA = some (.str z) := by
      rw [x3, strs, List.getElem?_map, hz]; rfl
    have again : ∀ t2 h2 out2 S2, Gro h2 hb.next 1 out2 S2.length (strs S2) → S2.Pairwise BLt → (∀ x, x ∈ S2 ↔ x ∈ zs.take (i + 1)) → S2.length ≤ i + 1 → Fr (fun _ => False) (fun _ => False) hb h2 → getP (way 0) t2 = some v → getP (way 3) t2 = some out2 → getP (way 4) t2 = some (.int .i64 ((i + 1 : Nat) : Int)) → Gets (L t2 h2) fun fl t' h' => fl = .exit 0 ∧ RiseEnd hb zs t' h' := fun t2 h2 out2 S2 q1 q2 q3 q4 q5 q6 q7 q8 => by
      rw [← hL]
      exact ih (i + 1) k t2 h2 out2 S2 (by omega) (by omega) q1 q2 q3 q4 q5 q6 q7 q8
    have notin : (∀ b, a = b + 1 → S[b]? ≠ some z) → ∃ out2 h3, kappend (h'.push (.cells [.str []] .fixed)) 16 1 1 [.str []] out = some (out2, h3) ∧ Gro h3 hb.next 1 out2 (S.length + 1) (strs (S ++ [[]])) ∧ Fr (fun _ => False) (fun _ => False) hb h3 := fun _ => by
      have fp : Fr (fun _ => False) (fun _ => False) h' (h'.push (.cells [.str []] .fixed)) := .push
      obtain ⟨out2, h3, k1, k2, k3⟩ := (g.keep fp fun _ _ k => k).append (bytes := 16) 1 [.str []] rfl (by omega) (Nat.le_trans fb.next fp.next)
      exact ⟨out2, h3, k1, by rw [strs_append]; exact k2, Fr.new (fb.trans fp) k3 (fun q e => e) (fun q e => e.elim)⟩
    have fin : ∀ out2 h3, (∀ b, a = b + 1 → S[b]? ≠ some z) → Gro h3 hb.next 1 out2 (S.length + 1) (strs ((S ++ [[]]).take (a + 1) ++ S.drop a)) → Fr (fun _ => False) (fun _ => False) hb h3 → ∃ pC h4, atIdx 1 a out2 = some pC ∧ storeV 1 h3 pC (.str z) = some (.tuple [], h4) ∧ Gro h4 hb.next 1 out2 (S.take a ++ z :: S.drop a).length (strs (S.take a ++ z :: S.drop a)) ∧ Fr (fun _ => False) (fun _ => False) hb h4 ∧ View h3 1 v zs.length (strs zs) := fun out2 h3 hne g3 f3 => by
      obtain ⟨pC, h4, z1, z2, z3, z4⟩ := g3.store (i := a) (by omega) (x := .str z) rfl
      rw [strs_set] at z3
      have ht : ((S ++ [[]]).take a).length = a := by simp; omega
      have hset : (((S ++ [[]]).take (a + 1) ++ S.drop a).set a z) = S.take a ++ z :: S.drop a := by
        rw [List.take_succ_eq_append_getElem (show a < (S ++ [[]]).length by simp; omega), List.append_assoc, List.set_append_right _ _ (by omega), ht, Nat.sub_self, List.take_append_of_le_length b7]
        rfl
      rw [hset] at z3
      have hlen : (S.take a ++ z :: S.drop a).length = S.length + 1 := by simp; omega
      rw [← hlen] at z3
      exact ⟨pC, h4, z1, z2, z3, Fr.new f3 z4 (fun q e => e) (fun q e => e), w.keep f3 fun _ _ k => k⟩
    by_cases hin : ∃ b, a = b + 1 ∧ S[b]? = some z
    · obtain ⟨b, rfl, hb1⟩ := hin
      have e3 : ltI 0 ((b + 1 : Nat) : Int) = true := by rw [ltI_eq]; exact decide_eq_true (by omega)
      have e4 : IntKind.i64.wrap (((b + 1 : Nat) : Int) - 1) = (b : Int) := by
        rw [show ((b + 1 : Nat) : Int) - 1 = (b : Int) by omega]; exact wrapI64 (by omega) (by omega)
      obtain ⟨pB, y2, y3⟩ := g.view.loadV (i := b) (by omega)
      have y3 : loadV none h'.get pB = some (.str z) := by
        rw [y3, strs, List.getElem?_map, hb1]; rfl
      have e5 : eqB z z = true := eqB_self z
      simp [↓ kq, kq, ↓ ko, ko, ↓ kt, ↓ kz, kb, kv, kt, kx, b3, b4, b5, b6, e2, e3, e4, e5, x2, x3, y2, y3, gets_some, -bO_of, -bB_true, -bB_false, -H.next_push, -Int.natCast_add]
      refine again _ h' out S g hS (fun x => ?_) (by omega) fb ?_ ?_ ?_
      · rw [hmem, hm]
        constructor
        · exact .inl
        · rintro (k | rfl)
          · exact k
          · exact (hm x).1 (List.mem_of_getElem? hb1)
      · simp [kq, b3]
      · simp [kq, b4]
      · simp [kq, -Int.natCast_add]
    have hne : ∀ b, a = b + 1 → S[b]? ≠ some z := fun b h1 h2 => hin ⟨b, h1, h2⟩
    obtain ⟨out2, h3, k1, k2, k3⟩ := notin hne
    have k1' : appendV 16 1 (h'.push (.cells [.str []] .fixed)) out (.slice h'.next 0 1 1 (some 1)) = some (out2, h3) := by
      have : rowCells (h'.push (.cells [.str []] .fixed)).get h'.next = some [.str []] := rowCells_push
      have src : srcCells (h'.push (.cells [.str []] .fixed)).get 1 1 (.slice h'.next 0 1 1 (some 1)) = some [.str []] := by
        simp only [srcCells, this]; rfl
      show bO (srcCells (h'.push (.cells [.str []] .fixed)).get 1 1 (.slice h'.next 0 1 1 (some 1))) _ = _
      rw [src]; exact k1
    have kc1 : kcat [1] [.str []] = some [.str []] := rfl
    generalize hh2 : h'.push (.cells [.str []] .fixed) = h2 at k1'
    have e6 : IntKind.i64.wrap (((S.length + 1 : Nat) : Int) - 1) = (S.length : Int) := by
      rw [show ((S.length + 1 : Nat) : Int) - 1 = (S.length : Int) by omega]; exact wrapI64 (by omega) (by omega)
    have tail : ∀ t4 h4 out4, Gro h4 hb.next 1 out4 (S.take a ++ z :: S.drop a).length (strs (S.take a ++ z :: S.drop a)) → Fr (fun _ => False) (fun _ => False) hb h4 → getP (way 0) t4 = some v → getP (way 3) t4 = some out4 → getP (way 4) t4 = some (.int .i64 ((i + 1 : Nat) : Int)) → Gets (L t4 h4) fun fl t' h' => fl = .exit 0 ∧ RiseEnd hb zs t' h' := fun t4 h4 out4 q1 q2 q3 q4 q5 => by
      obtain ⟨m1, m2⟩ := insert_rises bOrd hS b8 b9 hne
      refine again t4 h4 out4 _ q1 m1 (fun x => ?_) ?_ q2 q3 q4 q5
      · rw [m2, hmem, hm]
      · simp; omega
    rcases Nat.eq_zero_or_pos a with a0 | a0
    · have e3 : ltI 0 (a : Int) = false := by rw [ltI_eq]; exact decide_eq_false (by omega)
      simp [↓ kq, kq, ↓ ko, ko, ↓ kt, ↓ kz, kb, kv, kt, kx, b3, b4, b5, b6, e3, e6, hh2, kc1, k1', k2.view.length, -bO_of, -bB_true, -bB_false, -H.next_push, -Int.natCast_add]
      refine gets_next (gets_leave (Gets.mono (Tryz.shift_loop (i := i) (v := v) (a := a) (by omega) (S.length - a) S.length (k + 1) _ h3 out2 (by omega) (Nat.le_refl _) (by omega) (by rw [List.drop_length, List.append_nil, List.take_of_length_le (by simp)]; exact k2) k3 ?_ ?_ ?_ ?_ ?_) fun fl t4 h4 ⟨c1, c2, c3, c4, c5, c6, c7⟩ => ?_))
      · simp [kq, b3]
      · simp [kq]
      · simp [kq, b5]
      · simp [kq, b6]
      · simp [kq]
      subst c1
      obtain ⟨pC, h5, d1, d2, d3, d4, d5⟩ := fin out2 h4 hne c6 c7
      obtain ⟨pD, u2, u3⟩ := d5.loadV (i := i) (by omega)
      have u3 : loadV none h4.get pD = some (.str z) := by
        rw [u3, strs, List.getElem?_map, hz]; rfl
      simp [↓ kq, kq, ↓ ko, ko, ↓ kt, ↓ kz, kb, kv, kt, kx, c2, c3, c4, c5, e2, u2, u3, d1, d2, gets_some, -bO_of, -bB_true, -bB_false, -H.next_push, -Int.natCast_add]
      refine tail _ h5 out2 d3 d4 ?_ ?_ ?_
      · simp [kq, c2]
      · simp [kq, c3]
      · simp [kq, -Int.natCast_add]

    · obtain ⟨b, rfl⟩ : ∃ c, a = c + 1 := ⟨a - 1, by omega⟩
      have e3 : ltI 0 ((b + 1 : Nat) : Int) = true := by rw [ltI_eq]; exact decide_eq_true (by omega)
      have e4 : IntKind.i64.wrap (((b + 1 : Nat) : Int) - 1) = (b : Int) := by
        rw [show ((b + 1 : Nat) : Int) - 1 = (b : Int) by omega]; exact wrapI64 (by omega) (by omega)
      obtain ⟨y, y0, _⟩ := b9 b rfl
      obtain ⟨pB, y2, y3⟩ := g.view.loadV (i := b) (by omega)
      have y3 : loadV none h'.get pB = some (.str y) := by
        rw [y3, strs, List.getElem?_map, y0]; rfl
      have e5 : eqB y z = false := eqB_ne fun e => hne b rfl (by rw [y0, e])
      simp [↓ kq, kq, ↓ ko, ko, ↓ kt, ↓ kz, kb, kv, kt, kx, b3, b4, b5, b6, e3, e4, e5, e6, x2, x3, y2, y3, hh2, kc1, k1', k2.view.length, -bO_of, -bB_true, -bB_false, -H.next_push, -Int.natCast_add]
      refine gets_next (gets_leave (Gets.mono (Tryz.shift_loop (i := i) (v := v) (a := b + 1) (by omega) (S.length - (b + 1)) S.length (k + 1) _ h3 out2 (by omega) (Nat.le_refl _) (by omega) (by rw [List.drop_length, List.append_nil, List.take_of_length_le (by simp)]; exact k2) k3 ?_ ?_ ?_ ?_ ?_) fun fl t4 h4 ⟨c1, c2, c3, c4, c5, c6, c7⟩ => ?_))
      · simp [kq, b3]
      · simp [kq]
      · simp [kq, b5]
      · simp [kq, b6]
      · simp [kq]
      subst c1
      obtain ⟨pC, h5, d1, d2, d3, d4, d5⟩ := fin out2 h4 hne c6 c7
      obtain ⟨pD, u2, u3⟩ := d5.loadV (i := i) (by omega)
      have u3 : loadV none h4.get pD = some (.str z) := by
        rw [u3, strs, List.getElem?_map, hz]; rfl
      simp [↓ kq, kq, ↓ ko, ko, ↓ kt, ↓ kz, kb, kv, kt, kx, c2, c3, c4, c5, e2, u2, u3, d1, d2, gets_some, -bO_of, -bB_true, -bB_false, -H.next_push, -Int.natCast_add]
      refine tail _ h5 out2 d3 d4 ?_ ?_ ?_
      · simp [kq, c2]
      · simp [kq, c3]
      · simp [kq, -Int.natCast_add]

def RiseRes (h : H) (zs : List (List UInt8)) (r : SV) (h' : H) : Prop := ∃ S, View h' 1 r S.length (strs S) ∧ S.Pairwise BLt ∧ (∀ x, x ∈ S ↔ x ∈ zs) ∧ Fr (fun _ => False) (fun _ => False) h h' ∧ (∀ q, isRow r q → h.next ≤ q) ∧ S.length ≤ zs.length
theorem Tryz.sorted220 {v : SV} {h : H} {zs : List (List UInt8)} (w : View h 1 v zs.length (strs zs)) (hl : zs.length < 60000) : ∃ r h', Tryz.l2 125 [v] h = some (r, h') ∧ RiseRes h zs r h' := by
  refine Go.Sh.enG Tryz.kTab_ok (X := Tryz.X2) (kf := Tryz.k125) rfl (by kernel_rfl) (zs.length + zs.length + 4) Tryz.k125_eq rfl ?_
  simp [↓ kq, kq, ↓ ko, ko, ↓ kt, ↓ kz, kb, kv, kt, kx, w.length, -bO_of, -bB_true, -bB_false, -H.next_push, -Int.natCast_add]
  refine gets_next (gets_leave (Gets.mono (Tryz.rise_loop (hb := h) w hl zs.length 0 (zs.length + zs.length + 4) _ h .nilslice [] (by omega) (by omega) .nil .nil (fun x => by simp) (Nat.le_refl _) .refl ?_ ?_ ?_) fun fl t' h2 ⟨b1, out, S, t3, g, h1, h2', h3, fb⟩ => ?_))
  · simp [kq]
  · simp [kq]
  · simp [kq]
  subst b1
  simp [↓ kq, kq, ↓ ko, ko, ↓ kt, ↓ kz, kb, kv, kt, kx, t3, gets_some, kc, oneS, -bO_of, -bB_true, -bB_false, -H.next_push, -Int.natCast_add]
  exact ⟨S, g.view, h1, h2', fb, g.row, h3⟩
end
end Go.Proofs
end
section
/- ChaWithin: edges: loads, stores, the order. -/
namespace Go.Proofs
open Go.Sh
set_option linter.unusedVariables false
attribute [local instance] powHeld
noncomputable section
theorem load3 {h : H} {id o : Nat} {all : List SV} {e : Edg} (h1 : rowCells h.get id = some all) (h2 : o + 3 ≤ all.length) (h3 : (all.drop o).take 3 = e.cells) : loadV (some 3) h.get (.ptr id o) = some (.agg e.cells) := by
  show bO (rowCells h.get id) (fun cs => kpart (some 3) cs o) = _
  rw [h1]
  show bO (dropX o all) (fun r => bO (takeX 3 r) fun l => some (SV.agg l)) = _
  have e1 : dropX o all = some (all.drop o) := by rw [dropX_eq, if_pos (by omega)]
  rw [e1]
  show bO (takeX 3 (all.drop o)) (fun l => some (SV.agg l)) = _
  have e2 : takeX 3 (all.drop o) = some ((all.drop o).take 3) := by rw [takeX_eq, if_pos (by rw [List.length_drop]; omega)]
  rw [e2, h3]; rfl
theorem edge_load {h : H} {v : SV} {l : List Edg} (w : View h 3 v l.length (edgs l)) {i : Nat} {e : Edg} (he : l[i]? = some e) : ∃ p, atIdx 3 i v = some p ∧ loadV (some 3) h.get p = some (.agg e.cells) := by
  obtain ⟨id, o, h1, _, _, _, _, all, h2, h3, h4⟩ := view_edge w he
  exact ⟨_, h1, load3 h2 h3 h4⟩
theorem edgs_cons (e : Edg) (l : List Edg) : edgs (e :: l) = e.cells ++ edgs l := rfl
theorem edgs_append (a b : List Edg) : edgs (a ++ b) = edgs a ++ edgs b := by simp [edgs]
theorem edgs_set : ∀ (l : List Edg) (i : Nat) (e : Edg), i < l.length → (edgs l).take (i * 3) ++ (e.cells ++ (edgs l).drop (i * 3 + 3)) = edgs (l.set i e)
  | [], i, e, h => by simp at h
  | x :: l, 0, e, _ => by
    rw [edgs_cons, List.set_cons_zero, edgs_cons]
    show ([] : List SV) ++ _ = _
    rw [List.nil_append]
    congr 1
  | x :: l, i + 1, e, h => by
    rw [edgs_cons, List.set_cons_succ, edgs_cons, ← edgs_set l i e (by simpa using h)]
    have hl : x.cells.length = 3 := rfl
    rw [show (i + 1) * 3 = x.cells.length + i * 3 by omega, List.take_length_add_append, Nat.add_assoc, List.drop_append, List.append_assoc]
    congr 2
    rw [List.drop_eq_nil_of_le (by omega), Nat.add_sub_cancel_left]
    rfl
theorem gro_store3 {h : H} {lo : Nat} {v : SV} {l : List Edg} (g : Gro h lo 3 v l.length (edgs l)) {i : Nat} (hi : i < l.length) (e : Edg) :
    ∃ p h', atIdx 3 i v = some p ∧ storeV 3 h p (.agg e.cells) = some (.tuple [], h') ∧ Gro h' lo 3 v (l.set i e).length (edgs (l.set i e)) ∧ Fr (lo ≤ ·) (lo ≤ ·) h h' := by
  obtain ⟨h1, ⟨rfl, h0⟩ | ⟨id, par, rfl, h2, h3, h4⟩⟩ := g
  · omega
  · obtain ⟨h', k1, k2⟩ := h4.kill id (Nat.le_refl _)
    have e1 := k2.get h3 (by simp)
    refine ⟨.ptr id (i * 3), h'.put id (.cells (edgs (l.set i e)) (.grown none)), ?_, ?_, ⟨edgs_len _, .inr ⟨id, none, by simp, h2, get_put_self e1, .none⟩⟩, ?_⟩
    · show bB (Nat.blt i l.length) (some (SV.ptr id (0 + i * 3))) none = _
      rw [show Nat.blt i l.length = true from Nat.ble_eq_true_of_le hi, Nat.zero_add]; rfl
    · have hl : layX e.cells (i * 3) (edgs l) = some (edgs (l.set i e)) := by
        rw [layX_eq, if_pos (by rw [edgs_len]; show i * 3 + 3 ≤ _; omega), ← edgs_set l i e hi]
        rfl
      have hs : storeX h id (i * 3) e.cells = some (h'.put id (.cells (edgs (l.set i e)) (.grown none))) := by
        unfold storeX
        rw [h3]
        simp only [hl, bO]
        rw [show Nat.succ id = id + 1 from rfl, k1]
      show bB (hasLen 3 e.cells) (bO (storeX h id (i * 3) e.cells) fun h => some (SV.tuple [], h)) none = _
      rw [hs]; rfl
    · exact (k2.mono (fun q _ e => e.1) fun q e => .inl e.1).trans ((Fr.put (H.get_lt e1)).mono (fun q _ e => by subst e; exact h2) fun q e => .inl (by subst e; exact h2))
theorem edge_eq (g : Nat → Option SObj) (a b : Edg) : keq g (.struct [.str, .int, .str]) (.agg a.cells) (.agg b.cells) = some (eqB a.src b.src && (eqI a.pc b.pc && eqB a.dst b.dst)) := by
  show eqKs [.str, .int, .str] [.str a.src, .int .i64 a.pc, .str a.dst] [.str b.src, .int .i64 b.pc, .str b.dst] = _
  have e1 : eqKD KD.str (.str a.src) (.str b.src) = some (eqB a.src b.src) := rfl
  have e2 : eqKD KD.int (.int .i64 a.pc) (.int .i64 b.pc) = some (eqI a.pc b.pc) := rfl
  have e3 : eqKD KD.str (.str a.dst) (.str b.dst) = some (eqB a.dst b.dst) := rfl
  simp only [eqKs, e1, e2, e3, bO]
  cases eqB a.src b.src <;> cases eqI a.pc b.pc <;> cases eqB a.dst b.dst <;> rfl
def lessE (a b : Edg) : Bool := if a.src ≠ b.src then ltBytes a.src b.src else if a.pc ≠ b.pc then decide (a.pc < b.pc) else ltBytes a.dst b.dst
def ELt (a b : Edg) : Prop := lessE a b = true
theorem eOrd : Ord ELt where
  irr := fun a h => by
    unfold ELt lessE at h
    simp at h
    exact bOrd.irr _ h
  trans := fun a b c h1 h2 => by
    unfold ELt lessE at *
    by_cases e1 : a.src = b.src
    · by_cases e2 : b.src = c.src
      · rw [if_neg (by simp [e1])] at h1
        rw [if_neg (by simp [e2])] at h2
        rw [if_neg (by simp [e1, e2])]
        by_cases f1 : a.pc = b.pc
        · by_cases f2 : b.pc = c.pc
          · rw [if_neg (by simp [f1])] at h1
            rw [if_neg (by simp [f2])] at h2
            rw [if_neg (by simp [f1, f2])]
            exact bOrd.trans _ _ _ h1 h2
          · rw [if_pos f2] at h2
            rw [if_pos (by rw [f1]; exact f2), f1]; exact h2
        · rw [if_pos f1] at h1
          have h1 := of_decide_eq_true h1
          by_cases f2 : b.pc = c.pc
          · rw [if_pos (by rw [← f2]; exact f1), ← f2]; exact decide_eq_true h1
          · rw [if_pos f2] at h2
            have h2 := of_decide_eq_true h2
            rw [if_pos (by omega)]; exact decide_eq_true (by omega)
      · rw [if_pos e2] at h2
        rw [if_pos (by rw [e1]; exact e2), e1]; exact h2
    · rw [if_pos e1] at h1
      by_cases e2 : b.src = c.src
      · rw [if_pos (by rw [← e2]; exact e1), ← e2]; exact h1
      · rw [if_pos e2] at h2
        have h3 := bOrd.trans _ _ _ h1 h2
        rw [if_pos (fun e => by rw [e] at h3; exact bOrd.irr _ h3)]
        exact h3
  tri := fun a b h1 h2 => by
    unfold ELt lessE at *
    by_cases e1 : a.src = b.src
    · rw [if_neg (by simp [e1])] at h1
      rw [if_neg (by simp [e1])] at h2
      by_cases f1 : a.pc = b.pc
      · rw [if_neg (by simp [f1])] at h1
        rw [if_neg (by simp [f1])] at h2
        have := bOrd.tri _ _ h1 h2
        cases a; cases b; simp at *; exact ⟨e1, f1, this⟩
      · rw [if_pos f1] at h1
        rw [if_pos (fun e => f1 e.symm)] at h2
        simp at h1 h2
        omega
    · rw [if_pos e1] at h1
      rw [if_pos (fun e => e1 e.symm)] at h2
      exact absurd (bOrd.tri _ _ h1 h2) e1
theorem Tryz.less275 {h : H} (a b : Edg) : ∃ h', Tryz.l2 163 [.agg a.cells, .agg b.cells] h = some (.bool (lessE a b), h') ∧ Calms h h' := by
  have main : ∃ v' h', Tryz.l2 163 [.agg a.cells, .agg b.cells] h = some (v', h') ∧ (v' = .bool (lessE a b) ∧ Calms h h') := by
    generalize hh1 : h.push (.cells a.cells .fixed) = h1
    have f1 := calm_push hh1
    generalize hh2 : h1.push (.cells b.cells .fixed) = h2
    have f2 := calm_push hh2
    have r1 : rowCells h2.get h.next = some a.cells := rowCells_fixed (f2.get _ (by rw [← hh1, H.next_push]; omega) |>.trans (get_pushed hh1))
    have ld1 := loadB r1
    have ld2 := loadB (rowCells_fixed (get_pushed hh2))
    have c1 : (SV.agg a.cells).cells? = some a.cells := rfl
    have c2 : (SV.agg b.cells).cells? = some b.cells := rfl
    have a0 : a.cells[0]? = some (.str a.src) := rfl
    have a1 : a.cells[1]? = some (.int .i64 a.pc) := rfl
    have a2 : a.cells[2]? = some (.str a.dst) := rfl
    have b0 : b.cells[0]? = some (.str b.src) := rfl
    have b1 : b.cells[1]? = some (.int .i64 b.pc) := rfl
    have b2 : b.cells[2]? = some (.str b.dst) := rfl
    have l1 : strOp .lss a.src b.src = some (.bool (ltBytes a.src b.src)) := rfl
    have l2 : strOp .lss a.dst b.dst = some (.bool (ltBytes a.dst b.dst)) := rfl
    refine Go.Sh.enG Tryz.kTab_ok (X := Tryz.X2) (kf := Tryz.k163) rfl (by kernel_rfl) 1 Tryz.k163_eq rfl ?_
    unfold lessE
    generalize a.cells = ac at *
    generalize b.cells = bc at *
    by_cases e1 : a.src = b.src
    · have q1 : eqB a.src b.src = true := by rw [e1]; exact eqB_self _
      rw [if_neg (by simp [e1])]
      by_cases e2 : a.pc = b.pc
      · have q2 : eqI a.pc b.pc = true := by rw [eqI_eq]; simp [e2]
        rw [if_neg (by simp [e2])]
        simp [↓ kq, kq, ↓ ko, ko, ↓ kt, ↓ kz, kb, kv, kt, kx, c1, c2, hh1, hh2, ld1, ld2, a0, a1, a2, b0, b1, b2, q1, q2, l1, l2, gets_some, kc, oneS, -bO_of, -bB_true, -bB_false, -H.next_push, -Int.natCast_add]
        exact f1.trans f2
      · have q2 : eqI a.pc b.pc = false := by rw [eqI_eq]; simp [e2]
        rw [if_pos e2]
        simp [↓ kq, kq, ↓ ko, ko, ↓ kt, ↓ kz, kb, kv, kt, kx, c1, c2, hh1, hh2, ld1, ld2, a0, a1, a2, b0, b1, b2, q1, q2, l1, l2, gets_some, kc, oneS, -bO_of, -bB_true, -bB_false, -H.next_push, -Int.natCast_add]
        exact ⟨ltI_eq _ _, f1.trans f2⟩
    · have q1 : eqB a.src b.src = false := eqB_ne e1
      rw [if_pos e1]
      simp [↓ kq, kq, ↓ ko, ko, ↓ kt, ↓ kz, kb, kv, kt, kx, c1, c2, hh1, hh2, ld1, ld2, a0, a1, a2, b0, b1, b2, q1, l1, l2, gets_some, kc, oneS, -bO_of, -bB_true, -bB_false, -H.next_push, -Int.natCast_add]
      exact f1.trans f2
  obtain ⟨_, h', k1, rfl, k2⟩ := main
  exact ⟨h', k1, k2⟩
end
end Go.Proofs
end
section
/- ChaWithin: the reference's edges, in order, each once. -/
namespace Go.Proofs
open Go.Sh
set_option linter.unusedVariables false
attribute [local instance] powHeld
noncomputable section
/-- where a number goes: what stands at and behind it is above -/
def PosEndE (S : List Edg) (z : Edg) (t' : T) : Prop := ∃ a, getP (way 5) t' = some (.int .i64 (a : Nat)) ∧ a ≤ S.length ∧ (∀ y ∈ S.drop a, ELt z y) ∧ (∀ b, a = b + 1 → ∃ y, S[b]? = some y ∧ ¬ ELt z y)
def zeroE : Edg := ⟨[], 0, []⟩
theorem keq_self (g : Nat → Option SObj) (z : Edg) : keq g (.struct [.str, .int, .str]) (.agg z.cells) (.agg z.cells) = some true := by
  rw [edge_eq, eqB_self, eqB_self, eqI_eq]; simp
theorem keq_ne (g : Nat → Option SObj) {y z : Edg} (h : y ≠ z) : keq g (.struct [.str, .int, .str]) (.agg y.cells) (.agg z.cells) = some false := by
  rw [edge_eq]
  by_cases e1 : y.src = z.src
  · by_cases e2 : y.pc = z.pc
    · by_cases e3 : y.dst = z.dst
      · exact absurd (by cases y; cases z; simp at *; exact ⟨e1, e2, e3⟩) h
      · rw [eqB_ne e3]; simp
    · have : eqI y.pc z.pc = false := by rw [eqI_eq]; simp [e2]
      rw [this]; simp
  · rw [eqB_ne e1]; rfl
theorem Tryz.posE_loop {v out : SV} {h0 : H} {zs S : List Edg} {z : Edg} {i : Nat} (w0 : View h0 3 v zs.length (edgs zs)) (hz : zs[i]? = some z) (wo0 : View h0 3 out S.length (edgs S)) (hS : S.length < 4294967296) : ∀ (a k : Nat) (h : H) (t : T), a ≤ S.length → a < k → Calms h0 h → (∀ y ∈ S.drop a, ELt z y) →
    getP (way 0) t = some v → getP (way 3) t = some out → getP (way 4) t = some (.int .i64 i) → getP (way 5) t = some (.int .i64 a) →
    Gets (cLoop Tryz.l127_1 k Tryz.l2 t h) fun fl t' h' => fl = .exit 2 ∧ Calms h0 h' ∧ getP (way 0) t' = some v ∧ getP (way 3) t' = some out ∧ getP (way 4) t' = some (.int .i64 i) ∧ PosEndE S z t' := by
  intro a
  induction a with
  | zero =>
    intro k h t ha hk f hup t0 t3 t4 t5
    obtain ⟨k, rfl⟩ : ∃ m, k = m + 1 := ⟨k - 1, by omega⟩
    rw [loop_succ]
    generalize (fun t h => cLoop Tryz.l127_1 k Tryz.l2 t h) = L
    unfold Tryz.l127_1
    have e1 : ltI 0 0 = false := rfl
    have t5 : getP (way 5) t = some (.int .i64 0) := t5
    simp [↓ kq, kq, ↓ ko, ko, ↓ kt, ↓ kz, kb, kv, kt, kx, t0, t3, t4, t5, e1, gets_some, -bO_of, -bB_true, -bB_false, -H.next_push, -Int.natCast_add]
    exact ⟨f, 0, by simp [kq, t5], by omega, hup, fun b hb => by omega⟩
  | succ a ih =>
    intro k h t ha hk f hup t0 t3 t4 t5
    obtain ⟨k, rfl⟩ : ∃ m, k = m + 1 := ⟨k - 1, by omega⟩
    rw [loop_succ]
    generalize hL : (fun t h => cLoop Tryz.l127_1 k Tryz.l2 t h) = L
    unfold Tryz.l127_1
    have e1 : ltI 0 ((a + 1 : Nat) : Int) = true := by rw [ltI_eq]; exact decide_eq_true (by omega)
    have e2 : IntKind.i64.wrap (((a + 1 : Nat) : Int) - 1) = (a : Int) := by
      rw [show ((a + 1 : Nat) : Int) - 1 = (a : Int) by omega]; exact wrapI64 (by omega) (by omega)
    have hd : S.drop a = S[a] :: S.drop (a + 1) := List.drop_eq_getElem_cons (by omega)
    have hg : S[a]? = some S[a] := List.getElem?_eq_getElem (by omega)
    generalize hy : S[a] = y at *
    obtain ⟨pA, x2, x3⟩ := edge_load (w0.keep f fun _ _ k => k) hz
    obtain ⟨pB, y2, y3⟩ := edge_load (wo0.keep f fun _ _ k => k) hg
    obtain ⟨h1, k1, f1⟩ := Tryz.less275 (h := h) z y
    by_cases e : ELt z y
    · have e3 : lessE z y = true := e
      rw [e3] at k1
      generalize z.cells = zc at *
      generalize y.cells = yc at *
      simp [↓ kq, kq, ↓ ko, ko, ↓ kt, ↓ kz, kb, kv, kt, kx, t0, t3, t4, t5, e1, e2, x2, x3, y2, y3, k1, -bO_of, -bB_true, -bB_false, -H.next_push, -Int.natCast_add]
      rw [← hL]
      refine ih k h1 _ (by omega) (by omega) (f.trans f1) ?_ ?_ ?_ ?_ ?_
      · intro u hu
        rw [hd] at hu
        rcases List.mem_cons.1 hu with rfl | hu
        · exact e
        · exact hup u hu
      · simp [kq, t0]
      · simp [kq, t3]
      · simp [kq, t4]
      · simp [kq]
    · have e3 : lessE z y = false := by
        cases q : lessE z y with
        | false => rfl
        | true => exact absurd q e
      rw [e3] at k1
      have hend : ∀ t', getP (way 5) t' = getP (way 5) t → PosEndE S z t' := fun t' e5 => ⟨a + 1, by rw [e5]; exact t5, by omega, hup, fun b hb => ⟨y, by rw [show b = a by omega]; exact hg, e⟩⟩
      generalize z.cells = zc at *
      generalize y.cells = yc at *
      simp [↓ kq, kq, ↓ ko, ko, ↓ kt, ↓ kz, kb, kv, kt, kx, t0, t3, t4, t5, e1, e2, x2, x3, y2, y3, k1, gets_some, -bO_of, -bB_true, -bB_false, -H.next_push, -Int.natCast_add]
      exact ⟨f.trans f1, hend _ (by simp [kq])⟩
/-- moving up what stands behind a place -/
theorem Tryz.shiftE_loop {hb : H} {S : List Edg} {a : Nat} {v : SV} {i : Nat} (hS : S.length < 65536) : ∀ (j b k : Nat) (t : T) (h : H) (out : SV), a + j = b → b ≤ S.length → j < k → Gro h hb.next 3 out (S.length + 1) (edgs ((S ++ [zeroE]).take (b + 1) ++ S.drop b)) → Fr (fun _ => False) (fun _ => False) hb h →
    getP (way 0) t = some v → getP (way 3) t = some out → getP (way 4) t = some (.int .i64 i) → getP (way 5) t = some (.int .i64 a) → getP (way 6) t = some (.int .i64 b) →
    Gets (cLoop Tryz.l127_0 k Tryz.l2 t h) fun fl t' h' => fl = .exit 4 ∧ getP (way 0) t' = some v ∧ getP (way 3) t' = some out ∧ getP (way 4) t' = some (.int .i64 i) ∧ getP (way 5) t' = some (.int .i64 a) ∧ Gro h' hb.next 3 out (S.length + 1) (edgs ((S ++ [zeroE]).take (a + 1) ++ S.drop a)) ∧ Fr (fun _ => False) (fun _ => False) hb h' := by
  intro j
  induction j with
  | zero =>
    intro b k t h out hb' hbl hk g fb t0 t3 t4 t5 t6
    obtain ⟨k, rfl⟩ : ∃ m, k = m + 1 := ⟨k - 1, by omega⟩
    rw [loop_succ]
    generalize (fun t h => cLoop Tryz.l127_0 k Tryz.l2 t h) = L
    unfold Tryz.l127_0
    obtain rfl : b = a := by omega
    have e1 : ltI (b : Int) b = false := by rw [ltI_eq]; exact decide_eq_false (by omega)
    simp [↓ kq, kq, ↓ ko, ko, ↓ kt, ↓ kz, kb, kv, kt, kx, t0, t3, t4, t5, t6, e1, gets_some, -bO_of, -bB_true, -bB_false, -H.next_push, -Int.natCast_add]
    exact ⟨g, fb⟩
  | succ j ih =>
    intro b k t h out hb' hbl hk g fb t0 t3 t4 t5 t6
    obtain ⟨k, rfl⟩ : ∃ m, k = m + 1 := ⟨k - 1, by omega⟩
    rw [loop_succ]
    generalize hL : (fun t h => cLoop Tryz.l127_0 k Tryz.l2 t h) = L
    unfold Tryz.l127_0
    obtain ⟨b, rfl⟩ : ∃ c, b = c + 1 := ⟨b - 1, by omega⟩
    have e1 : ltI (a : Int) ((b + 1 : Nat) : Int) = true := by rw [ltI_eq]; exact decide_eq_true (by omega)
    have e2 : IntKind.i64.wrap (((b + 1 : Nat) : Int) - 1) = (b : Int) := by
      rw [show ((b + 1 : Nat) : Int) - 1 = (b : Int) by omega]; exact wrapI64 (by omega) (by omega)
    have ht : ((S ++ [zeroE]).take (b + 1 + 1)).length = b + 1 + 1 := by simp; omega
    have hl : ((S ++ [zeroE]).take (b + 1 + 1) ++ S.drop (b + 1)).length = S.length + 1 := by rw [List.length_append, ht, List.length_drop]; omega
    have hy : ((S ++ [zeroE]).take (b + 1 + 1) ++ S.drop (b + 1))[b]'(by omega) = S[b] := by
      rw [List.getElem_append_left (by omega), List.getElem_take, List.getElem_append_left (by omega)]
    have hy2 : ((S ++ [zeroE]).take (b + 1 + 1) ++ S.drop (b + 1))[b]? = some S[b] := by rw [← hy]; exact List.getElem?_eq_getElem (by omega)
    have hset : (((S ++ [zeroE]).take (b + 1 + 1) ++ S.drop (b + 1)).set (b + 1) S[b]) = (S ++ [zeroE]).take (b + 1) ++ S.drop b := by
      rw [List.set_append_left _ _ (by omega), List.drop_eq_getElem_cons (show b < S.length by omega), List.take_succ_eq_append_getElem (show b + 1 < (S ++ [zeroE]).length by simp; omega)]
      rw [List.set_append_right _ _ (by simp; omega)]
      have : (b + 1 - (List.take (b + 1) (S ++ [zeroE])).length) = 0 := by simp; omega
      rw [this, List.append_assoc]
      rfl
    rw [← hl] at g
    obtain ⟨pB, y2, y3⟩ := edge_load g.view hy2
    obtain ⟨pC, h2, z2, z3, z4, z5⟩ := gro_store3 g (i := b + 1) (by omega) S[b]
    rw [List.length_set, hl, hset] at z4
    generalize S[b].cells = yc at *
    simp [↓ kq, kq, ↓ ko, ko, ↓ kt, ↓ kz, kb, kv, kt, kx, t0, t3, t4, t5, t6, e1, e2, y2, y3, z2, z3, -bO_of, -bB_true, -bB_false, -H.next_push, -Int.natCast_add]
    rw [← hL]
    refine ih b k _ h2 out (by omega) (by omega) (by omega) z4 (Fr.new fb z5 (fun q e => e) (fun q e => e)) ?_ ?_ ?_ ?_ ?_
    · simp [kq, t0]
    · simp [kq, t3]
    · simp [kq, t4]
    · simp [kq, t5]
    · simp [kq]
def RiseEndE (hb : H) (zs : List Edg) (t' : T) (h' : H) : Prop := ∃ out S, getP (way 3) t' = some out ∧ Gro h' hb.next 3 out S.length (edgs S) ∧ S.Pairwise ELt ∧ (∀ x, x ∈ S ↔ x ∈ zs) ∧ S.length ≤ zs.length ∧ Fr (fun _ => False) (fun _ => False) hb h'
theorem Tryz.riseE_loop {hb : H} {v : SV} {zs : List Edg} (w : View hb 3 v zs.length (edgs zs)) (hl : zs.length < 60000) : ∀ (j i k : Nat) (t : T) (h : H) (out : SV) (S : List Edg), i + j = zs.length → j + zs.length + 3 < k → Gro h hb.next 3 out S.length (edgs S) → S.Pairwise ELt → (∀ x, x ∈ S ↔ x ∈ zs.take i) → S.length ≤ i → Fr (fun _ => False) (fun _ => False) hb h →
    getP (way 0) t = some v → getP (way 3) t = some out → getP (way 4) t = some (.int .i64 i) →
    Gets (cLoop Tryz.l127_2 k Tryz.l2 t h) fun fl t' h' => fl = .exit 0 ∧ RiseEndE hb zs t' h' := by
  intro j
  induction j with
  | zero =>
    intro i k t h out S hi hk g hS hm hn fb t0 t3 t4
    obtain ⟨k, rfl⟩ : ∃ m, k = m + 1 := ⟨k - 1, by omega⟩
    rw [loop_succ]
    generalize (fun t h => cLoop Tryz.l127_2 k Tryz.l2 t h) = L
    unfold Tryz.l127_2
    have e1 : ltI (i : Int) zs.length = false := by rw [ltI_eq]; exact decide_eq_false (by omega)
    simp [↓ kq, kq, ↓ ko, ko, ↓ kt, ↓ kz, kb, kv, kt, kx, t0, t3, t4, w.length, e1, gets_some, -bO_of, -bB_true, -bB_false, -H.next_push, -Int.natCast_add]
    rw [List.take_of_length_le (by omega)] at hm
    exact ⟨out, S, by simp [kq, t3], g, hS, hm, by omega, fb⟩
  | succ j ih =>
    intro i k t h out S hi hk g hS hm hn fb t0 t3 t4
    obtain ⟨k, rfl⟩ : ∃ m, k = m + 1 := ⟨k - 1, by omega⟩
    rw [loop_succ]
    generalize hL : (fun t h => cLoop Tryz.l127_2 k Tryz.l2 t h) = L
    unfold Tryz.l127_2
    have e1 : ltI (i : Int) zs.length = true := by rw [ltI_eq]; exact decide_eq_true (by omega)
    have e2 : IntKind.i64.wrap ((i : Int) + 1) = ((i + 1 : Nat) : Int) := by
      rw [Int.natCast_add]; exact wrapI64 (by omega) (by omega)
    obtain ⟨z, hz⟩ : ∃ z, zs[i]? = some z := ⟨zs[i]'(by omega), List.getElem?_eq_getElem (by omega)⟩
    have hmem : ∀ x, x ∈ zs.take (i + 1) ↔ x ∈ zs.take i ∨ x = z := fun x => by
      obtain ⟨hi', rfl⟩ := List.getElem?_eq_some_iff.1 hz
      rw [List.take_succ_eq_append_getElem hi', List.mem_append, List.mem_singleton]
    have w' := w.keep fb fun _ _ k => k
    simp [↓ kq, kq, ↓ ko, ko, ↓ kt, ↓ kz, kb, kv, kt, kx, t0, t3, t4, w.length, g.view.length, e1, -bO_of, -bB_true, -bB_false, -H.next_push, -Int.natCast_add]
    refine gets_next (gets_next (gets_leave (gets_next (gets_leave (Gets.mono (Tryz.posE_loop w' hz g.view (by omega) S.length (k + 1) _ _ (Nat.le_refl _) (by omega) .refl (by rw [List.drop_length]; simp) ?_ ?_ ?_ ?_) fun fl t' h' ⟨b1, b2, b3, b4, b5, a, b6, b7, b8, b9⟩ => ?_)))))
    · simp [kq, t0]
    · simp [kq, t3]
    · simp [kq, t4]
    · simp [kq]
    subst b1
    have g := g.keep b2 fun _ _ k => k
    have fb : Fr (fun _ => False) (fun _ => False) hb h' := fb.trans b2
    have w' := w'.keep b2 fun _ _ k => k
    obtain ⟨pA, x2, x3⟩ := edge_load w' hz
    have again : ∀ t2 h2 out2 S2, Gro h2 hb.next 3 out2 S2.length (edgs S2) → S2.Pairwise ELt → (∀ x, x ∈ S2 ↔ x ∈ zs.take (i + 1)) → S2.length ≤ i + 1 → Fr (fun _ => False) (fun _ => False) hb h2 → getP (way 0) t2 = some v → getP (way 3) t2 = some out2 → getP (way 4) t2 = some (.int .i64 ((i + 1 : Nat) : Int)) → Gets (L t2 h2) fun fl t' h' => fl = .exit 0 ∧ RiseEndE hb zs t' h' := fun t2 h2 out2 S2 q1 q2 q3 q4 q5 q6 q7 q8 => by
      rw [← hL]
      exact ih (i + 1) k t2 h2 out2 S2 (by omega) (by omega) q1 q2 q3 q4 q5 q6 q7 q8
    have notin : (∀ b, a = b + 1 → S[b]? ≠ some z) → ∃ out2 h3, kappend (h'.push (.cells [.str [], .int .i64 0, .str []] .fixed)) 40 3 1 [.str [], .int .i64 0, .str []] out = some (out2, h3) ∧ Gro h3 hb.next 3 out2 (S.length + 1) (edgs (S ++ [zeroE])) ∧ Fr (fun _ => False) (fun _ => False) hb h3 := fun _ => by
      have fp : Fr (fun _ => False) (fun _ => False) h' (h'.push (.cells [.str [], .int .i64 0, .str []] .fixed)) := .push
      obtain ⟨out2, h3, k1, k2, k3⟩ := (g.keep fp fun _ _ k => k).append (bytes := 40) 1 [.str [], .int .i64 0, .str []] rfl (by omega) (Nat.le_trans fb.next fp.next)
      exact ⟨out2, h3, k1, by rw [edgs_append]; exact k2, Fr.new (fb.trans fp) k3 (fun q e => e) (fun q e => e.elim)⟩
    have fin : ∀ out2 h3, (∀ b, a = b + 1 → S[b]? ≠ some z) → Gro h3 hb.next 3 out2 (S.length + 1) (edgs ((S ++ [zeroE]).take (a + 1) ++ S.drop a)) → Fr (fun _ => False) (fun _ => False) hb h3 → ∃ pC h4, atIdx 3 a out2 = some pC ∧ storeV 3 h3 pC (.agg z.cells) = some (.tuple [], h4) ∧ Gro h4 hb.next 3 out2 (S.take a ++ z :: S.drop a).length (edgs (S.take a ++ z :: S.drop a)) ∧ Fr (fun _ => False) (fun _ => False) hb h4 ∧ View h3 3 v zs.length (edgs zs) := fun out2 h3 hne g3 f3 => by
      have ht : ((S ++ [zeroE]).take a).length = a := by simp; omega
      have hset : (((S ++ [zeroE]).take (a + 1) ++ S.drop a).set a z) = S.take a ++ z :: S.drop a := by
        rw [List.take_succ_eq_append_getElem (show a < (S ++ [zeroE]).length by simp; omega), List.append_assoc, List.set_append_right _ _ (by omega), ht, Nat.sub_self, List.take_append_of_le_length b7]
        rfl
      have hl3 : ((S ++ [zeroE]).take (a + 1) ++ S.drop a).length = S.length + 1 := by simp; omega
      rw [← hl3] at g3
      obtain ⟨pC, h4, z1, z2, z3, z4⟩ := gro_store3 g3 (i := a) (by omega) z
      rw [hset] at z3
      exact ⟨pC, h4, z1, z2, z3, Fr.new f3 z4 (fun q e => e) (fun q e => e), w.keep f3 fun _ _ k => k⟩
    by_cases hin : ∃ b, a = b + 1 ∧ S[b]? = some z
    · obtain ⟨b, rfl, hb1⟩ := hin
      have e3 : ltI 0 ((b + 1 : Nat) : Int) = true := by rw [ltI_eq]; exact decide_eq_true (by omega)
      have e4 : IntKind.i64.wrap (((b + 1 : Nat) : Int) - 1) = (b : Int) := by
        rw [show ((b + 1 : Nat) : Int) - 1 = (b : Int) by omega]; exact wrapI64 (by omega) (by omega)
      obtain ⟨pB, y2, y3⟩ := edge_load g.view hb1
      have e5 := keq_self h'.get z
      generalize z.cells = zc at *
      simp [↓ kq, kq, ↓ ko, ko, ↓ kt, ↓ kz, kb, kv, kt, kx, b3, b4, b5, b6, e2, e3, e4, e5, x2, x3, y2, y3, gets_some, -bO_of, -bB_true, -bB_false, -H.next_push, -Int.natCast_add]
      refine again _ h' out S g hS (fun x => ?_) (by omega) fb ?_ ?_ ?_
      · rw [hmem, hm]
        constructor
        · exact .inl
        · rintro (k | rfl)
          · exact k
          · exact (hm x).1 (List.mem_of_getElem? hb1)
      · simp [kq, b3]
      · simp [kq, b4]
      · simp [kq, -Int.natCast_add]
    have hne : ∀ b, a = b + 1 → S[b]? ≠ some z := fun b h1 h2 => hin ⟨b, h1, h2⟩
    obtain ⟨out2, h3, k1, k2, k3⟩ := notin hne
    have k1' : appendV 40 3 (h'.push (.cells [.str [], .int .i64 0, .str []] .fixed)) out (.slice h'.next 0 1 3 (some 1)) = some (out2, h3) := by
      have : rowCells (h'.push (.cells [.str [], .int .i64 0, .str []] .fixed)).get h'.next = some [.str [], .int .i64 0, .str []] := rowCells_push
      have src : srcCells (h'.push (.cells [.str [], .int .i64 0, .str []] .fixed)).get 3 1 (.slice h'.next 0 1 3 (some 1)) = some [.str [], .int .i64 0, .str []] := by
        simp only [srcCells, this]; rfl
      show bO (srcCells (h'.push (.cells [.str [], .int .i64 0, .str []] .fixed)).get 3 1 (.slice h'.next 0 1 3 (some 1))) _ = _
      rw [src]; exact k1
    have kc1 : kcat [3] [.agg [.str [], .int .i64 0, .str []]] = some [.str [], .int .i64 0, .str []] := rfl
    have kf1 : ∀ t, vFill [.str [], .int .i64 0, .str []] [] [] t = some (.agg [.str [], .int .i64 0, .str []]) := fun _ => rfl
    generalize hh2 : h'.push (.cells [.str [], .int .i64 0, .str []] .fixed) = h2 at k1'
    have e6 : IntKind.i64.wrap (((S.length + 1 : Nat) : Int) - 1) = (S.length : Int) := by
      rw [show ((S.length + 1 : Nat) : Int) - 1 = (S.length : Int) by omega]; exact wrapI64 (by omega) (by omega)
    have tail : ∀ t4 h4 out4, Gro h4 hb.next 3 out4 (S.take a ++ z :: S.drop a).length (edgs (S.take a ++ z :: S.drop a)) → Fr (fun _ => False) (fun _ => False) hb h4 → getP (way 0) t4 = some v → getP (way 3) t4 = some out4 → getP (way 4) t4 = some (.int .i64 ((i + 1 : Nat) : Int)) → Gets (L t4 h4) fun fl t' h' => fl = .exit 0 ∧ RiseEndE hb zs t' h' := fun t4 h4 out4 q1 q2 q3 q4 q5 => by
      obtain ⟨m1, m2⟩ := insert_rises eOrd hS b8 b9 hne
      refine again t4 h4 out4 _ q1 m1 (fun x => ?_) ?_ q2 q3 q4 q5
      · rw [m2, hmem, hm]
      · simp; omega
    rcases Nat.eq_zero_or_pos a with a0 | a0
    · have e3 : ltI 0 (a : Int) = false := by rw [ltI_eq]; exact decide_eq_false (by omega)
      simp [↓ kq, kq, ↓ ko, ko, ↓ kt, ↓ kz, kb, kv, kt, kx, b3, b4, b5, b6, e3, e6, hh2, kc1, kf1, k1', k2.view.length, -bO_of, -bB_true, -bB_false, -H.next_push, -Int.natCast_add]
      refine gets_next (gets_leave (Gets.mono (Tryz.shiftE_loop (i := i) (v := v) (a := a) (by omega) (S.length - a) S.length (k + 1) _ h3 out2 (by omega) (Nat.le_refl _) (by omega) (by rw [List.drop_length, List.append_nil, List.take_of_length_le (by simp)]; exact k2) k3 ?_ ?_ ?_ ?_ ?_) fun fl t4 h4 ⟨c1, c2, c3, c4, c5, c6, c7⟩ => ?_))
      · simp [kq, b3]
      · simp [kq]
      · simp [kq, b5]
      · simp [kq, b6]
      · simp [kq]
      subst c1
      obtain ⟨pC, h5, d1, d2, d3, d4, d5⟩ := fin out2 h4 hne c6 c7
      obtain ⟨pD, u2, u3⟩ := edge_load d5 hz
      simp [↓ kq, kq, ↓ ko, ko, ↓ kt, ↓ kz, kb, kv, kt, kx, c2, c3, c4, c5, e2, u2, u3, d1, d2, gets_some, -bO_of, -bB_true, -bB_false, -H.next_push, -Int.natCast_add]
      refine tail _ h5 out2 d3 d4 ?_ ?_ ?_
      · simp [kq, c2]
      · simp [kq, c3]
      · simp [kq, -Int.natCast_add]

    · obtain ⟨b, rfl⟩ : ∃ c, a = c + 1 := ⟨a - 1, by omega⟩
      have e3 : ltI 0 ((b + 1 : Nat) : Int) = true := by rw [ltI_eq]; exact decide_eq_true (by omega)
      have e4 : IntKind.i64.wrap (((b + 1 : Nat) : Int) - 1) = (b : Int) := by
        rw [show ((b + 1 : Nat) : Int) - 1 = (b : Int) by omega]; exact wrapI64 (by omega) (by omega)
      obtain ⟨y, y0, _⟩ := b9 b rfl
      obtain ⟨pB, y2, y3⟩ := edge_load g.view y0
      have e5 := keq_ne h'.get (y := y) (z := z) fun e => hne b rfl (by rw [y0, e])
      generalize y.cells = yc at *
      simp [↓ kq, kq, ↓ ko, ko, ↓ kt, ↓ kz, kb, kv, kt, kx, b3, b4, b5, b6, e3, e4, e5, e6, x2, x3, y2, y3, hh2, kc1, kf1, k1', k2.view.length, -bO_of, -bB_true, -bB_false, -H.next_push, -Int.natCast_add]
      refine gets_next (gets_leave (Gets.mono (Tryz.shiftE_loop (i := i) (v := v) (a := b + 1) (by omega) (S.length - (b + 1)) S.length (k + 1) _ h3 out2 (by omega) (Nat.le_refl _) (by omega) (by rw [List.drop_length, List.append_nil, List.take_of_length_le (by simp)]; exact k2) k3 ?_ ?_ ?_ ?_ ?_) fun fl t4 h4 ⟨c1, c2, c3, c4, c5, c6, c7⟩ => ?_))
      · simp [kq, b3]
      · simp [kq]
      · simp [kq, b5]
      · simp [kq, b6]
      · simp [kq]
      subst c1
      obtain ⟨pC, h5, d1, d2, d3, d4, d5⟩ := fin out2 h4 hne c6 c7
      obtain ⟨pD, u2, u3⟩ := edge_load d5 hz
      simp [↓ kq, kq, ↓ ko, ko, ↓ kt, ↓ kz, kb, kv, kt, kx, c2, c3, c4, c5, e2, u2, u3, d1, d2, gets_some, -bO_of, -bB_true, -bB_false, -H.next_push, -Int.natCast_add]
      refine tail _ h5 out2 d3 d4 ?_ ?_ ?_
      · simp [kq, c2]
      · simp [kq, c3]
      · simp [kq, -Int.natCast_add]

def RiseResE (h : H) (zs : List Edg) (r : SV) (h' : H) : Prop := ∃ S, View h' 3 r S.length (edgs S) ∧ S.Pairwise ELt ∧ (∀ x, x ∈ S ↔ x ∈ zs) ∧ Fr (fun _ => False) (fun _ => False) h h' ∧ (∀ q, isRow r q → h.next ≤ q) ∧ S.length ≤ zs.length
theorem Tryz.edges222 {v : SV} {h : H} {zs : List Edg} (w : View h 3 v zs.length (edgs zs)) (hl : zs.length < 60000) : ∃ r h', Tryz.l2 127 [v] h = some (r, h') ∧ RiseResE h zs r h' := by
  refine Go.Sh.enG Tryz.kTab_ok (X := Tryz.X2) (kf := Tryz.k127) rfl (by kernel_rfl) (zs.length + zs.length + 4) Tryz.k127_eq rfl ?_
  simp [↓ kq, kq, ↓ ko, ko, ↓ kt, ↓ kz, kb, kv, kt, kx, w.length, -bO_of, -bB_true, -bB_false, -H.next_push, -Int.natCast_add]
  refine gets_next (gets_leave (Gets.mono (Tryz.riseE_loop (hb := h) w hl zs.length 0 (zs.length + zs.length + 4) _ h .nilslice [] (by omega) (by omega) .nil .nil (fun x => by simp) (Nat.le_refl _) .refl ?_ ?_ ?_) fun fl t' h2 ⟨b1, out, S, t3, g, h1, h2', h3, fb⟩ => ?_))
  · simp [kq]
  · simp [kq]
  · simp [kq]
  subst b1
  simp [↓ kq, kq, ↓ ko, ko, ↓ kt, ↓ kz, kb, kv, kt, kx, t3, gets_some, kc, oneS, -bO_of, -bB_true, -bB_false, -H.next_push, -Int.natCast_add]
  exact ⟨S, g.view, h1, h2', fb, g.row, h3⟩
end
end Go.Proofs
end
section
/- ChaWithin: lists that are the same. -/
namespace Go.Proofs
open Go.Sh
set_option linter.unusedVariables false
attribute [local instance] powHeld
noncomputable section
theorem text_load {h : H} {v : SV} {l : List (List UInt8)} (w : View h 1 v l.length (strs l)) {i : Nat} {e : List UInt8} (he : l[i]? = some e) : ∃ p, atIdx 1 i v = some p ∧ loadV none h.get p = some (.str e) := by
  obtain ⟨p, c1, c2⟩ := w.loadV (i := i) (List.getElem?_eq_some_iff.1 he).1
  refine ⟨p, c1, ?_⟩
  rw [c2, strs, List.getElem?_map, he]; rfl
theorem ne_of_get {α : Type} {a b : List α} {i : Nat} {x y : α} (h1 : a[i]? = some x) (h2 : b[i]? = some y) (h : x ≠ y) : a ≠ b := fun e => by
  subst e; rw [h1] at h2; exact h (Option.some.inj h2)
theorem take_eq_succ {α : Type} {a b : List α} {i : Nat} {x : α} (h1 : a[i]? = some x) (h2 : b[i]? = some x) (h : a.take i = b.take i) : a.take (i + 1) = b.take (i + 1) := by
  rw [List.take_add_one, List.take_add_one, h1, h2, h]
theorem Tryz.texts56_loop {h : H} {v u : SV} {a b : List (List UInt8)} (w : View h 1 v a.length (strs a)) (x : View h 1 u b.length (strs b)) (hl : a.length = b.length) (hm : a.length < 4611686018427387904) : ∀ (j i k : Nat) (t : T), i + j = a.length → j < k → a.take i = b.take i → getP (way 0) t = some v → getP (way 1) t = some u → getP (way 5) t = some (.int .i64 i) →
    Gets (cLoop Tryz.l124_0 k Tryz.l2 t h) fun fl t' h' => h' = h ∧ (fl = .exit 0 ∧ a = b ∨ fl = .ret ∧ getP (way 4) t' = some (.bool false) ∧ a ≠ b) := by
  have hv := w.length
  intro j
  induction j with
  | zero =>
    intro i k t hi hk he t0 t1 t5
    obtain ⟨k, rfl⟩ : ∃ m, k = m + 1 := ⟨k - 1, by omega⟩
    rw [loop_succ]
    generalize (fun t h => cLoop Tryz.l124_0 k Tryz.l2 t h) = L
    unfold Tryz.l124_0
    have e1 : ltI (i : Int) (a.length : Int) = false := ltIf (by omega)
    rw [List.take_of_length_le (by omega), List.take_of_length_le (by omega)] at he
    generalize a.length = n at *
    simp [↓ kq, kq, ↓ ko, ko, ↓ kt, ↓ kz, kb, kv, kt, kx, t0, t1, t5, hv, e1, gets_some, -bO_of, -bB_true, -bB_false, -H.next_push, -Int.natCast_add]
    exact he
  | succ j ih =>
    intro i k t hi hk he t0 t1 t5
    obtain ⟨k, rfl⟩ : ∃ m, k = m + 1 := ⟨k - 1, by omega⟩
    rw [loop_succ]
    generalize hL : (fun t h => cLoop Tryz.l124_0 k Tryz.l2 t h) = L
    have e1 : ltI (i : Int) (a.length : Int) = true := ltIt (by omega)
    have e3 : IntKind.i64.wrap ((i : Int) + 1) = ((i + 1 : Nat) : Int) := by rw [wrapI64 (by omega) (by omega)]; omega
    obtain ⟨y, hy⟩ : ∃ y, a[i]? = some y := ⟨a[i], List.getElem?_eq_getElem (by omega)⟩
    obtain ⟨z, hz⟩ : ∃ z, b[i]? = some z := ⟨b[i], List.getElem?_eq_getElem (by omega)⟩
    obtain ⟨p, c1, c2⟩ := text_load w hy
    obtain ⟨q, d1, d2⟩ := text_load x hz
    by_cases hyz : y = z
    · subst hyz
      have e5 := eqB_self y
      have h2 := take_eq_succ hy hz he
      unfold Tryz.l124_0
      generalize hn : a.length = n at *
      simp [↓ kq, kq, ↓ ko, ko, ↓ kt, ↓ kz, kb, kv, kt, kx, t0, t1, t5, hv, e1, e3, c1, c2, d1, d2, e5, -bO_of, -bB_true, -bB_false, -H.next_push, -Int.natCast_add]
      rw [← hL]
      exact ih (i + 1) k _ (by omega) (by omega) h2 (by simp [kq, kb, t0]) (by simp [kq, kb, t1]) (by simp [kq, kb])
    · have e5 := eqB_ne hyz
      have h2 := ne_of_get hy hz hyz
      unfold Tryz.l124_0
      generalize hn : a.length = n at *
      simp [↓ kq, kq, ↓ ko, ko, ↓ kt, ↓ kz, kb, kv, kt, kx, t0, t1, t5, hv, e1, e3, c1, c2, d1, d2, e5, gets_some, -bO_of, -bB_true, -bB_false, -H.next_push, -Int.natCast_add]
      exact h2
theorem Tryz.texts56 {h : H} {v u : SV} {a b : List (List UInt8)} (w : View h 1 v a.length (strs a)) (x : View h 1 u b.length (strs b)) (hm : a.length < 4611686018427387904) (hm2 : b.length < 4611686018427387904) :
    ∃ r, Tryz.l2 124 [v, u] h = some (.bool r, h) ∧ (r = true ↔ a = b) := by
  have main : ∃ v' h', Tryz.l2 124 [v, u] h = some (v', h') ∧ (h' = h ∧ ∃ r, v' = .bool r ∧ (r = true ↔ a = b)) := by
    refine Go.Sh.enG Tryz.kTab_ok (X := Tryz.X2) (kf := Tryz.k124) rfl (by kernel_rfl) (a.length + 2) Tryz.k124_eq rfl ?_
    have lv := w.length
    have lu := x.length
    by_cases hl : a.length = b.length
    · have e1 : eqI (a.length : Int) (b.length : Int) = true := by rw [eqI_eq]; simp [hl]
      simp [↓ kq, kq, ↓ ko, ko, ↓ kt, ↓ kz, kb, kv, kt, kx, lv, lu, e1, gets_some, -bO_of, -bB_true, -bB_false, -H.next_push, -Int.natCast_add]
      refine gets_next (gets_leave (Gets.mono (Tryz.texts56_loop w x hl hm a.length 0 (a.length + 2) _ (by omega) (by omega) rfl (by simp [kq, kb]) (by simp [kq, kb]) (by simp [kq, kb])) fun fl t' h' ⟨b1, b2⟩ => ?_))
      subst b1
      rcases b2 with ⟨rfl, b3⟩ | ⟨rfl, b3, b4⟩
      · simp only [if_true]
        simp [↓ kq, kq, ↓ ko, ko, ↓ kt, ↓ kz, kb, kv, kt, kx, gets_some, kc, oneS, -bO_of, -bB_true, -bB_false, -H.next_push, -Int.natCast_add]
        exact b3
      · simp [↓ kq, kq, ↓ ko, ko, ↓ kt, ↓ kz, kb, kv, kt, kx, b3, gets_some, kc, oneS, -bO_of, -bB_true, -bB_false, -H.next_push, -Int.natCast_add]
        exact b4
    · have e1 : eqI (a.length : Int) (b.length : Int) = false := by rw [eqI_eq]; simp; omega
      have h2 : a ≠ b := fun e => hl (by rw [e])
      generalize a.length = n at *
      generalize b.length = m at *
      simp [↓ kq, kq, ↓ ko, ko, ↓ kt, ↓ kz, kb, kv, kt, kx, lv, lu, e1, gets_some, kc, oneS, -bO_of, -bB_true, -bB_false, -H.next_push, -Int.natCast_add]
      exact h2
  obtain ⟨_, _, k1, rfl, r, rfl, k2⟩ := main
  exact ⟨r, k1, k2⟩
theorem Tryz.sameE58_loop {h : H} {v u : SV} {a b : List Edg} (w : View h 3 v a.length (edgs a)) (x : View h 3 u b.length (edgs b)) (hl : a.length = b.length) (hm : a.length < 4611686018427387904) : ∀ (j i k : Nat) (t : T), i + j = a.length → j < k → a.take i = b.take i → getP (way 0) t = some v → getP (way 1) t = some u → getP (way 5) t = some (.int .i64 i) →
    Gets (cLoop Tryz.l123_0 k Tryz.l2 t h) fun fl t' h' => h' = h ∧ (fl = .exit 0 ∧ a = b ∨ fl = .ret ∧ getP (way 4) t' = some (.bool false) ∧ a ≠ b) := by
  have hv := w.length
  intro j
  induction j with
  | zero =>
    intro i k t hi hk he t0 t1 t5
    obtain ⟨k, rfl⟩ : ∃ m, k = m + 1 := ⟨k - 1, by omega⟩
    rw [loop_succ]
    generalize (fun t h => cLoop Tryz.l123_0 k Tryz.l2 t h) = L
    unfold Tryz.l123_0
    have e1 : ltI (i : Int) (a.length : Int) = false := ltIf (by omega)
    rw [List.take_of_length_le (by omega), List.take_of_length_le (by omega)] at he
    generalize a.length = n at *
    simp [↓ kq, kq, ↓ ko, ko, ↓ kt, ↓ kz, kb, kv, kt, kx, t0, t1, t5, hv, e1, gets_some, -bO_of, -bB_true, -bB_false, -H.next_push, -Int.natCast_add]
    exact he
  | succ j ih =>
    intro i k t hi hk he t0 t1 t5
    obtain ⟨k, rfl⟩ : ∃ m, k = m + 1 := ⟨k - 1, by omega⟩
    rw [loop_succ]
    generalize hL : (fun t h => cLoop Tryz.l123_0 k Tryz.l2 t h) = L
    have e1 : ltI (i : Int) (a.length : Int) = true := ltIt (by omega)
    have e3 : IntKind.i64.wrap ((i : Int) + 1) = ((i + 1 : Nat) : Int) := by rw [wrapI64 (by omega) (by omega)]; omega
    obtain ⟨y, hy⟩ : ∃ y, a[i]? = some y := ⟨a[i], List.getElem?_eq_getElem (by omega)⟩
    obtain ⟨z, hz⟩ : ∃ z, b[i]? = some z := ⟨b[i], List.getElem?_eq_getElem (by omega)⟩
    obtain ⟨p, c1, c2⟩ := edge_load w hy
    obtain ⟨q, d1, d2⟩ := edge_load x hz
    by_cases hyz : y = z
    · subst hyz
      have e5 := keq_self h.get y
      generalize y.cells = yc at *
      have h2 := take_eq_succ hy hz he
      unfold Tryz.l123_0
      generalize hn : a.length = n at *
      simp [↓ kq, kq, ↓ ko, ko, ↓ kt, ↓ kz, kb, kv, kt, kx, t0, t1, t5, hv, e1, e3, c1, c2, d1, d2, e5, -bO_of, -bB_true, -bB_false, -H.next_push, -Int.natCast_add]
      rw [← hL]
      exact ih (i + 1) k _ (by omega) (by omega) h2 (by simp [kq, kb, t0]) (by simp [kq, kb, t1]) (by simp [kq, kb])
    · have e5 := keq_ne h.get hyz
      generalize y.cells = yc at *
      generalize z.cells = zc at *
      have h2 := ne_of_get hy hz hyz
      unfold Tryz.l123_0
      generalize hn : a.length = n at *
      simp [↓ kq, kq, ↓ ko, ko, ↓ kt, ↓ kz, kb, kv, kt, kx, t0, t1, t5, hv, e1, e3, c1, c2, d1, d2, e5, gets_some, -bO_of, -bB_true, -bB_false, -H.next_push, -Int.natCast_add]
      exact h2
theorem Tryz.sameE58 {h : H} {v u : SV} {a b : List Edg} (w : View h 3 v a.length (edgs a)) (x : View h 3 u b.length (edgs b)) (hm : a.length < 4611686018427387904) (hm2 : b.length < 4611686018427387904) :
    ∃ r, Tryz.l2 123 [v, u] h = some (.bool r, h) ∧ (r = true ↔ a = b) := by
  have main : ∃ v' h', Tryz.l2 123 [v, u] h = some (v', h') ∧ (h' = h ∧ ∃ r, v' = .bool r ∧ (r = true ↔ a = b)) := by
    refine Go.Sh.enG Tryz.kTab_ok (X := Tryz.X2) (kf := Tryz.k123) rfl (by kernel_rfl) (a.length + 2) Tryz.k123_eq rfl ?_
    have lv := w.length
    have lu := x.length
    by_cases hl : a.length = b.length
    · have e1 : eqI (a.length : Int) (b.length : Int) = true := by rw [eqI_eq]; simp [hl]
      simp [↓ kq, kq, ↓ ko, ko, ↓ kt, ↓ kz, kb, kv, kt, kx, lv, lu, e1, gets_some, -bO_of, -bB_true, -bB_false, -H.next_push, -Int.natCast_add]
      refine gets_next (gets_leave (Gets.mono (Tryz.sameE58_loop w x hl hm a.length 0 (a.length + 2) _ (by omega) (by omega) rfl (by simp [kq, kb]) (by simp [kq, kb]) (by simp [kq, kb])) fun fl t' h' ⟨b1, b2⟩ => ?_))
      subst b1
      rcases b2 with ⟨rfl, b3⟩ | ⟨rfl, b3, b4⟩
      · simp only [if_true]
        simp [↓ kq, kq, ↓ ko, ko, ↓ kt, ↓ kz, kb, kv, kt, kx, gets_some, kc, oneS, -bO_of, -bB_true, -bB_false, -H.next_push, -Int.natCast_add]
        exact b3
      · simp [↓ kq, kq, ↓ ko, ko, ↓ kt, ↓ kz, kb, kv, kt, kx, b3, gets_some, kc, oneS, -bO_of, -bB_true, -bB_false, -H.next_push, -Int.natCast_add]
        exact b4
    · have e1 : eqI (a.length : Int) (b.length : Int) = false := by rw [eqI_eq]; simp; omega
      have h2 : a ≠ b := fun e => hl (by rw [e])
      generalize a.length = n at *
      generalize b.length = m at *
      simp [↓ kq, kq, ↓ ko, ko, ↓ kt, ↓ kz, kb, kv, kt, kx, lv, lu, e1, gets_some, kc, oneS, -bO_of, -bB_true, -bB_false, -H.next_push, -Int.natCast_add]
      exact h2
  obtain ⟨_, _, k1, rfl, r, rfl, k2⟩ := main
  exact ⟨r, k1, k2⟩
theorem Tryz.rows57 {h : H} {v u : SV} (w : View h 2 v 0 []) (x : View h 2 u 0 []) : Tryz.l2 122 [v, u] h = some (.bool true, h) := by
  have main : ∃ v' h', Tryz.l2 122 [v, u] h = some (v', h') ∧ (h' = h ∧ v' = .bool true) := by
    refine Go.Sh.enG Tryz.kTab_ok (X := Tryz.X2) (kf := Tryz.k122) rfl (by kernel_rfl) 2 Tryz.k122_eq rfl ?_
    have lv := w.length
    have lu := x.length
    have e1 : eqI 0 0 = true := rfl
    have e2 : ltI 0 0 = false := rfl
    simp [↓ kq, kq, ↓ ko, ko, ↓ kt, ↓ kz, kb, kv, kt, kx, lv, lu, e1, gets_some, -bO_of, -bB_true, -bB_false, -H.next_push, -Int.natCast_add]
    refine gets_next (gets_leave ?_)
    rw [loop_succ]
    generalize (fun t h => cLoop Tryz.l122_0 _ Tryz.l2 t h) = L
    unfold Tryz.l122_0
    simp [↓ kq, kq, ↓ ko, ko, ↓ kt, ↓ kz, kb, kv, kt, kx, lv, lu, e1, e2, gets_some, kc, oneS, -bO_of, -bB_true, -bB_false, -H.next_push, -Int.natCast_add]
  obtain ⟨_, _, k1, rfl, rfl⟩ := main
  exact k1
end
end Go.Proofs
end
section
/- ChaWithin: an answer in order. -/
namespace Go.Proofs
open Go.Sh
set_option linter.unusedVariables false
attribute [local instance] powHeld
noncomputable section
theorem eqSV_one {v : SV} (h : flatV v = true) : eqSV v v = true := by
  have := eqS1_flat h
  cases v <;> first | exact this | cases h
theorem cells_flat {v : SV} (h : flatV v = true) : v.cells? = some [v] := by
  cases v <;> first | rfl | cases h
theorem kcat_one {v : SV} {rest : List Nat} {l q : List SV} (h1 : v.cells? = some [v]) (h2 : kcat rest l = some q) : kcat (1 :: rest) (v :: l) = some (v :: q) := by
  show bO v.cells? (fun cs => bB (hasLen 1 cs) (bO (kcat rest l) fun q => some (catX cs q)) none) = _
  rw [h1]
  show bO (kcat rest l) (fun q => some (catX [v] q)) = _
  rw [h2]; rfl
theorem loadV_four {g : Nat → Option SObj} {id : Nat} {cs : List SV} (h : rowCells g id = some cs) (hl : cs.length = 4) : loadV (some 4) g (.ptr id 0) = some (.agg cs) := by
  show bO (rowCells g id) (fun cs => kpart (some 4) cs 0) = _
  rw [h]
  show bO (takeX 4 cs) (fun l => some (SV.agg l)) = _
  rw [takeX_eq, if_pos (by omega), List.take_of_length_le (by omega)]; rfl
theorem store_four {h : H} {id : Nat} {cs vs : List SV} (hg : h.get id = some (.cells cs .fixed)) (hl : cs.length = 4) (hv : vs.length = 4) : storeV 4 h (.ptr id 0) (.agg vs) = some (.tuple [], h.put id (.cells vs .fixed)) := by
  show bB (hasLen 4 vs) (bO (storeX h id 0 vs) fun h => some (SV.tuple [], h)) none = _
  have e1 : hasLen 4 vs = true := by rw [hasLen_eq]; simp [hv]
  have e2 : layX vs 0 cs = some vs := by rw [layX_eq, if_pos (by omega)]; simp; omega
  have e3 : storeX h id 0 vs = some (h.put id (.cells vs .fixed)) := by
    unfold storeX
    rw [hg]
    simp only [e2, bO]
  rw [e1, e3]; rfl
/-- An answer of no sets and no initialisers, as cells. -/
structure Ans (h : H) (c : List SV) (E : List Edg) (R : List (List UInt8)) : Prop where
  four : ∃ s e r n, c = [s, e, r, n] ∧ flatV e = true ∧ flatV r = true ∧ flatV n = true ∧ flatV s = true ∧ View h 2 s 0 [] ∧ View h 3 e E.length (edgs E) ∧ View h 1 r R.length (strs R) ∧ View h 1 n 0 (strs [])
theorem flat_view {h : H} {es n : Nat} {v : SV} {cs : List SV} (w : View h es v n cs) : flatV v = true := by
  obtain ⟨_, ⟨rfl, _⟩ | ⟨_, _, _, _, rfl, _⟩⟩ := w <;> rfl
theorem Tryz.ordered155 {h : H} {c : List SV} {E : List Edg} {R : List (List UInt8)} (A : Ans h c E R) (hE : E.length < 60000) (hR : R.length < 60000) :
    ∃ c' h', Tryz.l2 73 [.agg c] h = some (.agg c', h') ∧ Calms h h' ∧ ∃ E' R', Ans h' c' E' R' ∧ E'.Pairwise ELt ∧ R'.Pairwise BLt ∧ (∀ x, x ∈ E' ↔ x ∈ E) ∧ (∀ x, x ∈ R' ↔ x ∈ R) ∧ E'.length ≤ E.length ∧ R'.length ≤ R.length := by
  obtain ⟨s, e, r, n, rfl, p1, p2, p3, p4, ws, we, wr, wn⟩ := A.four
  have main : ∃ v' h', Tryz.l2 73 [.agg [s, e, r, n]] h = some (v', h') ∧ ∃ c', v' = .agg c' ∧ Calms h h' ∧ ∃ E' R', Ans h' c' E' R' ∧ E'.Pairwise ELt ∧ R'.Pairwise BLt ∧ (∀ x, x ∈ E' ↔ x ∈ E) ∧ (∀ x, x ∈ R' ↔ x ∈ R) ∧ E'.length ≤ E.length ∧ R'.length ≤ R.length := by
    generalize hh1 : h.push (.cells [s, e, r, n] .fixed) = h1
    have f1 := calm_push hh1
    generalize hh2 : h1.push (.cells [.nilslice, .nilslice, .nilslice, .nilslice] .fixed) = h2
    have f2 := calm_push hh2
    have g2 := get_pushed hh2
    have n12 : h.next < h1.next := by rw [← hh1, H.next_push]; omega
    have n22 : h1.next < h2.next := by rw [← hh2, H.next_push]; omega
    have B2 : rowCells h2.get h.next = some [s, e, r, n] := keepRow f2 (rowCells_fixed (get_pushed hh1))
    have ls2 := ws.length
    obtain ⟨r0, h3, k3, S0, v3, o3, m3, f3, q3, _⟩ := Tryz.sorted220 (h := h2) (v := .nilslice) (zs := []) ⟨rfl, .inl ⟨rfl, rfl⟩⟩ (by simp)
    have hS0 : S0 = [] := by
      cases S0 with
      | nil => rfl
      | cons x l => have := (m3 x).1 (List.mem_cons_self ..); simp at this
    subst hS0
    have f3 : Calms h2 h3 := f3
    have l3 := v3.length
    have B3 := keepRow f3 B2
    have c03 : Calms h h3 := (f1.trans f2).trans f3
    obtain ⟨e', h4, k4, E', v4, o4, m4, f4, q4, y4⟩ := Tryz.edges222 (we.keep c03 fun _ _ k => k) hE
    have f4 : Calms h3 h4 := f4
    have B4 := keepRow f4 B3
    have c04 := c03.trans f4
    obtain ⟨r', h5, k5, R', v5, o5, m5, f5, q5, y5⟩ := Tryz.sorted220 (wr.keep c04 fun _ _ k => k) hR
    have f5 : Calms h4 h5 := f5
    have B5 := keepRow f5 B4
    have c05 := c04.trans f5
    obtain ⟨n', h6, k6, S6, v6, o6, m6, f6, q6, _⟩ := Tryz.sorted220 (zs := []) (wn.keep c05 fun _ _ k => k) (by simp)
    have hS6 : S6 = [] := by
      cases S6 with
      | nil => rfl
      | cons x l => have := (m6 x).1 (List.mem_cons_self ..); simp at this
    subst hS6
    have f6 : Calms h5 h6 := f6
    have c06 := c05.trans f6
    have c26 : Calms h2 h6 := ((f3.trans f4).trans f5).trans f6
    have g6 : h6.get h1.next = some (.cells [.nilslice, .nilslice, .nilslice, .nilslice] .fixed) := (c26.get _ n22).trans g2
    have st := store_four (vs := [.nilslice, e', r', n']) g6 rfl rfl
    have hid := H.get_lt g6
    generalize hh7 : h6.put h1.next (.cells [.nilslice, e', r', n'] .fixed) = h7 at st
    have f7 : Fr (· = h1.next) (· = h1.next) h6 h7 := by rw [← hh7]; exact Fr.put hid
    have B7 : rowCells h7.get h1.next = some [.nilslice, e', r', n'] := rowCells_fixed (by rw [← hh7, H.get_put _ _ _ _ hid, if_pos rfl])
    have x3 : h.next < h3.next := by have := c03.next; have := f3.next; omega
    have x4 : h.next < h4.next := by have := f4.next; omega
    have b3 := loadB B3
    have b4 := loadB B4
    have b5 := loadB B5
    have m34 : ∀ o, loadV none (mixTo h3 h4 h4.next) (.ptr h.next o) = [s, e, r, n][o]? := loadB ((rowCells_mix x3).trans B3)
    have m45 : ∀ o, loadV none (mixTo h4 h5 h5.next) (.ptr h.next o) = [s, e, r, n][o]? := loadB ((rowCells_mix x4).trans B4)
    have m35 : ∀ o, loadV none (mixTo h3 h5 h5.next) (.ptr h.next o) = [s, e, r, n][o]? := loadB ((rowCells_mix x3).trans B3)
    have L7 := loadV_four B7 rfl
    have b2 := loadB B2
    have er := eqSV_one p2
    have en := eqSV_one p3
    have e0 : ltI 0 0 = false := rfl
    have kc1 : kcat [1, 1, 1, 1] [.nilslice, e', r', n'] = some [.nilslice, e', r', n'] :=
      kcat_one rfl (kcat_one (cells_flat (flat_view v4)) (kcat_one (cells_flat (flat_view v5)) (kcat_one (cells_flat (flat_view v6)) rfl)))
    refine Go.Sh.enG Tryz.kTab_ok (X := Tryz.X2) (kf := Tryz.k73) rfl (by kernel_rfl) 2 Tryz.k73_eq rfl ?_
    simp [↓ kq, kq, ↓ ko, ko, ↓ kt, ↓ kz, kb, kv, kt, kx, hh1, hh2, gets_some, -bO_of, -bB_true, -bB_false, -H.next_push, -Int.natCast_add]
    refine gets_next (gets_leave ?_)
    rw [loop_succ]
    generalize (fun t h => cLoop Tryz.l73_1 _ Tryz.l2 t h) = L1
    unfold Tryz.l73_1
    simp [↓ kq, kq, ↓ ko, ko, ↓ kt, ↓ kz, kb, kv, kt, kx, b2, ls2, e0, k3, gets_some, -bO_of, -bB_true, -bB_false, -H.next_push, -Int.natCast_add]
    refine gets_next (gets_leave ?_)
    rw [loop_succ]
    generalize (fun t h => cLoop Tryz.l73_0 _ Tryz.l2 t h) = L2
    unfold Tryz.l73_0
    simp [↓ kq, kq, ↓ ko, ko, ↓ kt, ↓ kz, kb, kv, kt, kx, l3, e0, b3, k4, m34, b4, er, k5, m45, m35, b5, en, k6, kc1, st, L7, gets_some, kc, oneS, -bO_of, -bB_true, -bB_false, -H.next_push, -Int.natCast_add]
    have z3 := c26.next
    have z23 := f3.next
    have z34 := f4.next
    have z45 := f5.next
    have c07 : Calms h h7 := Fr.new c06 f7 (fun q hq => by subst hq; omega) (fun q hq => by subst hq; omega)
    refine ⟨c07, E', R', ⟨⟨_, _, _, _, rfl, flat_view v4, flat_view v5, flat_view v6, rfl, ⟨rfl, .inl ⟨rfl, rfl⟩⟩, ?_, ?_, ?_⟩⟩, o4, o5, m4, m5, y4, y5⟩
    · exact ((v4.keep f5 fun _ _ k => k).keep f6 fun _ _ k => k).keep f7 fun q hq k => by have := q4 q hq; subst k; omega
    · exact (v5.keep f6 fun _ _ k => k).keep f7 fun q hq k => by have := q5 q hq; subst k; omega
    · exact v6.keep f7 fun q hq k => by have := q6 q hq; subst k; omega
  obtain ⟨_, h', k1, c', rfl, k2, E', R', k3⟩ := main
  exact ⟨c', h', k1, k2, E', R', k3⟩
end
end Go.Proofs
end
section
/- ChaWithin: answers that are the same. -/
namespace Go.Proofs
open Go.Sh
set_option linter.unusedVariables false
attribute [local instance] powHeld
noncomputable section
theorem Ans.keep {h h' : H} {c : List SV} {E : List Edg} {R : List (List UInt8)} (A : Ans h c E R) (f : Calms h h') : Ans h' c E R := by
  obtain ⟨s, e, r, n, rfl, p1, p2, p3, p4, ws, we, wr, wn⟩ := A.four
  exact ⟨⟨s, e, r, n, rfl, p1, p2, p3, p4, ws.keep f fun _ _ k => k, we.keep f fun _ _ k => k, wr.keep f fun _ _ k => k, wn.keep f fun _ _ k => k⟩⟩
theorem Ans.flat {h : H} {c : List SV} {E : List Edg} {R : List (List UInt8)} (A : Ans h c E R) : c.all flatV = true ∧ c.length = 4 := by
  obtain ⟨s, e, r, n, rfl, p1, p2, p3, p4, _⟩ := A.four
  exact ⟨by simp [p1, p2, p3, p4], rfl⟩
theorem Tryz.equal154 {h : H} {c d : List SV} {E F : List Edg} {R Q : List (List UInt8)} (A : Ans h c E R) (B : Ans h d F Q) (hE : E.length < 60000) (hF : F.length < 60000) (hR : R.length < 60000) (hQ : Q.length < 60000) :
    ∃ b h', Tryz.l2 72 [.agg c, .agg d] h = some (.bool b, h') ∧ Calms h h' ∧ (b = true ↔ E = F ∧ R = Q) := by
  have main : ∃ v' h', Tryz.l2 72 [.agg c, .agg d] h = some (v', h') ∧ ∃ b, v' = .bool b ∧ Calms h h' ∧ (b = true ↔ E = F ∧ R = Q) := by
    generalize hh1 : h.push (.cells c .fixed) = h1
    have f1 := calm_push hh1
    generalize hh2 : h1.push (.cells d .fixed) = h2
    have f2 := calm_push hh2
    have c02 := f1.trans f2
    have B1 := loadB (keepRow f2 (rowCells_fixed (get_pushed hh1)))
    have B2 := loadB (rowCells_fixed (get_pushed hh2))
    obtain ⟨s, e, r, n, rfl, p1, p2, p3, p4, ws, we, wr, wn⟩ := (A.keep c02).four
    obtain ⟨s', e', r', n', rfl, q1, q2, q3, q4, ws', we', wr', wn'⟩ := (B.keep c02).four
    have k1 := Tryz.rows57 ws ws'
    obtain ⟨b2, k2, m2⟩ := Tryz.sameE58 we we' (by omega) (by omega)
    obtain ⟨b3, k3, m3⟩ := Tryz.texts56 wr wr' (by omega) (by omega)
    obtain ⟨b4, k4, m4⟩ := Tryz.texts56 (a := []) (b := []) wn wn' (by simp) (by simp)
    have hb4 : b4 = true := m4.2 rfl
    subst hb4
    refine Go.Sh.enG Tryz.kTab_ok (X := Tryz.X2) (kf := Tryz.k72) rfl (by kernel_rfl) 2 Tryz.k72_eq rfl ?_
    cases b2
    · simp [↓ kq, kq, ↓ ko, ko, ↓ kt, ↓ kz, kb, kv, kt, kx, hh1, hh2, B1, B2, k1, k2, k3, k4, gets_some, kc, oneS, -bO_of, -bB_true, -bB_false, -H.next_push, -Int.natCast_add]
      refine ⟨c02, fun h1 h2 => ?_⟩
      have := m2.2 h1
      cases this
    · cases b3
      · simp [↓ kq, kq, ↓ ko, ko, ↓ kt, ↓ kz, kb, kv, kt, kx, hh1, hh2, B1, B2, k1, k2, k3, k4, gets_some, kc, oneS, -bO_of, -bB_true, -bB_false, -H.next_push, -Int.natCast_add]
        refine ⟨c02, fun h1 h2 => ?_⟩
        have := m3.2 h2
        cases this
      · simp [↓ kq, kq, ↓ ko, ko, ↓ kt, ↓ kz, kb, kv, kt, kx, hh1, hh2, B1, B2, k1, k2, k3, k4, gets_some, kc, oneS, -bO_of, -bB_true, -bB_false, -H.next_push, -Int.natCast_add]
        exact ⟨c02, m2.1 rfl, m3.1 rfl⟩
  obtain ⟨_, h', k1, b, rfl, k2, k3⟩ := main
  exact ⟨b, h', k1, k2, k3⟩
theorem Tryz.same91 {h : H} {c d : List SV} {E F : List Edg} {R Q : List (List UInt8)} (A : Ans h c E R) (B : Ans h d F Q) (hE : E.length < 60000) (hF : F.length < 60000) (hR : R.length < 60000) (hQ : Q.length < 60000) :
    ∃ b h', Tryz.l2 34 [.agg c, .agg d] h = some (.bool b, h') ∧ Calms h h' ∧ (b = true ↔ (∀ x, x ∈ E ↔ x ∈ F) ∧ (∀ x, x ∈ R ↔ x ∈ Q)) := by
  have main : ∃ v' h', Tryz.l2 34 [.agg c, .agg d] h = some (v', h') ∧ ∃ b, v' = .bool b ∧ Calms h h' ∧ (b = true ↔ (∀ x, x ∈ E ↔ x ∈ F) ∧ (∀ x, x ∈ R ↔ x ∈ Q)) := by
    generalize hh1 : h.push (.cells c .fixed) = h1
    have f1 := calm_push hh1
    generalize hh2 : h1.push (.cells d .fixed) = h2
    have f2 := calm_push hh2
    have c02 := f1.trans f2
    have B1 := keepRow f2 (rowCells_fixed (get_pushed hh1))
    have B2 := rowCells_fixed (get_pushed hh2)
    have n2 : h1.next < h2.next := by rw [← hh2, H.next_push]; omega
    obtain ⟨c1, h3, k1, f3, E1, R1, A1, o1, o2, o3, o4, o5, o6⟩ := Tryz.ordered155 (A.keep c02) hE hR
    have c03 := c02.trans f3
    obtain ⟨d1, h4, k2, f4, F1, Q1, A2, u1, u2, u3, u4, u5, u6⟩ := Tryz.ordered155 (B.keep c03) hF hQ
    obtain ⟨b, h5, k3, f5, hb⟩ := Tryz.equal154 (A1.keep f4) A2 (by omega) (by omega) (by omega) (by omega)
    have hb2 : b = true ↔ (∀ x, x ∈ E ↔ x ∈ F) ∧ (∀ x, x ∈ R ↔ x ∈ Q) := by
      rw [hb]
      constructor
      · rintro ⟨rfl, rfl⟩
        exact ⟨fun x => (o3 x).symm.trans (u3 x), fun x => (o4 x).symm.trans (u4 x)⟩
      · rintro ⟨h1, h2⟩
        exact ⟨rises_ext eOrd o1 u1 fun x => (o3 x).trans ((h1 x).trans (u3 x).symm), rises_ext bOrd o2 u2 fun x => (o4 x).trans ((h2 x).trans (u4 x).symm)⟩
    have L1 := loadV_four B1 A.flat.2
    have L2 := loadV_four (keepRow f3 B2) B.flat.2
    have M2 : loadV (some 4) (mixTo h2 h3 h3.next) (.ptr h1.next 0) = some (.agg d) := loadV_four ((rowCells_mix n2).trans B2) B.flat.2
    have ed := eqSV_flat B.flat.1
    have e1 : (SV.agg c).cells? = some c := rfl
    have e2 : (SV.agg d).cells? = some d := rfl
    refine Go.Sh.enG Tryz.kTab_ok (X := Tryz.X2) (kf := Tryz.k34) rfl (by kernel_rfl) 2 Tryz.k34_eq rfl ?_
    simp [↓ kq, kq, ↓ ko, ko, ↓ kt, ↓ kz, kb, kv, kt, kx, e1, e2, hh1, hh2, L1, k1, L2, M2, ed, k2, k3, gets_some, kc, oneS, -bO_of, -bB_true, -bB_false, -H.next_push, -Int.natCast_add]
    have hc := (c03.trans f4).trans f5
    cases b with
    | false =>
      refine .inl ⟨rfl, hc, fun h1 => Classical.byContradiction fun hn => ?_⟩
      have := hb2.2 ⟨h1, fun x => Classical.byContradiction fun hx => hn ⟨x, hx⟩⟩
      cases this
    | true => exact .inr ⟨rfl, hc, hb2.1 rfl⟩
  obtain ⟨_, h', k1, b, rfl, k2, k3⟩ := main
  exact ⟨b, h', k1, k2, k3⟩
end
end Go.Proofs
end
section
/- Rows of one's own: full ones, and those that grew out of them. -/
namespace Go.Proofs
open Go.Sh
set_option linter.unusedVariables false
/-- A row of one's own, at or above a place: full, or one that grows. -/
def Own (h : H) (lo es : Nat) (v : SV) (n : Nat) (cs : List SV) : Prop :=
  (∃ id, v = .slice id 0 n es (some n) ∧ lo ≤ id ∧ h.get id = some (.cells cs .fixed) ∧ cs.length = n * es) ∨ Gro h lo es v n cs
theorem Own.view {h : H} {lo es n : Nat} {v : SV} {cs : List SV} (g : Own h lo es v n cs) : View h es v n cs := by
  rcases g with ⟨id, rfl, _, hg, hl⟩ | g
  · exact view_row (rowCells_fixed hg) hl
  · exact g.view
theorem Own.keep {h h' : H} {lo es n : Nat} {v : SV} {cs : List SV} {S W : Nat → Prop} (g : Own h lo es v n cs) (f : Fr S W h h') (hn : ∀ q, lo ≤ q → ¬ S q) : Own h' lo es v n cs := by
  rcases g with ⟨id, rfl, h1, hg, hl⟩ | g
  · exact .inl ⟨id, rfl, h1, f.get hg (hn id h1), hl⟩
  · exact .inr (g.keep f hn)
theorem Own.append {h : H} {lo bytes es n k : Nat} {v x : SV} {cs new : List SV} (g : Own h lo es v n cs) (w : View h es x k new) (hmax : (n + k) * (bytes + es + 1) ≤ 1099511627776) (hlo : lo ≤ h.next) :
    ∃ v' h', appendV bytes es h v x = some (v', h') ∧ Own h' lo es v' (n + k) (cs ++ new) ∧ Fr (lo ≤ ·) (fun _ => False) h h' := by
  have hk : new.length = k * es := w.1
  rcases g with ⟨id, rfl, h1, hg, hl⟩ | g
  · have e2 : (Nat.ble ((n + k) * (bytes + es + 1)) 1099511627776 && Nat.beq es es) = true := by
      rw [Nat.ble_eq_true_of_le hmax]; simp
    have e : kappend h bytes es k new (.slice id 0 n es (some n)) = appendKnown h id 0 n es n k new := by
      show bB _ _ none = _
      rw [e2]; rfl
    by_cases k0 : k = 0
    · subst k0
      have hn : new = [] := List.eq_nil_of_length_eq_zero (by simpa using hk)
      subst hn
      refine ⟨.slice id 0 n es (some n), h, append_V w (e.trans ?_), .inl ⟨id, rfl, h1, by rw [List.append_nil]; exact hg, by simpa using hl⟩, .refl⟩
      unfold appendKnown
      rw [if_pos (by omega)]; rfl
    · refine ⟨.slice h.next 0 (n + k) es none, h.push (.cells (cs ++ new) (.grown none)), append_V w (e.trans ?_), .inr ⟨by simp [hl, hk, Nat.add_mul], .inr ⟨h.next, none, rfl, hlo, by rw [H.get_push, if_pos rfl], .none⟩⟩, .push⟩
      unfold appendKnown
      rw [if_neg (by omega), rowCells_fixed hg]
      have : takeCells cs 0 (n * es) = some cs := by
        unfold takeCells
        rw [if_pos (by omega), List.drop_zero, List.take_of_length_le (by omega)]
      simp only [this]
  · obtain ⟨v', h', k1, k2, k3⟩ := g.append k new hk hmax hlo
    exact ⟨v', h', append_V w k1, .inr k2, k3⟩
theorem own_empty {h h1 : H} {es lo : Nat} (hh : h.push (.cells [] .fixed) = h1) (hlo : lo ≤ h.next) : Own h1 lo es (.slice h.next 0 0 es (some 0)) 0 [] :=
  .inl ⟨h.next, rfl, hlo, get_pushed hh, by simp⟩
end Go.Proofs
end
section
/- ChaWithin: the reference's Within. -/
namespace Go.Proofs
open Go.Sh
set_option linter.unusedVariables false
attribute [local instance] powHeld
noncomputable section
theorem Tryz.within31 {h : H} {c d : List SV} {E F : List Edg} {R Q : List (List UInt8)} (A : Ans h c E R) (B : Ans h d F Q) (hE : E.length < 20000) (hF : F.length < 20000) (hR : R.length < 20000) (hQ : Q.length < 20000) :
    ∃ b h', Tryz.l2 13 [.agg c, .agg d] h = some (.bool b, h') ∧ Calms h h' ∧ (b = true ↔ (∀ x, x ∈ E → x ∈ F) ∧ (∀ x, x ∈ R → x ∈ Q)) := by
  have main : ∃ v' h', Tryz.l2 13 [.agg c, .agg d] h = some (v', h') ∧ ∃ b, v' = .bool b ∧ Calms h h' ∧ (b = true ↔ (∀ x, x ∈ E → x ∈ F) ∧ (∀ x, x ∈ R → x ∈ Q)) := by
    generalize hh1 : h.push (.cells c .fixed) = h1
    have f1 := calm_push hh1
    generalize hh2 : h1.push (.cells d .fixed) = h2
    have f2 := calm_push hh2
    have c02 := f1.trans f2
    have B1 := keepRow f2 (rowCells_fixed (get_pushed hh1))
    have B2 := rowCells_fixed (get_pushed hh2)
    have n2 : h1.next < h2.next := by rw [← hh2, H.next_push]; omega
    have D := B.keep c02
    obtain ⟨s, e, r, m, rfl, p1, p2, p3, p4, ws, we, wr, wn⟩ := (A.keep c02).four
    obtain ⟨s', e', r', m', rfl, q1, q2, q3, q4, ws', we', wr', wn'⟩ := D.four
    have Ch2 : Calms h2 h2 := .refl
    have z1 : (SV.agg [s, e, r, m]).cells? = some [s, e, r, m] := rfl
    have z2 : (SV.agg [s', e', r', m']).cells? = some [s', e', r', m'] := rfl
    generalize hha1 : h2.push (.cells [] .fixed) = a1
    have fa1 := calm_push hha1
    have Ca1 : Calms h2 a1 := Ch2.trans fa1
    obtain ⟨u1, b1, ka1, O11, fb1⟩ := (own_empty (es := 2) hha1 (Nat.le_refl _)).append (bytes := 40) (ws.keep Ca1 fun _ _ k => k) (by omega) fa1.next
    have Cb1 : Calms h2 b1 := Fr.new Ca1 fb1 (fun q hq => Nat.le_trans Ch2.next hq) (fun q hq => hq.elim)
    obtain ⟨w1, c1, kb1, O21, fc1⟩ := O11.append (bytes := 40) (ws'.keep Cb1 fun _ _ k => k) (by omega) (Nat.le_trans fa1.next fb1.next)
    have Cc1 : Calms h2 c1 := Fr.new Cb1 fc1 (fun q hq => Nat.le_trans Ch2.next hq) (fun q hq => hq.elim)
    have na1 := fa1.next
    have nb1 := fb1.next
    have nc1 := fc1.next
    have la1 := loadB (keepRow Ca1 B1)
    have lb1 := loadB (keepRow Cb1 B2)
    have m1a1 : ∀ y n o, loadV none (mixTo a1 y n) (.ptr h.next o) = [s, e, r, m][o]? := fun y n => loadB ((rowCells_mix (rowCells_lt (keepRow Ca1 B1))).trans (keepRow Ca1 B1))
    have m2a1 : ∀ y n o, loadV none (mixTo a1 y n) (.ptr h1.next o) = [s', e', r', m'][o]? := fun y n => loadB ((rowCells_mix (rowCells_lt (keepRow Ca1 B2))).trans (keepRow Ca1 B2))
    have m1b1 : ∀ y n o, loadV none (mixTo b1 y n) (.ptr h.next o) = [s, e, r, m][o]? := fun y n => loadB ((rowCells_mix (rowCells_lt (keepRow Cb1 B1))).trans (keepRow Cb1 B1))
    have m2b1 : ∀ y n o, loadV none (mixTo b1 y n) (.ptr h1.next o) = [s', e', r', m'][o]? := fun y n => loadB ((rowCells_mix (rowCells_lt (keepRow Cb1 B2))).trans (keepRow Cb1 B2))
    generalize hha2 : c1.push (.cells [] .fixed) = a2
    have fa2 := calm_push hha2
    have Ca2 : Calms h2 a2 := Cc1.trans fa2
    obtain ⟨u2, b2, ka2, O12, fb2⟩ := (own_empty (es := 3) hha2 (Nat.le_refl _)).append (bytes := 40) (we.keep Ca2 fun _ _ k => k) (by omega) fa2.next
    have Cb2 : Calms h2 b2 := Fr.new Ca2 fb2 (fun q hq => Nat.le_trans Cc1.next hq) (fun q hq => hq.elim)
    obtain ⟨w2, c2, kb2, O22, fc2⟩ := O12.append (bytes := 40) (we'.keep Cb2 fun _ _ k => k) (by omega) (Nat.le_trans fa2.next fb2.next)
    have Cc2 : Calms h2 c2 := Fr.new Cb2 fc2 (fun q hq => Nat.le_trans Cc1.next hq) (fun q hq => hq.elim)
    have na2 := fa2.next
    have nb2 := fb2.next
    have nc2 := fc2.next
    have la2 := loadB (keepRow Ca2 B1)
    have lb2 := loadB (keepRow Cb2 B2)
    have m1a2 : ∀ y n o, loadV none (mixTo a2 y n) (.ptr h.next o) = [s, e, r, m][o]? := fun y n => loadB ((rowCells_mix (rowCells_lt (keepRow Ca2 B1))).trans (keepRow Ca2 B1))
    have m2a2 : ∀ y n o, loadV none (mixTo a2 y n) (.ptr h1.next o) = [s', e', r', m'][o]? := fun y n => loadB ((rowCells_mix (rowCells_lt (keepRow Ca2 B2))).trans (keepRow Ca2 B2))
    have m1b2 : ∀ y n o, loadV none (mixTo b2 y n) (.ptr h.next o) = [s, e, r, m][o]? := fun y n => loadB ((rowCells_mix (rowCells_lt (keepRow Cb2 B1))).trans (keepRow Cb2 B1))
    have m2b2 : ∀ y n o, loadV none (mixTo b2 y n) (.ptr h1.next o) = [s', e', r', m'][o]? := fun y n => loadB ((rowCells_mix (rowCells_lt (keepRow Cb2 B2))).trans (keepRow Cb2 B2))
    generalize hha3 : c2.push (.cells [] .fixed) = a3
    have fa3 := calm_push hha3
    have Ca3 : Calms h2 a3 := Cc2.trans fa3
    obtain ⟨u3, b3, ka3, O13, fb3⟩ := (own_empty (es := 1) hha3 (Nat.le_refl _)).append (bytes := 16) (wr.keep Ca3 fun _ _ k => k) (by omega) fa3.next
    have Cb3 : Calms h2 b3 := Fr.new Ca3 fb3 (fun q hq => Nat.le_trans Cc2.next hq) (fun q hq => hq.elim)
    obtain ⟨w3, c3, kb3, O23, fc3⟩ := O13.append (bytes := 16) (wr'.keep Cb3 fun _ _ k => k) (by omega) (Nat.le_trans fa3.next fb3.next)
    have Cc3 : Calms h2 c3 := Fr.new Cb3 fc3 (fun q hq => Nat.le_trans Cc2.next hq) (fun q hq => hq.elim)
    have na3 := fa3.next
    have nb3 := fb3.next
    have nc3 := fc3.next
    have la3 := loadB (keepRow Ca3 B1)
    have lb3 := loadB (keepRow Cb3 B2)
    have m1a3 : ∀ y n o, loadV none (mixTo a3 y n) (.ptr h.next o) = [s, e, r, m][o]? := fun y n => loadB ((rowCells_mix (rowCells_lt (keepRow Ca3 B1))).trans (keepRow Ca3 B1))
    have m2a3 : ∀ y n o, loadV none (mixTo a3 y n) (.ptr h1.next o) = [s', e', r', m'][o]? := fun y n => loadB ((rowCells_mix (rowCells_lt (keepRow Ca3 B2))).trans (keepRow Ca3 B2))
    have m1b3 : ∀ y n o, loadV none (mixTo b3 y n) (.ptr h.next o) = [s, e, r, m][o]? := fun y n => loadB ((rowCells_mix (rowCells_lt (keepRow Cb3 B1))).trans (keepRow Cb3 B1))
    have m2b3 : ∀ y n o, loadV none (mixTo b3 y n) (.ptr h1.next o) = [s', e', r', m'][o]? := fun y n => loadB ((rowCells_mix (rowCells_lt (keepRow Cb3 B2))).trans (keepRow Cb3 B2))
    generalize hha4 : c3.push (.cells [] .fixed) = a4
    have fa4 := calm_push hha4
    have Ca4 : Calms h2 a4 := Cc3.trans fa4
    obtain ⟨u4, b4, ka4, O14, fb4⟩ := (own_empty (es := 1) hha4 (Nat.le_refl _)).append (bytes := 16) (wn.keep Ca4 fun _ _ k => k) (by omega) fa4.next
    have Cb4 : Calms h2 b4 := Fr.new Ca4 fb4 (fun q hq => Nat.le_trans Cc3.next hq) (fun q hq => hq.elim)
    obtain ⟨w4, c4, kb4, O24, fc4⟩ := O14.append (bytes := 16) (wn'.keep Cb4 fun _ _ k => k) (by omega) (Nat.le_trans fa4.next fb4.next)
    have Cc4 : Calms h2 c4 := Fr.new Cb4 fc4 (fun q hq => Nat.le_trans Cc3.next hq) (fun q hq => hq.elim)
    have na4 := fa4.next
    have nb4 := fb4.next
    have nc4 := fc4.next
    have la4 := loadB (keepRow Ca4 B1)
    have lb4 := loadB (keepRow Cb4 B2)
    have m1a4 : ∀ y n o, loadV none (mixTo a4 y n) (.ptr h.next o) = [s, e, r, m][o]? := fun y n => loadB ((rowCells_mix (rowCells_lt (keepRow Ca4 B1))).trans (keepRow Ca4 B1))
    have m2a4 : ∀ y n o, loadV none (mixTo a4 y n) (.ptr h1.next o) = [s', e', r', m'][o]? := fun y n => loadB ((rowCells_mix (rowCells_lt (keepRow Ca4 B2))).trans (keepRow Ca4 B2))
    have m1b4 : ∀ y n o, loadV none (mixTo b4 y n) (.ptr h.next o) = [s, e, r, m][o]? := fun y n => loadB ((rowCells_mix (rowCells_lt (keepRow Cb4 B1))).trans (keepRow Cb4 B1))
    have m2b4 : ∀ y n o, loadV none (mixTo b4 y n) (.ptr h1.next o) = [s', e', r', m'][o]? := fun y n => loadB ((rowCells_mix (rowCells_lt (keepRow Cb4 B2))).trans (keepRow Cb4 B2))
    have es' := eqSV_one q4
    have ee := eqSV_one p1
    have ee' := eqSV_one q1
    have er := eqSV_one p2
    have er' := eqSV_one q2
    have em := eqSV_one p3
    have em' := eqSV_one q3
    have y1 : kcat [] [] = some [] := rfl
    generalize hh3 : c4.push (.cells [.nilslice, .nilslice, .nilslice, .nilslice] .fixed) = h3
    have f3 := calm_push hh3
    have g3 := get_pushed hh3
    have st := store_four (vs := [w1, w2, w3, w4]) g3 rfl rfl
    have hid := H.get_lt g3
    have C3 : Calms h2 h3 := Cc4.trans f3
    generalize hh4 : h3.put c4.next (.cells [w1, w2, w3, w4] .fixed) = h4 at st
    have f4 : Fr (· = c4.next) (· = c4.next) h3 h4 := by rw [← hh4]; exact Fr.put hid
    have n4 : h2.next ≤ c4.next := Cc4.next
    have C4 : Calms h2 h4 := Fr.new C3 f4 (fun q hq => by subst hq; exact n4) (fun q hq => by subst hq; exact n4)
    have L4 := loadV_four (rowCells_fixed (show h4.get c4.next = some (.cells [w1, w2, w3, w4] .fixed) by rw [← hh4, H.get_put _ _ _ _ hid, if_pos rfl])) rfl
    have L5 := loadV_four (keepRow C4 B2) rfl
    have keep4 : ∀ {es n : Nat} {v : SV} {cs : List SV}, View c4 es v n cs → View h4 es v n cs := fun w => (w.keep f3 fun _ _ k => k).keep f4 fun q hq k => by have := w.lt q hq; subst k; omega
    have V1 := O21.view
    have V2 := O22.view
    have V3 := O23.view
    have V4 := keep4 O24.view
    have V3 := keep4 (((V3.keep fa4 fun _ _ k => k).keep fb4 fun q hq k => by have := V3.lt q hq; omega).keep fc4 fun q hq k => by have := V3.lt q hq; omega)
    have V2 := ((V2.keep fa3 fun _ _ k => k).keep fb3 fun q hq k => by have := V2.lt q hq; omega).keep fc3 fun q hq k => by have := V2.lt q hq; omega
    have V2' := keep4 (((V2.keep fa4 fun _ _ k => k).keep fb4 fun q hq k => by have := V2.lt q hq; omega).keep fc4 fun q hq k => by have := V2.lt q hq; omega)
    have V1 := ((V1.keep fa2 fun _ _ k => k).keep fb2 fun q hq k => by have := V1.lt q hq; omega).keep fc2 fun q hq k => by have := V1.lt q hq; omega
    have V1 := ((V1.keep fa3 fun _ _ k => k).keep fb3 fun q hq k => by have := V1.lt q hq; omega).keep fc3 fun q hq k => by have := V1.lt q hq; omega
    have V1' := keep4 (((V1.keep fa4 fun _ _ k => k).keep fb4 fun q hq k => by have := V1.lt q hq; omega).keep fc4 fun q hq k => by have := V1.lt q hq; omega)
    have A4 : Ans h4 [w1, w2, w3, w4] (E ++ F) (R ++ Q) := ⟨⟨_, _, _, _, rfl, flat_view V2', flat_view V3, flat_view V4, flat_view V1', by simpa using V1', by rw [List.length_append, edgs_append]; simpa using V2', by rw [List.length_append, strs_append]; simpa using V3, V4⟩⟩
    obtain ⟨b, h5, k5, f5, hb⟩ := Tryz.same91 A4 (D.keep C4) (by simp; omega) (by omega) (by simp; omega) (by omega)
    have hb2 : b = true ↔ (∀ x, x ∈ E → x ∈ F) ∧ (∀ x, x ∈ R → x ∈ Q) := by
      rw [hb]
      constructor
      · rintro ⟨h1, h2⟩
        exact ⟨fun x hx => (h1 x).1 (List.mem_append_left _ hx), fun x hx => (h2 x).1 (List.mem_append_left _ hx)⟩
      · rintro ⟨h1, h2⟩
        refine ⟨fun x => ⟨fun hx => ?_, fun hx => List.mem_append_right _ hx⟩, fun x => ⟨fun hx => ?_, fun hx => List.mem_append_right _ hx⟩⟩
        · rcases List.mem_append.1 hx with hx | hx
          · exact h1 x hx
          · exact hx
        · rcases List.mem_append.1 hx with hx | hx
          · exact h2 x hx
          · exact hx
    have kc1 : kcat [1, 1, 1, 1] [w1, w2, w3, w4] = some [w1, w2, w3, w4] :=
      kcat_one (cells_flat (flat_view V1')) (kcat_one (cells_flat (flat_view V2')) (kcat_one (cells_flat (flat_view V3)) (kcat_one (cells_flat (flat_view V4)) rfl)))
    refine Go.Sh.enG Tryz.kTab_ok (X := Tryz.X2) (kf := Tryz.k13) rfl (by kernel_rfl) 2 Tryz.k13_eq rfl ?_
    simp [↓ kq, kq, ↓ ko, ko, ↓ kt, ↓ kz, kb, kv, kt, kx, hh1, hh2, z1, z2, hha1, ka1, kb1, la1, lb1, m1a1, m2a1, m1b1, m2b1, hha2, ka2, kb2, la2, lb2, m1a2, m2a2, m1b2, m2b2, hha3, ka3, kb3, la3, lb3, m1a3, m2a3, m1b3, m2b3, hha4, ka4, kb4, la4, lb4, m1a4, m2a4, m1b4, m2b4, es', ee, ee', er, er', em, em', y1, hh3, st, L4, L5, k5, kc1, gets_some, kc, oneS, -bO_of, -bB_true, -bB_false, -H.next_push, -Int.natCast_add]
    have hc := (c02.trans C4).trans f5
    cases b with
    | false =>
      refine .inl ⟨rfl, hc, fun h1 => Classical.byContradiction fun hn => ?_⟩
      have := hb2.2 ⟨h1, fun x hx => Classical.byContradiction fun hx2 => hn ⟨x, hx, hx2⟩⟩
      cases this
    | true => exact .inr ⟨rfl, hc, hb2.1 rfl⟩
  obtain ⟨_, h', k1, b, rfl, k2, k3⟩ := main
  exact ⟨b, h', k1, k2, k3⟩
end
end Go.Proofs
end
