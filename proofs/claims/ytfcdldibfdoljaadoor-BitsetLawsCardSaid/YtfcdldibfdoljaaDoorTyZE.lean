/- Bitset: union, what is taken off, what is in both; empty, the same, within. -/
import Derived.Test.YtfcdldibfdoljaaDoorTyZD
set_option linter.unusedVariables false
set_option linter.unusedSimpArgs false
set_option linter.unusedSectionVars false
namespace Go.Proofs
open Go.Sh
set_option linter.unusedVariables false
attribute [local instance] tabHeld
noncomputable section
theorem Two.or : Two 24 (· ||| ·) := fun x y h hx hy => Tryd.or hx hy h
theorem Two.and : Two 26 (· &&& ·) := fun x y h hx hy => Tryd.and hx hy h
theorem Two.minus : Two 25 andNot := fun x y h hx hy => Tryd.minus hx hy h
theorem or_lt (x y : Nat) (hx : x < 18446744073709551616) (hy : y < 18446744073709551616) : x ||| y < 18446744073709551616 := Nat.or_lt_two_pow (n := 64) hx hy
theorem and_lt (x y : Nat) (hx : x < 18446744073709551616) (hy : y < 18446744073709551616) : x &&& y < 18446744073709551616 := Nat.and_lt_two_pow (n := 64) _ hy
theorem minus_lt (x y : Nat) (hx : x < 18446744073709551616) (hy : y < 18446744073709551616) : andNot x y < 18446744073709551616 := Nat.lt_of_le_of_lt Nat.and_le_left hx
theorem Tryd.union {h : H} {va vb : SV} {a b : List Nat} (sa : IsSet h va a) (sb : IsSet h vb b) : ∃ r h', Tryd.lc 15 [.agg [va], .agg [vb]] h = some (r, h') ∧ SetRes h (trim (zipG (· ||| ·) a b)) r h' := by
  generalize hh1 : h.push (.cells [va] .fixed) = h1
  generalize hh2 : h1.push (.cells [vb] .fixed) = h2
  generalize hh3 : h2.push (.cells [.nilslice] .fixed) = h3
  have f1 : Fr (fun _ => False) (fun _ => False) h h1 := by rw [← hh1]; exact .push
  have f2 : Fr (fun _ => False) (fun _ => False) h1 h2 := by rw [← hh2]; exact .push
  have f3 : Fr (fun _ => False) (fun _ => False) h2 h3 := by rw [← hh3]; exact .push
  have n1 : h1.next = h.next + 1 := by rw [← hh1]; rfl
  have n2 : h2.next = h1.next + 1 := by rw [← hh2]; rfl
  have n3 : h3.next = h2.next + 1 := by rw [← hh3]; rfl
  have f03 := (f1.trans f2).trans f3
  have ca := loadV_agg ((rowCells_keep (f2.trans f3) (by omega) (fun k => k)).trans (by rw [← hh1]; exact rowCells_push) : rowCells h3.get h.next = some [va])
  have cb := loadV_agg ((rowCells_keep f3 (by omega) (fun k => k)).trans (by rw [← hh2]; exact rowCells_push) : rowCells h3.get h1.next = some [vb])
  have cr : h3.get h2.next = some (.cells [.nilslice] .fixed) := by rw [← hh3, H.get_push, if_pos rfl]
  obtain ⟨r, h4, k1, v', rfl, s4, f4, r4⟩ := Tryd.over Two.or or_lt (sa.calm f03) (sb.calm f03)
  have cr4 : h4.get h2.next = some (.cells [.nilslice] .fixed) := f4.get cr (fun k => k)
  have fp := Fr.put (o := .cells [v'] .fixed) (H.get_lt cr4)
  refine Tryd.enG (n := 1) (kf := Tryd.k15) (by kernel_rfl) Tryd.k15_eq rfl ?_
  simp [↓ kq, kq, ↓ ko, ko, kb, kv, kt, kx, hh1, hh2, hh3, ca, cb, k1, storeV_agg (b := v') cr4, gets_some, kc, loadV_agg (rowCells_put (cs' := [v']) cr4), -bO_of, -bB_true, -bB_false, -H.next_push, -Int.natCast_add]
  refine ⟨v', rfl, ⟨s4.view.keep fp fun q hq e => ?_, s4.words, s4.len⟩, Fr.new (f03.trans f4) fp (fun q e => ?_) (fun q e => ?_), fun q hq => by have := r4 q hq; omega⟩
  · have := r4 q hq
    have e : q = h2.next := e
    omega
  · have e : q = h2.next := e
    omega
  · have e : q = h2.next := e
    omega
theorem Tryd.take {h : H} {va vb : SV} {a b : List Nat} (sa : IsSet h va a) (sb : IsSet h vb b) : ∃ r h', Tryd.lc 16 [.agg [va], .agg [vb]] h = some (r, h') ∧ SetRes h (trim (zipG andNot a b)) r h' := by
  generalize hh1 : h.push (.cells [va] .fixed) = h1
  generalize hh2 : h1.push (.cells [vb] .fixed) = h2
  generalize hh3 : h2.push (.cells [.nilslice] .fixed) = h3
  have f1 : Fr (fun _ => False) (fun _ => False) h h1 := by rw [← hh1]; exact .push
  have f2 : Fr (fun _ => False) (fun _ => False) h1 h2 := by rw [← hh2]; exact .push
  have f3 : Fr (fun _ => False) (fun _ => False) h2 h3 := by rw [← hh3]; exact .push
  have n1 : h1.next = h.next + 1 := by rw [← hh1]; rfl
  have n2 : h2.next = h1.next + 1 := by rw [← hh2]; rfl
  have n3 : h3.next = h2.next + 1 := by rw [← hh3]; rfl
  have f03 := (f1.trans f2).trans f3
  have ca := loadV_agg ((rowCells_keep (f2.trans f3) (by omega) (fun k => k)).trans (by rw [← hh1]; exact rowCells_push) : rowCells h3.get h.next = some [va])
  have cb := loadV_agg ((rowCells_keep f3 (by omega) (fun k => k)).trans (by rw [← hh2]; exact rowCells_push) : rowCells h3.get h1.next = some [vb])
  have cr : h3.get h2.next = some (.cells [.nilslice] .fixed) := by rw [← hh3, H.get_push, if_pos rfl]
  obtain ⟨r, h4, k1, v', rfl, s4, f4, r4⟩ := Tryd.over Two.minus minus_lt (sa.calm f03) (sb.calm f03)
  have cr4 : h4.get h2.next = some (.cells [.nilslice] .fixed) := f4.get cr (fun k => k)
  have fp := Fr.put (o := .cells [v'] .fixed) (H.get_lt cr4)
  refine Tryd.enG (n := 1) (kf := Tryd.k16) (by kernel_rfl) Tryd.k16_eq rfl ?_
  simp [↓ kq, kq, ↓ ko, ko, kb, kv, kt, kx, hh1, hh2, hh3, ca, cb, k1, storeV_agg (b := v') cr4, gets_some, kc, loadV_agg (rowCells_put (cs' := [v']) cr4), -bO_of, -bB_true, -bB_false, -H.next_push, -Int.natCast_add]
  refine ⟨v', rfl, ⟨s4.view.keep fp fun q hq e => ?_, s4.words, s4.len⟩, Fr.new (f03.trans f4) fp (fun q e => ?_) (fun q e => ?_), fun q hq => by have := r4 q hq; omega⟩
  · have := r4 q hq
    have e : q = h2.next := e
    omega
  · have e : q = h2.next := e
    omega
  · have e : q = h2.next := e
    omega
theorem Tryd.both {h : H} {va vb : SV} {a b : List Nat} (sa : IsSet h va a) (sb : IsSet h vb b) : ∃ r h', Tryd.lc 17 [.agg [va], .agg [vb]] h = some (r, h') ∧ SetRes h (trim (zipG (· &&& ·) a b)) r h' := by
  generalize hh1 : h.push (.cells [va] .fixed) = h1
  generalize hh2 : h1.push (.cells [vb] .fixed) = h2
  generalize hh3 : h2.push (.cells [.nilslice] .fixed) = h3
  have f1 : Fr (fun _ => False) (fun _ => False) h h1 := by rw [← hh1]; exact .push
  have f2 : Fr (fun _ => False) (fun _ => False) h1 h2 := by rw [← hh2]; exact .push
  have f3 : Fr (fun _ => False) (fun _ => False) h2 h3 := by rw [← hh3]; exact .push
  have n1 : h1.next = h.next + 1 := by rw [← hh1]; rfl
  have n2 : h2.next = h1.next + 1 := by rw [← hh2]; rfl
  have n3 : h3.next = h2.next + 1 := by rw [← hh3]; rfl
  have f03 := (f1.trans f2).trans f3
  have ca := loadV_agg ((rowCells_keep (f2.trans f3) (by omega) (fun k => k)).trans (by rw [← hh1]; exact rowCells_push) : rowCells h3.get h.next = some [va])
  have cb := loadV_agg ((rowCells_keep f3 (by omega) (fun k => k)).trans (by rw [← hh2]; exact rowCells_push) : rowCells h3.get h1.next = some [vb])
  have cr : h3.get h2.next = some (.cells [.nilslice] .fixed) := by rw [← hh3, H.get_push, if_pos rfl]
  obtain ⟨r, h4, k1, v', rfl, s4, f4, r4⟩ := Tryd.over Two.and and_lt (sa.calm f03) (sb.calm f03)
  have cr4 : h4.get h2.next = some (.cells [.nilslice] .fixed) := f4.get cr (fun k => k)
  have fp := Fr.put (o := .cells [v'] .fixed) (H.get_lt cr4)
  refine Tryd.enG (n := 1) (kf := Tryd.k17) (by kernel_rfl) Tryd.k17_eq rfl ?_
  simp [↓ kq, kq, ↓ ko, ko, kb, kv, kt, kx, hh1, hh2, hh3, ca, cb, k1, storeV_agg (b := v') cr4, gets_some, kc, loadV_agg (rowCells_put (cs' := [v']) cr4), -bO_of, -bB_true, -bB_false, -H.next_push, -Int.natCast_add]
  refine ⟨v', rfl, ⟨s4.view.keep fp fun q hq e => ?_, s4.words, s4.len⟩, Fr.new (f03.trans f4) fp (fun q e => ?_) (fun q e => ?_), fun q hq => by have := r4 q hq; omega⟩
  · have := r4 q hq
    have e : q = h2.next := e
    omega
  · have e : q = h2.next := e
    omega
  · have e : q = h2.next := e
    omega
theorem Tryd.empty {h : H} {va : SV} {a : List Nat} (sa : IsSet h va a) : ∃ h', Tryd.lc 12 [.agg [va]] h = some (.bool (eqI a.length 0), h') ∧ Fr (fun _ => False) (fun _ => False) h h' := by
  generalize hh1 : h.push (.cells [va] .fixed) = h1
  have f1 : Fr (fun _ => False) (fun _ => False) h h1 := by rw [← hh1]; exact .push
  have ca : loadV none h1.get (.ptr h.next 0) = some va := by rw [loadV_one (by rw [← hh1]; exact rowCells_push : rowCells h1.get h.next = some [va])]; rfl
  refine ⟨h1, Tryd.en (n := 1) (kf := Tryd.k12) (by kernel_rfl) ?_, f1⟩
  rw [Tryd.k12_eq, enter_eq]
  simp [↓ kq, kq, ↓ ko, ko, kb, kv, kt, kx, argsP, hh1, ca, sa.view.length, kfin, kc, oneS, -bO_of, -bB_true, -bB_false, -H.next_push, -Int.natCast_add]
theorem Tryd.eq_loop {h : H} {va vb : SV} {a b : List Nat} (wa : View h 1 va a.length (u64s a)) (wb : View h 1 vb a.length (u64s b)) (hn : a.length < 9223372036854775807) (c : CF) : ∀ (j i k : Nat) (t : T), i + j = a.length → j < k → getP (way 0) t = some va → getP (way 1) t = some vb → getP (way 12) t = some (.int .i64 a.length) → getP (way 13) t = some (.int .i64 i) → a.take i = b.take i →
    Gets (cLoop Tryd.l27_0 k c t h) fun fl t' h' => h' = h ∧ (fl = .exit 0 ∧ a = b ∨ fl = .ret ∧ getP (way 4) t' = some (.bool false) ∧ a ≠ b) := by
  have hb : b.length = a.length := by have := wb.1; rw [u64s_len] at this; omega
  intro j
  induction j with
  | zero =>
    intro i k t hi hk t0 t1 t12 t13 he
    obtain ⟨k, rfl⟩ : ∃ m, k = m + 1 := ⟨k - 1, by omega⟩
    rw [loop_succ]
    generalize (fun t h => cLoop Tryd.l27_0 k c t h) = L
    unfold Tryd.l27_0
    have e1 : ltI (i : Int) a.length = false := by rw [ltI_eq]; exact decide_eq_false (by omega)
    simp [↓ kq, kq, ↓ ko, ko, kb, kv, kt, kx, t0, t1, t12, t13, e1, gets_some, -bO_of, -bB_true, -bB_false, -H.next_push, -Int.natCast_add]
    rw [List.take_of_length_le (by omega), List.take_of_length_le (by omega)] at he
    exact he
  | succ j ih =>
    intro i k t hi hk t0 t1 t12 t13 he
    obtain ⟨k, rfl⟩ : ∃ m, k = m + 1 := ⟨k - 1, by omega⟩
    rw [loop_succ]
    generalize hL : (fun t h => cLoop Tryd.l27_0 k c t h) = L
    unfold Tryd.l27_0
    have e1 : ltI (i : Int) a.length = true := by rw [ltI_eq]; exact decide_eq_true (by omega)
    have e2 : IntKind.i64.wrap ((i : Int) + 1) = ((i + 1 : Nat) : Int) := by
      rw [Int.natCast_add]; exact wrap_i64 (by omega) (by omega)
    obtain ⟨pA, x2, x3⟩ := wa.loadV (i := i) (by omega)
    rw [u64s_get a i (by omega)] at x3
    obtain ⟨pB, x4, x5⟩ := wb.loadV (i := i) (by omega)
    rw [u64s_get b i (by omega)] at x5
    have ga : a.take (i + 1) = a.take i ++ [wd a i] := by
      rw [List.take_succ_eq_append_getElem (by omega)]; simp [wd, List.getElem?_eq_getElem (show i < a.length by omega)]
    have gb : b.take (i + 1) = b.take i ++ [wd b i] := by
      rw [List.take_succ_eq_append_getElem (by omega)]; simp [wd, List.getElem?_eq_getElem (show i < b.length by omega)]
    by_cases q : wd a i = wd b i
    · have e3 : eqI (wd a i : Nat) (wd b i : Nat) = true := by rw [q]; exact eqI_self _
      simp [↓ kq, kq, ↓ ko, ko, kb, kv, kt, kx, t0, t1, t12, t13, e1, e2, x2, x3, x4, x5, e3, -bO_of, -bB_true, -bB_false, -H.next_push, -Int.natCast_add]
      rw [← hL]
      refine ih (i + 1) k _ (by omega) (by omega) ?_ ?_ ?_ ?_ (by rw [ga, gb, he, q]) <;> simp [kq, t0, t1, t12, -Int.natCast_add]
    · have e3 : eqI (wd a i : Nat) (wd b i : Nat) = false := by rw [eqI_eq]; exact decide_eq_false (by omega)
      simp [↓ kq, kq, ↓ ko, ko, kb, kv, kt, kx, t0, t1, t12, t13, e1, e2, x2, x3, x4, x5, e3, gets_some, -bO_of, -bB_true, -bB_false, -H.next_push, -Int.natCast_add]
      intro e
      exact q (by rw [e])
theorem Tryd.equal {h : H} {va vb : SV} {a b : List Nat} (wa : View h 1 va a.length (u64s a)) (wb : View h 1 vb b.length (u64s b)) (hn : a.length < 9223372036854775807) : Tryd.lc 27 [va, vb] h = some (.bool (decide (a = b)), h) := by
  obtain ⟨r, h', k1, rfl, rfl⟩ : ∃ r h', Tryd.lc 27 [va, vb] h = some (r, h') ∧ (r = .bool (decide (a = b)) ∧ h' = h) := by
    refine Tryd.enG (n := a.length + 1) (kf := Tryd.k27) (by kernel_rfl) Tryd.k27_eq rfl ?_
    by_cases q : a.length = b.length
    · have e1 : eqI (a.length : Int) b.length = true := by rw [q]; exact eqI_self _
      rw [← q] at wb
      have e1' : eqI (a.length : Int) a.length = true := eqI_self _
      simp [↓ kq, kq, ↓ ko, ko, kb, kv, kt, kx, wa.length, wb.length, e1', -bO_of, -bB_true, -bB_false, -H.next_push, -Int.natCast_add]
      refine gets_next (gets_leave (Gets.mono (Tryd.eq_loop wa wb hn Tryd.lc a.length 0 (a.length + 1) _ (by omega) (by omega) ?_ ?_ ?_ ?_ (by simp)) fun fl t' h' ⟨b1, b2⟩ => ?_))
      · simp [kq]
      · simp [kq]
      · simp [kq]
      · simp [kq]
      subst b1
      rcases b2 with ⟨rfl, b2⟩ | ⟨rfl, b2, b3⟩
      · simp [↓ kq, kq, ↓ ko, ko, kb, kv, kt, kx, gets_some, kc, oneS, b2, -bO_of, -bB_true, -bB_false, -H.next_push, -Int.natCast_add]
      · simp [↓ kq, kq, ↓ ko, ko, kb, kv, kt, kx, gets_some, kc, oneS, b2, b3, -bO_of, -bB_true, -bB_false, -H.next_push, -Int.natCast_add]
    · have e1 : eqI (a.length : Int) b.length = false := by rw [eqI_eq]; exact decide_eq_false (by omega)
      have ne : a ≠ b := fun e => q (by rw [e])
      simp [↓ kq, kq, ↓ ko, ko, kb, kv, kt, kx, wa.length, wb.length, e1, gets_some, kc, oneS, ne, -bO_of, -bB_true, -bB_false, -H.next_push, -Int.natCast_add]
  exact k1
theorem Tryd.same {h : H} {va vb : SV} {a b : List Nat} (sa : IsSet h va a) (sb : IsSet h vb b) : ∃ h', Tryd.lc 19 [.agg [va], .agg [vb]] h = some (.bool (decide (a = b)), h') ∧ Fr (fun _ => False) (fun _ => False) h h' := by
  generalize hh1 : h.push (.cells [va] .fixed) = h1
  generalize hh2 : h1.push (.cells [vb] .fixed) = h2
  have f1 : Fr (fun _ => False) (fun _ => False) h h1 := by rw [← hh1]; exact .push
  have f2 : Fr (fun _ => False) (fun _ => False) h1 h2 := by rw [← hh2]; exact .push
  have n1 : h1.next = h.next + 1 := by rw [← hh1]; rfl
  have ca : loadV none h2.get (.ptr h.next 0) = some va := by rw [loadV_one ((rowCells_keep f2 (by omega) (fun k => k)).trans (by rw [← hh1]; exact rowCells_push) : rowCells h2.get h.next = some [va])]; rfl
  have cb : loadV none h2.get (.ptr h1.next 0) = some vb := by rw [loadV_one (by rw [← hh2]; exact rowCells_push : rowCells h2.get h1.next = some [vb])]; rfl
  have k1 := Tryd.equal (sa.calm (f1.trans f2)).view (sb.calm (f1.trans f2)).view (by have := sa.len; omega)
  refine ⟨h2, Tryd.en (n := 1) (kf := Tryd.k19) (by kernel_rfl) ?_, f1.trans f2⟩
  rw [Tryd.k19_eq, enter_eq]
  simp [↓ kq, kq, ↓ ko, ko, kb, kv, kt, kx, argsP, hh1, hh2, ca, cb, k1, kfin, kc, oneS, -bO_of, -bB_true, -bB_false, -H.next_push, -Int.natCast_add]
theorem Tryd.within {h : H} {va vb : SV} {a b : List Nat} (sa : IsSet h va a) (sb : IsSet h vb b) : ∃ h', Tryd.lc 18 [.agg [va], .agg [vb]] h = some (.bool (eqI (trim (zipG andNot a b)).length 0), h') ∧ Fr (fun _ => False) (fun _ => False) h h' := by
  generalize hh1 : h.push (.cells [va] .fixed) = h1
  generalize hh2 : h1.push (.cells [vb] .fixed) = h2
  have f1 : Fr (fun _ => False) (fun _ => False) h h1 := by rw [← hh1]; exact .push
  have f2 : Fr (fun _ => False) (fun _ => False) h1 h2 := by rw [← hh2]; exact .push
  have n1 : h1.next = h.next + 1 := by rw [← hh1]; rfl
  have ca := loadV_agg ((rowCells_keep f2 (by omega) (fun k => k)).trans (by rw [← hh1]; exact rowCells_push) : rowCells h2.get h.next = some [va])
  have cb := loadV_agg (by rw [← hh2]; exact rowCells_push : rowCells h2.get h1.next = some [vb])
  obtain ⟨r, h3, k1, v', rfl, s3, f3, _⟩ := Tryd.take (sa.calm (f1.trans f2)) (sb.calm (f1.trans f2))
  obtain ⟨h4, k2, f4⟩ := Tryd.empty s3
  refine ⟨h4, Tryd.en (n := 1) (kf := Tryd.k18) (by kernel_rfl) ?_, ((f1.trans f2).trans f3).trans f4⟩
  rw [Tryd.k18_eq, enter_eq]
  simp [↓ kq, kq, ↓ ko, ko, kb, kv, kt, kx, argsP, hh1, hh2, ca, cb, k1, k2, kfin, kc, oneS, -bO_of, -bB_true, -bB_false, -H.next_push, -Int.natCast_add]
end
end Go.Proofs
