/- Bitset: is a number there; one more; of many. -/
import Derived.Test.YtfcdldibfdoljaaDoorTyZE
set_option linter.unusedVariables false
set_option linter.unusedSimpArgs false
set_option linter.unusedSectionVars false
namespace Go.Proofs
open Go.Sh
set_option linter.unusedVariables false
attribute [local instance] tabHeld
noncomputable section
def mem (ws : List Nat) (k : Nat) : Bool := (wd ws (k / 64)).testBit (k % 64)
def hasI (ws : List Nat) (n : Int) : Bool := decide (0 ≤ n) && mem ws n.toNat
theorem quo_nat (k : Nat) (hk : k < 9223372036854775808) : arithInt .quo .i64 (k : Int) 64 = some ((k / 64 : Nat) : Int) := by
  unfold arithInt
  simp only
  rw [if_neg (by decide)]
  have : (k : Int).tdiv 64 = ((k / 64 : Nat) : Int) := by
    rw [Int.tdiv_eq_ediv_of_nonneg (by omega)]; omega
  rw [this, wrap_i64 (by omega) (by omega)]
theorem rem_nat (k : Nat) : arithInt .rem .i64 (k : Int) 64 = some ((k % 64 : Nat) : Int) := by
  unfold arithInt
  simp only
  rw [if_neg (by decide)]
  have : (k : Int).tmod 64 = ((k % 64 : Nat) : Int) := by
    rw [Int.tmod_eq_emod_of_nonneg (by omega)]; omega
  rw [this]
theorem shr_nat (w r : Nat) (hr : r < 64) : shiftInt .shr .u64 (w : Int) (r : Int) = some ((w >>> r : Nat) : Int) := by
  unfold shiftInt
  rw [if_neg (by omega)]
  simp only
  have h64 : IntKind.u64.bits = 64 := rfl
  rw [show min (r : Int).toNat IntKind.u64.bits = r by rw [h64]; omega, Nat.shiftRight_eq_div_pow]
  congr 1
  rw [Int.fdiv_eq_ediv_of_nonneg _ (by exact Int.le_of_lt (Int.pow_pos (by decide)))]
  push_cast
  rfl
theorem pow_lt64 (r : Nat) (hr : r < 64) : 2 ^ r < 18446744073709551616 := by
  have h2 : 2 ^ r < 2 ^ 64 := Nat.pow_lt_pow_right (by decide) hr
  exact h2
theorem shl_one (r : Nat) (hr : r < 64) : shiftInt .shl .u64 1 (r : Int) = some ((2 ^ r : Nat) : Int) := by
  unfold shiftInt
  rw [if_neg (by omega)]
  simp only
  have h64 : IntKind.u64.bits = 64 := rfl
  have h2 : 2 ^ r < 2 ^ 64 := Nat.pow_lt_pow_right (by decide) hr
  rw [show min (r : Int).toNat IntKind.u64.bits = r by rw [h64]; omega, Int.one_mul]
  have : (2 : Int) ^ r = ((2 ^ r : Nat) : Int) := by push_cast; rfl
  rw [this, wrap_u64 (Int.natCast_nonneg _) (Int.ofNat_lt.2 (pow_lt64 r hr))]
theorem low_bit (w r : Nat) : eqI ((w >>> r &&& 1 : Nat) : Int) 1 = w.testBit r := by
  rw [eqI_eq, Nat.testBit_eq_decide_div_mod_eq, Nat.and_one_is_mod, Nat.shiftRight_eq_div_pow]
  congr 1
  apply propext
  omega
theorem Tryd.has {h : H} {va : SV} {a : List Nat} (sa : IsSet h va a) (n : Int) (hn : n < 9223372036854775808) : ∃ h', Tryd.lc 13 [.agg [va], .int .i64 n] h = some (.bool (hasI a n), h') ∧ Fr (fun _ => False) (fun _ => False) h h' := by
  generalize hh1 : h.push (.cells [va] .fixed) = h1
  have f1 : Fr (fun _ => False) (fun _ => False) h h1 := by rw [← hh1]; exact .push
  have ca : loadV none h1.get (.ptr h.next 0) = some va := by rw [loadV_one (by rw [← hh1]; exact rowCells_push : rowCells h1.get h.next = some [va])]; rfl
  have wa := (sa.calm f1).view
  refine ⟨h1, Tryd.en (n := 1) (kf := Tryd.k13) (by kernel_rfl) ?_, f1⟩
  rw [Tryd.k13_eq, enter_eq]
  by_cases h0 : n < 0
  · have e1 : ltI n 0 = true := by rw [ltI_eq]; exact decide_eq_true h0
    have e2 : hasI a n = false := by unfold hasI; rw [decide_eq_false (by omega)]; rfl
    simp [↓ kq, kq, ↓ ko, ko, kb, kv, kt, kx, argsP, hh1, ca, e1, e2, kfin, kc, oneS, -bO_of, -bB_true, -bB_false, -H.next_push, -Int.natCast_add]
  · obtain ⟨k, rfl⟩ : ∃ k : Nat, n = k := ⟨n.toNat, by omega⟩
    have e1 : ltI (k : Int) 0 = false := by rw [ltI_eq]; exact decide_eq_false h0
    have e2 : hasI a k = mem a k := by unfold hasI; simp
    have q1 := quo_nat k (by omega)
    have q2 := rem_nat k
    by_cases h1' : k / 64 < a.length
    · have e3 : ltI ((k / 64 : Nat) : Int) a.length = true := by rw [ltI_eq]; exact decide_eq_true (by omega)
      obtain ⟨pA, x2, x3⟩ := wa.loadV (i := k / 64) h1'
      rw [u64s_get a _ h1'] at x3
      have q3 := shr_nat (wd a (k / 64)) (k % 64) (by omega)
      have hw : wd a (k / 64) >>> (k % 64) < 18446744073709551616 := Nat.lt_of_le_of_lt (Nat.shiftRight_le _ _) (sa.words.wd _)
      have q4 : arithInt .and .u64 ((wd a (k / 64) >>> (k % 64) : Nat) : Int) 1 = some ((wd a (k / 64) >>> (k % 64) &&& 1 : Nat) : Int) := ar_and hw (y := 1) (by decide)
      have q5 : eqI ((wd a (k / 64) >>> (k % 64) &&& 1 : Nat) : Int) 1 = mem a k := low_bit _ _
      generalize wd a (k / 64) >>> (k % 64) &&& 1 = z at q4 q5
      generalize wd a (k / 64) >>> (k % 64) = y at q3 q4
      generalize k / 64 = kd at *
      generalize k % 64 = km at *
      simp [↓ kq, kq, ↓ ko, ko, kb, kv, kt, kx, argsP, hh1, ca, wa.length, e1, e2, e3, q1, q2, q3, q4, q5, x2, x3, kfin, kc, oneS, -bO_of, -bB_true, -bB_false, -H.next_push, -Int.natCast_add]
    · have e3 : ltI ((k / 64 : Nat) : Int) a.length = false := by rw [ltI_eq]; exact decide_eq_false (by omega)
      have e4 : mem a k = false := by unfold mem; rw [wd_over (by omega)]; simp
      generalize k / 64 = kd at *
      simp [↓ kq, kq, ↓ ko, ko, kb, kv, kt, kx, argsP, hh1, ca, wa.length, e1, e2, e3, e4, q1, kfin, kc, oneS, -bO_of, -bB_true, -bB_false, -H.next_push, -Int.natCast_add]
theorem wd_map (f : Nat → Nat) (n i : Nat) : wd ((List.range n).map f) i = if i < n then f i else 0 := by
  unfold wd
  rw [List.getD_eq_getElem?_getD, List.getElem?_map]
  by_cases h : i < n
  · rw [List.getElem?_range h, if_pos h]; rfl
  · rw [List.getElem?_eq_none (by simpa using h), if_neg h]; rfl
theorem row_ext (a : List Nat) (n : Nat) (h : a.length ≤ n) : u64s a ++ List.replicate (n - a.length) (SV.int .u64 0) = u64s ((List.range n).map (wd a)) := by
  apply List.ext_getElem?
  intro i
  by_cases h1 : i < a.length
  · rw [List.getElem?_append_left (by rw [u64s_len]; exact h1), u64s_get a i h1, u64s_get _ i (by simp; omega)]
    rw [wd_map, if_pos (by omega)]
  · rw [List.getElem?_append_right (by rw [u64s_len]; omega), u64s_len]
    by_cases h2 : i < n
    · rw [List.getElem?_replicate, if_pos (by omega), u64s_get _ i (by simp; omega)]
      rw [wd_map, if_pos h2, wd_over (by omega)]; rfl
    · rw [List.getElem?_replicate, if_neg (by omega), List.getElem?_eq_none (by rw [u64s_len]; simp; omega)]
theorem range_set (f : Nat → Nat) (n i x : Nat) : ((List.range n).map f).set i x = (List.range n).map fun j => if j = i then x else f j := by
  apply List.ext_getElem?
  intro j
  rw [List.getElem?_set]
  by_cases h : i = j
  · subst h
    by_cases h2 : i < n
    · simp [h2]
    · simp [h2]
  · by_cases h2 : j < n
    · simp [h, h2, Ne.symm h]
    · simp [h, h2]
theorem u64s_set (ws : List Nat) (i x : Nat) : (u64s ws).set i (.int .u64 (x : Int)) = u64s (ws.set i x) := by simp [u64s, List.map_set]
theorem copy_words {h : H} {id n : Nat} {va : SV} {a : List Nat} (wa : View h 1 va a.length (u64s a)) (hn : a.length ≤ n) (cid : h.get id = some (.cells (List.replicate n (.int .u64 0)) .fixed)) :
    ∃ h', copyV 1 h (.slice id 0 n 1 (some n)) va = some (.int .i64 (a.length : Int), h') ∧ h'.get id = some (.cells (u64s ((List.range n).map (wd a))) .fixed) ∧ Fr (· = id) (· = id) h h' := by
  have e1 : min a.length n = a.length := by omega
  have e : copyV 1 h (.slice id 0 n 1 (some n)) va = copyS h (.slice id 0 n 1 (some n)) a.length (u64s a) := by
    show bO (srcLen va) (fun m => bO (srcCells h.get 1 (min m n) va) fun new => copyS h (.slice id 0 n 1 (some n)) (min m n) new) = _
    rw [wa.src.1]
    show bO (srcCells h.get 1 (min a.length n) va) _ = _
    rw [e1, wa.src.2]; rfl
  rw [e]
  have hrow := row_ext a n hn
  cases a with
  | nil =>
    refine ⟨h, rfl, ?_, .refl⟩
    rw [← hrow]
    simpa [u64s] using cid
  | cons x l =>
    have hl := layX_eq (u64s (x :: l)) 0 (List.replicate n (SV.int .u64 0))
    rw [if_pos (by rw [u64s_len, List.length_replicate]; omega)] at hl
    have hs : storeX h id 0 (u64s (x :: l)) = some (h.put id (.cells (u64s ((List.range n).map (wd (x :: l)))) .fixed)) := by
      unfold storeX
      rw [cid]
      simp only [hl, bO]
      rw [← hrow]
      simp [u64s_len]
    refine ⟨h.put id (.cells (u64s ((List.range n).map (wd (x :: l)))) .fixed), ?_, get_put_self cid, Fr.put (H.get_lt cid)⟩
    show bO (storeX h id 0 (u64s (x :: l))) _ = _
    rw [hs]; rfl
/-- one more -/
def withW (a : List Nat) (n : Int) : List Nat := if n < 0 ∨ 65535 < n then a else (List.range (max a.length (n.toNat / 64 + 1))).map fun i => if i = n.toNat / 64 then wd a i ||| 2 ^ (n.toNat % 64) else wd a i
def SetAny (va : SV) (h : H) (ws : List Nat) (r : SV) (h' : H) : Prop := ∃ v', r = .agg [v'] ∧ IsSet h' v' ws ∧ Fr (fun _ => False) (fun _ => False) h h' ∧ ∀ q, isRow v' q → isRow va q ∨ h.next ≤ q
theorem Tryd.withN {h : H} {va : SV} {a : List Nat} (sa : IsSet h va a) (n : Int) : ∃ r h', Tryd.lc 14 [.agg [va], .int .i64 n] h = some (r, h') ∧ SetAny va h (withW a n) r h' := by
  generalize hh1 : h.push (.cells [va] .fixed) = h1
  generalize hh2 : h1.push (.cells [.nilslice] .fixed) = h2
  have f1 : Fr (fun _ => False) (fun _ => False) h h1 := by rw [← hh1]; exact .push
  have f2 : Fr (fun _ => False) (fun _ => False) h1 h2 := by rw [← hh2]; exact .push
  have n1 : h1.next = h.next + 1 := by rw [← hh1]; rfl
  have n2 : h2.next = h1.next + 1 := by rw [← hh2]; rfl
  have ra : rowCells h2.get h.next = some [va] := (rowCells_keep f2 (by omega) (fun k => k)).trans (by rw [← hh1]; exact rowCells_push)
  have ca := loadV_agg ra
  have ca' : loadV none h2.get (.ptr h.next 0) = some va := by rw [loadV_one ra]; rfl
  have cr : h2.get h1.next = some (.cells [.nilslice] .fixed) := by rw [← hh2, H.get_push, if_pos rfl]
  have s2 := sa.calm (f1.trans f2)
  have out : ∀ {v : SV}, v.cells? = some [v] → True := fun _ => trivial
  have small : n < 0 ∨ 65535 < n → ∃ r h', Tryd.lc 14 [.agg [va], .int .i64 n] h = some (r, h') ∧ SetAny va h (withW a n) r h' := fun hq => by
    have hw : withW a n = a := by unfold withW; rw [if_pos hq]
    have fp := Fr.put (o := .cells [va] .fixed) (H.get_lt cr)
    have fin : SetAny va h (withW a n) (.agg [va]) (h2.put h1.next (.cells [va] .fixed)) := by
      rw [hw]
      exact ⟨va, rfl, s2.keep fp fun q hq e => by have := sa.view.lt q hq; have e : q = h1.next := e; omega, Fr.new (f1.trans f2) fp (fun q e => by have e : q = h1.next := e; omega) (fun q e => by have e : q = h1.next := e; omega), fun q hq => .inl hq⟩
    refine Tryd.enG (n := 1) (kf := Tryd.k14) (by kernel_rfl) Tryd.k14_eq rfl ?_
    have st := storeV_agg (b := va) cr
    have ld := loadV_agg (rowCells_put (cs' := [va]) cr)
    by_cases h0 : n < 0
    · have e1 : ltI n 0 = true := by rw [ltI_eq]; exact decide_eq_true h0
      simp [↓ kq, kq, ↓ ko, ko, kb, kv, kt, kx, hh1, hh2, ca, e1, st, gets_some, kc, ld, -bO_of, -bB_true, -bB_false, -H.next_push, -Int.natCast_add]
      exact fin
    · have e1 : ltI n 0 = false := by rw [ltI_eq]; exact decide_eq_false h0
      have e2 : ltI 65535 n = true := by rw [ltI_eq]; exact decide_eq_true (by omega)
      simp [↓ kq, kq, ↓ ko, ko, kb, kv, kt, kx, hh1, hh2, ca, e1, e2, st, gets_some, kc, ld, -bO_of, -bB_true, -bB_false, -H.next_push, -Int.natCast_add]
      exact fin
  by_cases hq : n < 0 ∨ 65535 < n
  · exact small hq
  obtain ⟨k, rfl⟩ : ∃ k : Nat, n = k := ⟨n.toNat, by omega⟩
  have hk : k ≤ 65535 := by omega
  have hw : withW a k = (List.range (max a.length (k / 64 + 1))).map fun i => if i = k / 64 then wd a i ||| 2 ^ (k % 64) else wd a i := by
    unfold withW; rw [if_neg hq]; rfl
  rw [hw]
  have hm : max a.length (k / 64 + 1) ≤ 1024 := by have := sa.len; omega
  have mx := max_lens a.length (k / 64 + 1)
  have hkd : k / 64 < max a.length (k / 64 + 1) := by omega
  have hal : a.length ≤ max a.length (k / 64 + 1) := by omega
  generalize hM : max a.length (k / 64 + 1) = m at *
  generalize hh3 : h2.push (.cells (List.replicate m (.int .u64 0)) .fixed) = h3
  have f3 : Fr (fun _ => False) (fun _ => False) h2 h3 := by rw [← hh3]; exact .push
  have n3 : h3.next = h2.next + 1 := by rw [← hh3]; rfl
  have mk := make_u64 m h2 hm
  rw [hh3] at mk
  have ci : h3.get h2.next = some (.cells (List.replicate m (.int .u64 0)) .fixed) := by rw [← hh3, H.get_push, if_pos rfl]
  obtain ⟨h4, k4, c4, f4⟩ := copy_words (s2.calm f3).view hal ci
  have ca3 : loadV none h3.get (.ptr h.next 0) = some va := by rw [loadV_one ((rowCells_keep f3 (by omega) (fun k => k)).trans ra)]; rfl
  have x1 : atIdx 1 (k / 64) (.slice h2.next 0 m 1 (some m)) = some (.ptr h2.next (k / 64)) := by
    show bB (Nat.blt (k / 64) m) (some (SV.ptr h2.next (0 + k / 64 * 1))) none = _
    rw [show Nat.blt (k / 64) m = true from Nat.ble_eq_true_of_le hkd, Nat.zero_add, Nat.mul_one]; rfl
  have hwd : wd ((List.range m).map (wd a)) (k / 64) = wd a (k / 64) := by rw [wd_map, if_pos hkd]
  have l4 : loadV none h4.get (.ptr h2.next (k / 64)) = some (.int .u64 ((wd a (k / 64) : Nat) : Int)) := by
    rw [loadV_one (rowCells_fixed c4), u64s_get _ _ (by simpa using hkd), hwd]
  have q1 := quo_nat k (by omega)
  have q2 := rem_nat k
  have q3 := shl_one (k % 64) (by omega)
  have hp : 2 ^ (k % 64) < 18446744073709551616 := pow_lt64 _ (Nat.mod_lt _ (by decide))
  have q4 := ar_or (sa.words.wd (k / 64)) hp
  have st := storeV_one (v := .int .u64 ((wd a (k / 64) ||| 2 ^ (k % 64) : Nat) : Int)) c4 (off := k / 64) (by simpa [u64s] using hkd) rfl
  rw [u64s_set, range_set] at st
  have e1 : ltI (k : Int) 0 = false := by rw [ltI_eq]; exact decide_eq_false (by omega)
  have e2 : ltI 65535 (k : Int) = false := by rw [ltI_eq]; exact decide_eq_false (by omega)
  have e3 : IntKind.i64.wrap (((k / 64 : Nat) : Int) + 1) = ((k / 64 + 1 : Nat) : Int) := by
    rw [Int.natCast_add]; exact wrap_i64 (by omega) (by omega)
  have hfun : (fun j => if j = k / 64 then wd a (k / 64) ||| 2 ^ (k % 64) else wd a j) = fun i => if i = k / 64 then wd a i ||| 2 ^ (k % 64) else wd a i := by
    funext j; by_cases h : j = k / 64
    · subst h; simp
    · simp [h]
  rw [hfun] at st
  have hws : Words ((List.range m).map fun i => if i = k / 64 then wd a i ||| 2 ^ (k % 64) else wd a i) := fun w hw => by
    obtain ⟨i, _, rfl⟩ := List.mem_map.1 hw
    skip
    split
    · exact or_lt _ _ (sa.words.wd _) hp
    · exact sa.words.wd _
  have hlen : ((List.range m).map fun i => if i = k / 64 then wd a i ||| 2 ^ (k % 64) else wd a i).length = m := by simp
  generalize ((List.range m).map fun i => if i = k / 64 then wd a i ||| 2 ^ (k % 64) else wd a i) = ws at *
  generalize hh5 : h4.put h2.next (.cells (u64s ws) .fixed) = h5 at *
  have f5 : Fr (· = h2.next) (· = h2.next) h4 h5 := by rw [← hh5]; exact Fr.put (H.get_lt c4)
  have c5 : h5.get h2.next = some (.cells (u64s ws) .fixed) := by rw [← hh5]; exact get_put_self c4
  have cr5 : h5.get h1.next = some (.cells [.nilslice] .fixed) := f5.get (f4.get (f3.get (S := fun _ => False) cr (fun k => k)) (by show ¬ h1.next = h2.next; omega)) (by show ¬ h1.next = h2.next; omega)
  have st6 := storeV_agg (b := .slice h2.next 0 m 1 (some m)) cr5
  have ld6 := loadV_agg (rowCells_put (cs' := [.slice h2.next 0 m 1 (some m)]) cr5)
  have fp := Fr.put (o := .cells [.slice h2.next 0 m 1 (some m)] .fixed) (H.get_lt cr5)
  have c6 : (h5.put h1.next (.cells [.slice h2.next 0 m 1 (some m)] .fixed)).get h2.next = some (.cells (u64s ws) .fixed) := fp.get c5 (by show ¬ h2.next = h1.next; omega)
  have fin : SetAny va h ws (.agg [.slice h2.next 0 m 1 (some m)]) (h5.put h1.next (.cells [.slice h2.next 0 m 1 (some m)] .fixed)) := by
    refine ⟨_, rfl, ⟨?_, hws, by omega⟩, ?_, fun q hq => .inr (by have e : q = h2.next := hq; omega)⟩
    · have := view_row (rowCells_fixed c6) (by rw [u64s_len, hlen])
      rw [hlen]; exact this
    · exact Fr.new (Fr.new (Fr.new ((f1.trans f2).trans f3) f4 (fun q e => by have e : q = h2.next := e; omega) (fun q e => by have e : q = h2.next := e; omega)) f5 (fun q e => by have e : q = h2.next := e; omega) (fun q e => by have e : q = h2.next := e; omega)) fp (fun q e => by have e : q = h1.next := e; omega) (fun q e => by have e : q = h1.next := e; omega)
  have hcat : kcat [1] [SV.slice h2.next 0 m 1 (some m)] = some [SV.slice h2.next 0 m 1 (some m)] := rfl
  generalize wd a (k / 64) ||| 2 ^ (k % 64) = z1 at *
  generalize 2 ^ (k % 64) = z2 at *
  generalize wd a (k / 64) = z3 at *
  generalize k / 64 = kd at *
  generalize k % 64 = km at *
  refine Tryd.enG (n := 1) (kf := Tryd.k14) (by kernel_rfl) Tryd.k14_eq rfl ?_
  simp [↓ kq, kq, ↓ ko, ko, kb, kv, kt, kx, hh1, hh2, ca', ca3, s2.view.length, mx, mk, k4, x1, l4, q1, q2, q3, q4, st, st6, e1, e2, e3, hcat, gets_some, kc, ld6, -bO_of, -bB_true, -bB_false, -H.next_push, -Int.natCast_add]
  exact fin
end
end Go.Proofs
