/- Bitset: of many; the list of its numbers. -/
import Derived.Test.YtfcdldibfdoljaaDoorTyZF
set_option linter.unusedVariables false
set_option linter.unusedSimpArgs false
set_option linter.unusedSectionVars false
namespace Go.Proofs
open Go.Sh
set_option linter.unusedVariables false
attribute [local instance] tabHeld
noncomputable section
def i64s (l : List Int) : List SV := l.map fun z => .int .i64 z
def ofW (zs : List Int) : List Nat := zs.foldl withW []
theorem ofW_succ (zs : List Int) (i : Nat) (z : Int) (hz : zs[i]? = some z) : ofW (zs.take (i + 1)) = withW (ofW (zs.take i)) z := by
  obtain ⟨hi, rfl⟩ := List.getElem?_eq_some_iff.1 hz
  unfold ofW
  rw [List.take_succ_eq_append_getElem hi, List.foldl_append]; rfl
theorem Tryd.of_loop {hb : H} {v : SV} {zs : List Int} (hn : zs.length < 9223372036854775807) {pr : Nat} (hpr : hb.next ≤ pr) : ∀ (j i k : Nat) (t : T) (h : H) (vs : SV), i + j = zs.length → j < k → View h 1 v zs.length (i64s zs) → h.get pr = some (.cells [vs] .fixed) → IsSet h vs (ofW (zs.take i)) → (∀ q, isRow vs q → hb.next ≤ q ∧ q ≠ pr) → (∀ q, isRow v q → q < hb.next) → Fr (fun _ => False) (fun _ => False) hb h →
    getP (way 2) t = some (.ptr pr 0) → getP (way 5) t = some v → getP (way 6) t = some (.int .i64 zs.length) → getP (way 7) t = some (.int .i64 i) →
    Gets (cLoop Tryd.l6_0 k Tryd.lc t h) fun fl t' h' => fl = .exit 0 ∧ getP (way 2) t' = some (.ptr pr 0) ∧ ∃ vs', h'.get pr = some (.cells [vs'] .fixed) ∧ IsSet h' vs' (ofW zs) ∧ (∀ q, isRow vs' q → hb.next ≤ q ∧ q ≠ pr) ∧ Fr (fun _ => False) (fun _ => False) hb h' := by
  intro j
  induction j with
  | zero =>
    intro i k t h vs hi hk w cp s rs ov fb t2 t5 t6 t7
    obtain ⟨k, rfl⟩ : ∃ m, k = m + 1 := ⟨k - 1, by omega⟩
    rw [loop_succ]
    generalize (fun t h => cLoop Tryd.l6_0 k Tryd.lc t h) = L
    unfold Tryd.l6_0
    have e1 : ltI (i : Int) zs.length = false := by rw [ltI_eq]; exact decide_eq_false (by omega)
    simp [↓ kq, kq, ↓ ko, ko, kb, kv, kt, kx, t2, t5, t6, t7, e1, gets_some, -bO_of, -bB_true, -bB_false, -H.next_push, -Int.natCast_add]
    rw [List.take_of_length_le (by omega)] at s
    exact ⟨vs, cp, s, rs, fb⟩
  | succ j ih =>
    intro i k t h vs hi hk w cp s rs ov fb t2 t5 t6 t7
    obtain ⟨k, rfl⟩ : ∃ m, k = m + 1 := ⟨k - 1, by omega⟩
    rw [loop_succ]
    generalize hL : (fun t h => cLoop Tryd.l6_0 k Tryd.lc t h) = L
    unfold Tryd.l6_0
    have e1 : ltI (i : Int) zs.length = true := by rw [ltI_eq]; exact decide_eq_true (by omega)
    have e2 : IntKind.i64.wrap ((i : Int) + 1) = ((i + 1 : Nat) : Int) := by
      rw [Int.natCast_add]; exact wrap_i64 (by omega) (by omega)
    obtain ⟨pA, x2, x3⟩ := w.loadV (i := i) (by omega)
    obtain ⟨z, hz⟩ : ∃ z, zs[i]? = some z := ⟨zs[i]'(by omega), List.getElem?_eq_getElem (by omega)⟩
    have x3 : loadV none h.get pA = some (.int .i64 z) := by rw [x3]; simp [i64s, hz]
    have la := loadV_agg (rowCells_fixed cp)
    obtain ⟨r, h1, k1, v', rfl, s1, f1, r1⟩ := Tryd.withN s z
    have cp1 := f1.get cp (fun k => k)
    have st := storeV_agg (b := v') cp1
    have fp := Fr.put (o := .cells [v'] .fixed) (H.get_lt cp1)
    have hne : ∀ q, isRow v' q → hb.next ≤ q ∧ q ≠ pr := fun q hq => by
      rcases r1 q hq with k | k
      · exact rs q k
      · have := H.get_lt cp; omega
    simp [↓ kq, kq, ↓ ko, ko, kb, kv, kt, kx, t2, t5, t6, t7, e1, e2, x2, x3, la, k1, st, -bO_of, -bB_true, -bB_false, -H.next_push, -Int.natCast_add]
    rw [← hL]
    refine ih (i + 1) k _ _ v' (by omega) (by omega) ((w.keep f1 fun _ _ k => k).keep fp fun q hq e => ?_) (get_put_self cp1) ?_ hne ov ?_ ?_ ?_ ?_ ?_
    · have := ov q hq
      have e : q = pr := e
      omega
    · rw [ofW_succ zs i z hz]
      exact s1.keep fp fun q hq e => (hne q hq).2 e
    · exact Fr.new (fb.trans f1) fp (fun q e => by have e : q = pr := e; omega) (fun q e => by have e : q = pr := e; omega)
    · simp [kq, t2]
    · simp [kq, t5]
    · simp [kq, t6]
    · simp [kq, -Int.natCast_add]
theorem Tryd.of {h : H} {v : SV} {zs : List Int} (w : View h 1 v zs.length (i64s zs)) (hn : zs.length < 9223372036854775807) : ∃ r h', Tryd.lc 6 [v] h = some (r, h') ∧ SetRes h (ofW zs) r h' := by
  generalize hh1 : h.push (.cells [.nilslice] .fixed) = h1
  have f1 : Fr (fun _ => False) (fun _ => False) h h1 := by rw [← hh1]; exact .push
  have n1 : h1.next = h.next + 1 := by rw [← hh1]; rfl
  have cp : h1.get h.next = some (.cells [.nilslice] .fixed) := by rw [← hh1, H.get_push, if_pos rfl]
  refine Tryd.enG (n := zs.length + 1) (kf := Tryd.k6) (by kernel_rfl) Tryd.k6_eq rfl ?_
  simp [↓ kq, kq, ↓ ko, ko, kb, kv, kt, kx, hh1, w.length, -bO_of, -bB_true, -bB_false, -H.next_push, -Int.natCast_add]
  refine gets_next (gets_leave (Gets.mono (Tryd.of_loop (hb := h) hn (Nat.le_refl _) zs.length 0 (zs.length + 1) _ h1 .nilslice (by omega) (by omega) (w.keep f1 fun _ _ k => k) cp ⟨⟨rfl, .inl ⟨rfl, rfl⟩⟩, fun _ h => by simp [ofW] at h, Nat.zero_le _⟩ (fun q hq => hq.elim) (w.lt) f1 ?_ ?_ ?_ ?_) fun fl t' h2 ⟨b1, t2, vs, c2, s2, r2, f2⟩ => ?_))
  · simp [kq]
  · simp [kq]
  · simp [kq]
  · simp [kq]
  subst b1
  have la := loadV_agg (rowCells_fixed c2)
  have st := storeV_agg (b := vs) c2
  have fp := Fr.put (o := .cells [vs] .fixed) (H.get_lt c2)
  simp [↓ kq, kq, ↓ ko, ko, kb, kv, kt, kx, t2, la, st, gets_some, kc, loadV_agg (rowCells_put (cs' := [vs]) c2), -bO_of, -bB_true, -bB_false, -H.next_push, -Int.natCast_add]
  exact ⟨vs, rfl, s2.keep fp fun q hq e => (r2 q hq).2 e, Fr.new f2 fp (fun q e => by have e : q = h.next := e; omega) (fun q e => by have e : q = h.next := e; omega), fun q hq => (r2 q hq).1⟩
/-- the numbers of a word's bits, rising -/
def bitsOf (w : Nat) : List Nat := (List.range 64).filter w.testBit
theorem clear_bit {w : Nat} (h0 : w ≠ 0) (h : w < 18446744073709551616) : ∀ j, (w &&& (w - 1)).testBit j = (w.testBit j && !(j == Lib.ctz 64 w)) ∧ (j < Lib.ctz 64 w → w.testBit j = false) ∧ (j = Lib.ctz 64 w → w.testBit j = true) := by
  obtain ⟨m, hm, hk⟩ := Lib.ctzFrom_spec 64 w (by omega) h
  have e : Lib.ctz 64 w = Lib.ctzFrom 64 w := by simp [Lib.ctz, h0]
  rw [e]
  generalize Lib.ctzFrom 64 w = c at *
  have hp : 0 < 2 ^ c := Nat.pow_pos (by decide)
  have hp1 : 2 ^ (c + 1) = 2 ^ c * 2 := Nat.pow_succ ..
  have w1 : w = 2 ^ (c + 1) * m + 2 ^ c := by rw [hm, hp1, Nat.mul_add, Nat.mul_one, Nat.mul_assoc]
  have w2 : w - 1 = 2 ^ (c + 1) * m + (2 ^ c - 1) := by omega
  intro j
  have t1 : w.testBit j = if j < c + 1 then decide (c = j) else m.testBit (j - (c + 1)) := by
    rw [w1, Nat.testBit_two_pow_mul_add _ (by omega), Nat.testBit_two_pow]
  have t2 : (w - 1).testBit j = if j < c + 1 then decide (j < c) else m.testBit (j - (c + 1)) := by
    rw [w2, Nat.testBit_two_pow_mul_add _ (by omega), Nat.testBit_two_pow_sub_one]
  refine ⟨?_, fun hj => ?_, fun hj => ?_⟩
  · rw [Nat.testBit_and, t1, t2]
    by_cases hj : j < c + 1
    · rw [if_pos hj, if_pos hj]
      by_cases hc : c = j
      · subst hc; simp
      · simp [hc]
    · rw [if_neg hj, if_neg hj]
      have : (j == c) = false := by simp; omega
      rw [this]; simp
  · rw [t1, if_pos (by omega)]; exact decide_eq_false (by omega)
  · rw [t1, if_pos (by omega)]; exact decide_eq_true hj.symm
theorem filter_first {l : List Nat} (hl : l.Pairwise (· < ·)) {p q : Nat → Bool} {c : Nat} (hc : c ∈ l) (h1 : ∀ j, j < c → p j = false) (h2 : p c = true) (h3 : ∀ j, q j = (p j && !(j == c))) : l.filter p = c :: l.filter q := by
  induction l with
  | nil => simp at hc
  | cons a l ih =>
    rw [List.pairwise_cons] at hl
    by_cases hac : a = c
    · subst hac
      have : q a = false := by rw [h3]; simp
      rw [List.filter_cons_of_pos h2, List.filter_cons_of_neg (by simp [this])]
      congr 1
      apply List.filter_congr
      intro j hj
      have := hl.1 j hj
      rw [h3]
      have : (j == a) = false := by simp; omega
      simp [this]
    · have hcl : c ∈ l := by rcases List.mem_cons.1 hc with h | h
                             · exact absurd h.symm hac
                             · exact h
      have hlt := hl.1 c hcl
      have hpa := h1 a hlt
      have hqa : q a = false := by rw [h3, hpa]; rfl
      rw [List.filter_cons_of_neg (by simp [hpa]), List.filter_cons_of_neg (by simp [hqa])]
      exact ih hl.2 hcl
theorem range_pairwise : ∀ n, (List.range n).Pairwise (· < ·)
  | 0 => by simp
  | n + 1 => by
    rw [List.range_succ, List.pairwise_append]
    exact ⟨range_pairwise n, by simp, fun a ha b hb => by simp at ha hb; omega⟩
theorem bitsOf_step {w : Nat} (h0 : w ≠ 0) (h : w < 18446744073709551616) : bitsOf w = Lib.ctz 64 w :: bitsOf (w &&& (w - 1)) := by
  have hc := (Lib.lowest_bit 64 w h0 h).2
  exact filter_first (range_pairwise 64) (List.mem_range.2 hc) (fun j hj => (clear_bit h0 h j).2.1 hj) ((clear_bit h0 h _).2.2 rfl) fun j => (clear_bit h0 h j).1
theorem bitsOf_zero : bitsOf 0 = [] := by unfold bitsOf; simp
theorem Tryd.bits_loop {i : Nat} (hi : i < 1024) : ∀ (m w k : Nat) (t : T) (h : H) (out : SV) (n : Nat) (cs : List SV), (bitsOf w).length = m → w < 18446744073709551616 → m < k → n + m ≤ 65536 → getP (way 2) t = some out → getP (way 3) t = some (.int .i64 i) → getP (way 4) t = some (.int .u64 w) → Buf h 1 out n cs →
    Gets (cLoop Tryd.l10_0 k Tryd.lc t h) fun fl t' h' => fl = .exit 2 ∧ (getP (way 6) t' = getP (way 6) t ∧ getP (way 7) t' = getP (way 7) t ∧ getP (way 8) t' = getP (way 8) t) ∧ ∃ out', getP (way 2) t' = some out' ∧ Buf h' 1 out' (n + m) (cs ++ i64s ((bitsOf w).map fun b => ((64 * i + b : Nat) : Int))) ∧ Fr (isRow out) (fun _ => False) h h' ∧ (∀ q, isRow out' q → isRow out q ∨ h.next ≤ q) := by
  intro m
  induction m with
  | zero =>
    intro w k t h out n cs hm hw hk hn t2 t3 t4 b
    obtain ⟨k, rfl⟩ : ∃ m, k = m + 1 := ⟨k - 1, by omega⟩
    have w0 : w = 0 := Decidable.byContradiction fun h0 => by rw [bitsOf_step h0 hw] at hm; simp at hm
    subst w0
    rw [loop_succ]
    generalize (fun t h => cLoop Tryd.l10_0 k Tryd.lc t h) = L
    unfold Tryd.l10_0
    have e1 : eqI 0 0 = true := rfl
    have t4 : getP (way 4) t = some (.int .u64 0) := t4
    simp [↓ kq, kq, ↓ ko, ko, kb, kv, kt, kx, t2, t3, t4, e1, gets_some, -bO_of, -bB_true, -bB_false, -H.next_push, -Int.natCast_add]
    refine ⟨?_, .refl, fun q hq => .inl hq⟩
    rw [bitsOf_zero]
    simpa [i64s] using b
  | succ m ih =>
    intro w k t h out n cs hm hw hk hn t2 t3 t4 b
    obtain ⟨k, rfl⟩ : ∃ m, k = m + 1 := ⟨k - 1, by omega⟩
    have w0 : w ≠ 0 := fun e => by subst e; rw [bitsOf_zero] at hm; simp at hm
    rw [loop_succ]
    generalize hL : (fun t h => cLoop Tryd.l10_0 k Tryd.lc t h) = L
    unfold Tryd.l10_0
    have e1 : eqI (w : Int) 0 = false := by rw [eqI_eq]; exact decide_eq_false (by omega)
    have hb := bitsOf_step w0 hw
    have hc := (Lib.lowest_bit 64 w w0 hw).2
    have k1 := Tryd.tz w hw h
    have e2 : IntKind.i64.wrap (64 * (i : Int)) = 64 * (i : Int) := wrap_i64 (by omega) (by omega)
    have e3 : IntKind.i64.wrap (64 * (i : Int) + (Lib.ctz 64 w : Nat)) = ((64 * i + Lib.ctz 64 w : Nat) : Int) := by
      rw [show 64 * (i : Int) + ((Lib.ctz 64 w : Nat) : Int) = ((64 * i + Lib.ctz 64 w : Nat) : Int) by omega]; exact wrap_i64 (by omega) (by omega)
    have e4 : IntKind.u64.wrap ((w : Int) - 1) = ((w - 1 : Nat) : Int) := by
      rw [show (w : Int) - 1 = ((w - 1 : Nat) : Int) by omega]; exact wrap_u64 (by omega) (by omega)
    have e5 := ar_and hw (show w - 1 < 18446744073709551616 by omega)
    have hw' : w &&& (w - 1) < 18446744073709551616 := Nat.lt_of_le_of_lt Nat.and_le_left hw
    generalize hh1 : h.push (.cells [.int .i64 ((64 * i + Lib.ctz 64 w : Nat) : Int)] .fixed) = h1
    have f1 : Fr (fun _ => False) (fun _ => False) h h1 := by rw [← hh1]; exact .push
    have n1 : h1.next = h.next + 1 := by rw [← hh1]; rfl
    have src : srcCells h1.get 1 1 (.slice h.next 0 1 1 (some 1)) = some [.int .i64 ((64 * i + Lib.ctz 64 w : Nat) : Int)] := by
      have : rowCells h1.get h.next = some [.int .i64 ((64 * i + Lib.ctz 64 w : Nat) : Int)] := by rw [← hh1]; exact rowCells_push
      simp only [srcCells, this]; rfl
    obtain ⟨out', h2, k2, b2, f2, r2⟩ := (b.keep f1 fun _ _ k => k).append (bytes := 8) 1 [.int .i64 ((64 * i + Lib.ctz 64 w : Nat) : Int)] (by omega) rfl (by omega)
    have k2' : appendV 8 1 h1 out (.slice h.next 0 1 1 (some 1)) = some (out', h2) := by
      show bO (srcCells h1.get 1 1 (.slice h.next 0 1 1 (some 1))) _ = _
      rw [src]; exact k2
    have ln : (bitsOf (w &&& (w - 1))).length = m := by rw [hb] at hm; simpa using hm
    simp [↓ kq, kq, ↓ ko, ko, kb, kv, kt, kx, t2, t3, t4, e1, e2, e3, e4, e5, k1, hh1, k2', -bO_of, -bB_true, -bB_false, -H.next_push, -Int.natCast_add]
    rw [← hL]
    refine Gets.mono (ih (w &&& (w - 1)) k _ h2 out' (n + 1) _ ln hw' (by omega) (by omega) ?_ ?_ ?_ b2) fun fl t' h' ⟨b1, ⟨q2, q2', q2''⟩, out2, q3, q4, q5, q6⟩ => ⟨b1, ⟨?_, ?_, ?_⟩, out2, q3, ?_, ?_, fun q hq => ?_⟩
    · simp [kq]
    · simp [kq, t3]
    · simp [kq]
    · rw [q2]; simp [kq]
    · rw [q2']; simp [kq]
    · rw [q2'']; simp [kq]
    · rw [hb]
      have : n + (m + 1) = n + 1 + m := by omega
      rw [this]
      simpa [i64s, List.append_assoc] using q4
    · have g1 : Fr (isRow out) (fun _ => False) h h2 := (f1.mono (fun _ _ k => k.elim) (fun _ k => .inl k)).trans (f2.mono (fun _ _ k => k) (fun _ k => .inl k))
      refine ⟨Nat.le_trans g1.next q5.next, fun q hq hn => ?_, fun m' a1 a2 a3 => q5.low m' (g1.low m' a1 a2 a3) (Nat.le_trans a2 g1.next) a3⟩
      rw [q5.keep q (Nat.lt_of_lt_of_le hq g1.next) (fun k => ?_), g1.keep q hq hn]
      rcases r2 q k with k | k
      · exact hn k
      · omega
    · rcases q6 q hq with k | k
      · rcases r2 q k with k | k
        · exact .inl k
        · exact .inr (by omega)
      · exact .inr (by have := f1.next; have := f2.next; omega)
end
end Go.Proofs
