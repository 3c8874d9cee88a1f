/- Bitset: what is taken off and what is in both, by the reference. -/
import Derived.Test.YtfcdldibfdoljaaDoorTyZO
set_option linter.unusedVariables false
set_option linter.unusedSimpArgs false
set_option linter.unusedSectionVars false
namespace Go.Sh
/-- What grows out of nothing, or out of an empty row. -/
def Ap (h : H) (v : SV) (n : Nat) (cs : List SV) : Prop := Buf h 1 v n cs ∨ (n = 0 ∧ cs = [] ∧ ∃ id, v = .slice id 0 0 1 (some 0) ∧ rowCells h.get id = some [])
theorem Ap.view {h : H} {v : SV} {n : Nat} {cs : List SV} (a : Ap h v n cs) : View h 1 v n cs := by
  rcases a with a | ⟨rfl, rfl, id, rfl, e⟩
  · exact a.view'
  · exact ⟨rfl, .inr ⟨id, 0, some 0, [], rfl, e, rfl, fun c q => by cases q; exact Nat.le_refl _⟩⟩
theorem Ap.append {h : H} {v x : SV} {n k : Nat} {cs new : List SV} (a : Ap h v n cs) (w : View h 1 x k new) (hmax : n + k ≤ 65536) :
    ∃ v' h', appendV 8 1 h v x = some (v', h') ∧ Ap h' v' (n + k) (cs ++ new) ∧ Fr (isRow v) (fun _ => False) h h' ∧ (∀ q, isRow v' q → isRow v q ∨ h.next ≤ q) := by
  have hk : new.length = k * 1 := w.1
  have ea : appendV 8 1 h v x = kappend h 8 1 k new v := by
    show bO (srcLen x) (fun n => bO (srcCells h.get 1 n x) fun new => kappend h 8 1 n new v) = _
    rw [w.src.1]
    show bO (srcCells h.get 1 k x) _ = _
    rw [w.src.2]; rfl
  rw [ea]
  rcases a with a | ⟨rfl, rfl, id, rfl, e⟩
  · obtain ⟨v', h', k1, k2, k3, k4⟩ := a.append (bytes := 8) k new (by decide) hk (by omega)
    exact ⟨v', h', k1, .inl k2, k3, k4⟩
  · have e2 : (Nat.ble ((0 + k) * (8 + 1 + 1)) 1099511627776 && Nat.beq 1 1) = true := by
      rw [Nat.ble_eq_true_of_le (by omega)]; rfl
    by_cases k0 : k = 0
    · subst k0
      have hn : new = [] := List.eq_nil_of_length_eq_zero (by simpa using hk)
      subst hn
      exact ⟨.slice id 0 0 1 (some 0), h, rfl, .inr ⟨rfl, rfl, id, rfl, e⟩, .refl, fun q hq => .inl hq⟩
    · refine ⟨.slice h.next 0 (0 + k) 1 none, h.push (.cells ([] ++ new) (.grown none)), ?_, .inl ⟨by simpa using hk, .inr ⟨h.next, none, rfl, by rw [H.get_push, if_pos rfl]⟩⟩, .push, fun q hq => .inr (by rw [show q = h.next from hq]; exact Nat.le_refl _)⟩
      show bB _ (appendKnown h id 0 0 1 0 k new) _ = _
      rw [e2]
      show appendKnown h id 0 0 1 0 k new = _
      unfold appendKnown
      rw [if_neg (by omega), e]
      rfl
end Go.Sh
namespace Go.Proofs
open Go.Sh
set_option linter.unusedVariables false
attribute [local instance] tabHeld
noncomputable section
abbrev ListAt (h : H) (v : SV) (l : List Nat) : Prop := View h 1 v (ni l).length (ni l)
abbrev IntsAt (h : H) (v : SV) (l : List Int) : Prop := View h 1 v l.length (i64s l)
theorem mayN_len (zs : List Int) : (mayN zs).length ≤ 65536 := by
  have := List.length_filter_le (fun (k : Nat) => decide ((k : Int) ∈ zs)) (List.range 65536)
  rw [List.length_range] at this
  exact this
theorem ListAt.ints {h : H} {v : SV} {l : List Nat} (w : ListAt h v l) : IntsAt h v (l.map fun (k : Nat) => (k : Int)) := by
  have w' : View h 1 v (ni l).length (ni l) := w
  rw [ni_len] at w'
  rw [IntsAt, ← ni_i64s, List.length_map]
  exact w'
theorem Tryd.intsN {v u : SV} {h : H} {l m : List Nat} (w : ListAt h v l) (w2 : ListAt h u m) (hl : l.length ≤ 65536) : Tryd.lc 9 [v, u] h = some (.bool (decide (l = m)), h) := by
  obtain ⟨r, h', k1, rfl, rfl⟩ := Tryd.ints w.ints w2.ints (by simp; omega)
  rw [k1]
  congr 3
  apply decide_eq_decide.2
  constructor
  · intro e
    have e' := congrArg (List.map Int.toNat) e
    rw [List.map_map, List.map_map] at e'
    simpa [Function.comp_def] using e'
  · intro e; rw [e]
theorem Tryd.hasN {v : SV} {h : H} {l : List Nat} (w : ListAt h v l) (hl : l.length ≤ 65536) (z : Int) : Tryd.lc 8 [v, .int .i64 z] h = some (.bool (decide (z ∈ l.map fun (k : Nat) => (k : Int))), h) := by
  obtain ⟨r, h', k1, rfl, rfl⟩ := Tryd.hasL w.ints (by simp; omega) z
  exact k1
def Kept (t t' : T) : Prop := getP (way 0) t' = getP (way 0) t ∧ getP (way 1) t' = getP (way 1) t ∧ getP (way 2) t' = getP (way 2) t ∧ getP (way 7) t' = getP (way 7) t ∧ getP (way 8) t' = getP (way 8) t ∧ getP (way 9) t' = getP (way 9) t ∧ getP (way 10) t' = getP (way 10) t
theorem Kept.trans {a b c : T} (h1 : Kept a b) (h2 : Kept b c) : Kept a c := by
  obtain ⟨p1, p2, p3, p4, p5, p6, p7⟩ := h1
  obtain ⟨q1, q2, q3, q4, q5, q6, q7⟩ := h2
  exact ⟨q1.trans p1, q2.trans p2, q3.trans p3, q4.trans p4, q5.trans p5, q6.trans p6, q7.trans p7⟩
theorem ni_get (l : List Nat) (i : Nat) (k : Nat) (h : l[i]? = some k) : (ni l)[i]? = some (.int .i64 (k : Int)) := by simp [ni, h]
def outOf (ys xs : List Nat) : List Nat := xs.filter fun (k : Nat) => !decide (k ∈ ys)
def inOf (ys xs : List Nat) : List Nat := xs.filter fun (k : Nat) => decide (k ∈ ys)
/-- Where the loop stands. -/
structure PtAt (hb h : H) (mi an : SV) (xs ys : List Nat) : Prop where
  bm : Buf h 1 mi (ni (outOf ys xs)).length (ni (outOf ys xs))
  ba : Buf h 1 an (ni (inOf ys xs)).length (ni (inOf ys xs))
  rm : ∀ q, isRow mi q → hb.next ≤ q
  ra : ∀ q, isRow an q → hb.next ≤ q
  ne : ∀ q, isRow mi q → ¬ isRow an q
  fr : Fr (fun _ => False) (fun _ => False) hb h
def PtEnd (hb : H) (xs ys : List Nat) (t t' : T) (h' : H) : Prop := Kept t t' ∧ getP (way 13) t' = some (.bool (decide (outOf ys xs = []))) ∧ ∃ mi an, getP (way 11) t' = some mi ∧ getP (way 12) t' = some an ∧ PtAt hb h' mi an xs ys
theorem append_one {h : H} {v : SV} {cs : List SV} {x : SV} (b : Buf h 1 v cs.length cs) (hn : cs.length < 65536) :
    ∃ v' h', appendV 8 1 (h.push (.cells [x] .fixed)) v (.slice h.next 0 1 1 (some 1)) = some (v', h') ∧ Buf h' 1 v' (cs ++ [x]).length (cs ++ [x]) ∧ Fr (isRow v) (fun _ => False) h h' ∧ (∀ q, isRow v' q → isRow v q ∨ h.next < q) := by
  have fp : Fr (fun _ => False) (fun _ => False) h (h.push (.cells [x] .fixed)) := .push
  have w : View (h.push (.cells [x] .fixed)) 1 (.slice h.next 0 1 1 (some 1)) 1 [x] := view_row rowCells_push rfl
  obtain ⟨v', h', k1, k2, k3, k4⟩ := (b.keep fp fun _ _ k => k).append (bytes := 8) 1 [x] (by decide) rfl (by omega)
  refine ⟨v', h', ?_, by rw [List.length_append]; exact k2, ?_, fun q hq => ?_⟩
  · show bO (srcCells (h.push (.cells [x] .fixed)).get 1 1 (.slice h.next 0 1 1 (some 1))) _ = _
    rw [w.src.2]; exact k1
  · exact (fp.mono (fun _ _ k => k.elim) fun _ k => .inl k).trans k3
  · rcases k4 q hq with e | e
    · exact .inl e
    · exact .inr e
theorem Tryd.part_loop {hb : H} {x y : SV} {xs ys : List Nat} (wx : ListAt hb x xs) (wy : ListAt hb y ys) (hx : xs.length ≤ 65536) (hy : ys.length ≤ 65536) : ∀ (j i k : Nat) (t : T) (h : H) (mi an : SV), i + j = xs.length → j < k → PtAt hb h mi an (xs.take i) ys →
    getP (way 9) t = some x → getP (way 10) t = some y → getP (way 11) t = some mi → getP (way 12) t = some an → getP (way 13) t = some (.bool (decide (outOf ys (xs.take i) = []))) → getP (way 14) t = some (.int .i64 i) →
    Gets (cLoop Tryd.l3_0 k Tryd.lc t h) fun fl t' h' => fl = .exit 0 ∧ PtEnd hb xs ys t t' h' := by
  intro j
  induction j with
  | zero =>
    intro i k t h mi an hi hk p t9 t10 t11 t12 t13 t14
    obtain ⟨k, rfl⟩ : ∃ m, k = m + 1 := ⟨k - 1, by omega⟩
    rw [loop_succ]
    generalize (fun t h => cLoop Tryd.l3_0 k Tryd.lc t h) = L
    unfold Tryd.l3_0
    have e1 : ltI (i : Int) xs.length = false := by rw [ltI_eq]; exact decide_eq_false (by omega)
    rw [List.take_of_length_le (by omega)] at p t13
    generalize hE : PtEnd hb xs ys t = E
    simp [↓ kq, kq, ↓ ko, ko, kb, kv, kt, kx, t9, t10, t11, t12, t13, t14, wx.length, ni_len, e1, gets_some, -bO_of, -bB_true, -bB_false, -H.next_push, -Int.natCast_add]
    rw [← hE]
    exact ⟨by simp [Kept, kq], by simp [kq, t13], mi, an, by simp [kq, t11], by simp [kq, t12], p⟩
  | succ j ih =>
    intro i k t h mi an hi hk p t9 t10 t11 t12 t13 t14
    obtain ⟨k, rfl⟩ : ∃ m, k = m + 1 := ⟨k - 1, by omega⟩
    rw [loop_succ]
    generalize hL : (fun t h => cLoop Tryd.l3_0 k Tryd.lc t h) = L
    unfold Tryd.l3_0
    have e1 : ltI (i : Int) xs.length = true := by rw [ltI_eq]; exact decide_eq_true (by omega)
    have e2 : IntKind.i64.wrap ((i : Int) + 1) = ((i + 1 : Nat) : Int) := by
      rw [Int.natCast_add]; exact wrap_i64 (by omega) (by omega)
    obtain ⟨z, hz⟩ : ∃ z, xs[i]? = some z := ⟨xs[i]'(by omega), List.getElem?_eq_getElem (by omega)⟩
    have hts : xs.take (i + 1) = xs.take i ++ [z] := by
      obtain ⟨hi', rfl⟩ := List.getElem?_eq_some_iff.1 hz
      exact List.take_succ_eq_append_getElem hi'
    have wx1 := wx.keep p.fr fun _ _ k => k
    have wy1 : ListAt h y ys := wy.keep p.fr fun _ _ k => k
    obtain ⟨pA, x2, x3⟩ := wx1.loadV (i := i) (by rw [ni_len]; omega)
    rw [ni_get xs i z hz] at x3
    have hh := Tryd.hasN wy1 hy (z : Int)
    have hm : (((z : Nat) : Int) ∈ ys.map fun (k : Nat) => (k : Int)) ↔ z ∈ ys := by
      rw [List.mem_map]
      constructor
      · rintro ⟨k, h1, h2⟩
        rwa [show z = k by omega]
      · intro h1; exact ⟨z, h1, rfl⟩
    rw [decide_eq_decide.2 hm] at hh
    have hlen : (xs.take i).length ≤ i := by rw [List.length_take]; omega
    by_cases q : z ∈ ys
    · rw [decide_eq_true q] at hh
      have e4 : outOf ys (xs.take (i + 1)) = outOf ys (xs.take i) := by
        unfold outOf; rw [hts, List.filter_append]; simp [q]
      have e5 : inOf ys (xs.take (i + 1)) = inOf ys (xs.take i) ++ [z] := by
        unfold inOf; rw [hts, List.filter_append]; simp [q]
      have hl2 : (ni (inOf ys (xs.take i))).length < 65536 := by
        rw [ni_len]; have := List.length_filter_le (fun (k : Nat) => decide (k ∈ ys)) (xs.take i); unfold inOf; omega
      obtain ⟨an2, h2, k1, k2, k3, k4⟩ := append_one (x := .int .i64 (z : Int)) p.ba hl2
      generalize hh1 : h.push (.cells [.int .i64 (z : Int)] .fixed) = h1 at k1
      have p2 : PtAt hb h2 mi an2 (xs.take (i + 1)) ys := by
        refine ⟨?_, ?_, p.rm, fun q hq => ?_, fun q h1 h2 => ?_, Fr.new p.fr k3 p.ra fun q e => e.elim⟩
        · rw [e4]; exact p.bm.keep k3 fun q hq e => p.ne q hq e
        · rw [e5, show ni (inOf ys (xs.take i) ++ [z]) = ni (inOf ys (xs.take i)) ++ [.int .i64 (z : Int)] by simp [ni]]; exact k2
        · rcases k4 q hq with e | e
          · exact p.ra q e
          · have := p.fr.next; omega
        · rcases k4 q h2 with e | e
          · exact p.ne q h1 e
          · have := p.bm.view'.lt q h1; omega
      simp [↓ kq, kq, ↓ ko, ko, kb, kv, kt, kx, t9, t10, t11, t12, t13, t14, wx.length, ni_len, e1, e2, x2, x3, hh, hh1, k1, gets_some, -bO_of, -bB_true, -bB_false, -H.next_push, -Int.natCast_add]
      rw [← hL]
      refine Gets.mono (ih (i + 1) k _ h2 mi an2 (by omega) (by omega) p2 ?_ ?_ ?_ ?_ ?_ ?_) fun fl t' h' ⟨b1, b2, b3⟩ => ⟨b1, Kept.trans ?_ b2, b3⟩
      · simp [kq, t9]
      · simp [kq, t10]
      · simp [kq, t11]
      · simp [kq]
      · rw [e4]; simp [kq, t13]
      · simp [kq, -Int.natCast_add]
      · simp [Kept, kq]
    · rw [decide_eq_false q] at hh
      have e4 : outOf ys (xs.take (i + 1)) = outOf ys (xs.take i) ++ [z] := by
        unfold outOf; rw [hts, List.filter_append]; simp [q]
      have e5 : inOf ys (xs.take (i + 1)) = inOf ys (xs.take i) := by
        unfold inOf; rw [hts, List.filter_append]; simp [q]
      have hl2 : (ni (outOf ys (xs.take i))).length < 65536 := by
        rw [ni_len]; have := List.length_filter_le (fun (k : Nat) => !decide (k ∈ ys)) (xs.take i); unfold outOf; omega
      obtain ⟨mi2, h2, k1, k2, k3, k4⟩ := append_one (x := .int .i64 (z : Int)) p.bm hl2
      generalize hh1 : h.push (.cells [.int .i64 (z : Int)] .fixed) = h1 at k1
      have p2 : PtAt hb h2 mi2 an (xs.take (i + 1)) ys := by
        refine ⟨?_, ?_, fun q hq => ?_, p.ra, fun q h1 h2 => ?_, Fr.new p.fr k3 p.rm fun q e => e.elim⟩
        · rw [e4, show ni (outOf ys (xs.take i) ++ [z]) = ni (outOf ys (xs.take i)) ++ [.int .i64 (z : Int)] by simp [ni]]; exact k2
        · rw [e5]; exact p.ba.keep k3 fun q hq e => p.ne q e hq
        · rcases k4 q hq with e | e
          · exact p.rm q e
          · have := p.fr.next; omega
        · rcases k4 q h1 with e | e
          · exact p.ne q e h2
          · have := p.ba.view'.lt q h2; omega
      simp [↓ kq, kq, ↓ ko, ko, kb, kv, kt, kx, t9, t10, t11, t12, t13, t14, wx.length, ni_len, e1, e2, x2, x3, hh, hh1, k1, gets_some, -bO_of, -bB_true, -bB_false, -H.next_push, -Int.natCast_add]
      rw [← hL]
      refine Gets.mono (ih (i + 1) k _ h2 mi2 an (by omega) (by omega) p2 ?_ ?_ ?_ ?_ ?_ ?_) fun fl t' h' ⟨b1, b2, b3⟩ => ⟨b1, Kept.trans ?_ b2, b3⟩
      · simp [kq, t9]
      · simp [kq, t10]
      · simp [kq]
      · simp [kq, t12]
      · rw [e4]; simp [kq]
      · simp [kq, -Int.natCast_add]
      · simp [Kept, kq]
end
end Go.Proofs
