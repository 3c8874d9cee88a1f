/- Bytes: what was written is read as it was; cut short, it fails: the plain law, and the loops. -/
import Derived.Test.YtfcdldibfdoljaaTyY1
set_option linter.unusedVariables false
set_option linter.unusedSimpArgs false
set_option linter.unusedSectionVars false
namespace Go.Proofs
open Go.Sh
set_option linter.unusedVariables false
attribute [local instance] heldNone
noncomputable section
def enc (l : List It) : List Int := l.flatMap It.zs
theorem enc_app (a b : List It) : enc (a ++ b) = enc a ++ enc b := by unfold enc; rw [List.flatMap_append]
theorem enc_take (l : List It) (i : Nat) (x : It) (hx : l[i]? = some x) : enc (l.take (i + 1)) = enc (l.take i) ++ x.zs := by
  obtain ⟨hi, rfl⟩ := List.getElem?_eq_some_iff.1 hx
  rw [List.take_succ_eq_append_getElem hi, enc_app]
  congr 1
  simp [enc]
theorem enc_split (l : List It) (i : Nat) (x : It) (hx : l[i]? = some x) : enc l = enc (l.take i) ++ x.zs ++ enc (l.drop (i + 1)) := by
  rw [← enc_take l i x hx]
  rw [← enc_app, List.take_append_drop]
theorem enc_bytes (l : List It) : IsBytes (enc l) := fun z h => by
  obtain ⟨x, _, h⟩ := List.mem_flatMap.1 h
  exact x.zs_bytes z h
/-- Something that can be written, of a kind that is. -/
def It.fine (x : It) : Prop := x.bad = false ∧ (x.how = 1 ∨ x.how = 2 ∨ x.how = 3 ∨ x.how = 4)
theorem out_in {x lo hi : Int} (h : outOf false x lo hi = false) : lo ≤ x ∧ x ≤ hi := by
  unfold outOf at h
  rw [ltI_eq, ltI_eq] at h
  simp at h; omega
theorem It.fine1 {x : It} (h : x.fine) (q : x.how = 1) : x.zs = beZ 1 x.num ∧ 0 ≤ x.num ∧ x.num ≤ 255 := by
  obtain ⟨h1, _⟩ := h
  unfold It.bad at h1; rw [if_pos q] at h1
  unfold It.zs; rw [if_pos q]
  exact ⟨rfl, out_in h1⟩
theorem It.fine2 {x : It} (h : x.fine) (q : x.how = 2) : x.zs = beZ 2 x.num ∧ 0 ≤ x.num ∧ x.num ≤ 65535 := by
  obtain ⟨h1, _⟩ := h
  unfold It.bad at h1; rw [if_neg (by omega), if_pos q] at h1
  unfold It.zs; rw [if_neg (by omega), if_pos q]
  exact ⟨rfl, out_in h1⟩
theorem It.fine3 {x : It} (h : x.fine) (q : x.how = 3) : x.zs = beZ 4 x.num ∧ -2147483648 ≤ x.num ∧ x.num ≤ 2147483647 := by
  obtain ⟨h1, _⟩ := h
  unfold It.bad at h1; rw [if_neg (by omega), if_neg (by omega), if_pos q] at h1
  unfold It.zs; rw [if_neg (by omega), if_neg (by omega), if_pos q]
  exact ⟨rfl, out_in h1⟩
theorem It.fine4 {x : It} (h : x.fine) (q : x.how = 4) : x.zs = beZ 2 x.text.length ++ x.text.map (fun c => (c.toNat : Int)) ∧ x.text.length ≤ 65535 := by
  obtain ⟨h1, _⟩ := h
  unfold It.bad at h1; rw [if_neg (by omega), if_neg (by omega), if_neg (by omega), if_pos q] at h1
  unfold It.zs; rw [if_neg (by omega), if_neg (by omega), if_neg (by omega), if_pos q]
  have := (out_in h1).2
  exact ⟨rfl, by omega⟩
theorem bytesZ_nat (s : List UInt8) : bytesZ (s.map fun c => (c.toNat : Int)) = s := by
  unfold bytesZ
  rw [List.map_map]
  conv => rhs; rw [← List.map_id s]
  congr 1
  funext c
  simp
theorem drop_app {α : Type} (A B R : List α) (a : Nat) (h : a = A.length) : (A ++ B ++ R).drop a = B ++ R := by subst h; simp
/-- What was written is read as it was. -/
theorem back_ok {x : It} (hf : x.fine) (A R : List Int) : let zs := A ++ x.zs ++ R
    got zs zs.length A.length false x = true ∧ fit zs zs.length A.length false x = true ∧ A.length + broad zs A.length x = (A ++ x.zs).length := by
  intro zs
  have hd : zs.drop A.length = x.zs ++ R := drop_app A x.zs R _ rfl
  have hl : zs.length = A.length + x.zs.length + R.length := by simp [zs]; omega
  obtain ⟨v1, v2, v4⟩ := be_val x.num
  by_cases q1 : x.how = 1
  · obtain ⟨e, l1, l2⟩ := It.fine1 hf q1
    have el : x.zs.length = 1 := by rw [e, beZ_length]
    have ft : fits zs.length A.length false 1 = true := by simp [fits]; omega
    have nm : numAt zs A.length 1 = x.num := by
      unfold numAt
      rw [hd, take_app _ _ _ el, e, v1]; omega
    simp only [got, fit, broad, q1, ft, nm, if_true]
    exact ⟨eqI_self _, trivial, by simp [el]⟩
  by_cases q2 : x.how = 2
  · obtain ⟨e, l1, l2⟩ := It.fine2 hf q2
    have el : x.zs.length = 2 := by rw [e, beZ_length]
    have ft : fits zs.length A.length false 2 = true := by simp [fits]; omega
    have nm : numAt zs A.length 2 = x.num := by
      unfold numAt
      rw [hd, take_app _ _ _ el, e, v2]; omega
    have n1 : ¬ (2 : Int) = 1 := by omega
    simp only [got, fit, broad, q2, ft, nm, if_true, if_neg n1]
    exact ⟨eqI_self _, trivial, by simp [el]⟩
  by_cases q3 : x.how = 3
  · obtain ⟨e, l1, l2⟩ := It.fine3 hf q3
    have el : x.zs.length = 4 := by rw [e, beZ_length]
    have ft : fits zs.length A.length false 4 = true := by simp [fits]; omega
    have nm : IntKind.i64.wrap (IntKind.i32.wrap (numAt zs A.length 4)) = x.num := by
      unfold numAt
      rw [hd, take_app _ _ _ el, e, v4]
      have : IntKind.i32.wrap (x.num % 4294967296) = x.num := by unfold IntKind.wrap; simp [IntKind.bits, IntKind.signed]; omega
      rw [this]; exact wrap_i64_in (by omega) (by omega)
    have n1 : ¬ (3 : Int) = 1 := by omega
    have n2 : ¬ (3 : Int) = 2 := by omega
    simp only [got, fit, broad, q3, ft, if_true, if_neg n1, if_neg n2, nm]
    exact ⟨eqI_self _, trivial, by simp [el]⟩
  · have q4 : x.how = 4 := by rcases hf.2 with h | h | h | h <;> omega
    obtain ⟨e, l1⟩ := It.fine4 hf q4
    have el : x.zs.length = 2 + x.text.length := by rw [e]; simp [beZ_length]
    have ft : fits zs.length A.length false 2 = true := by simp [fits]; omega
    have nm : lenAt zs A.length = x.text.length := by
      unfold lenAt numAt
      rw [hd, e, List.append_assoc, take_app _ _ _ (beZ_length 2 _), (be_val _).2.1]; omega
    have tf : textFits zs zs.length A.length false = true := by
      unfold textFits; rw [ft, nm]; simp; omega
    have dr : bytesZ ((zs.drop (A.length + 2)).take x.text.length) = x.text := by
      rw [← List.drop_drop, hd, e, List.append_assoc, List.drop_left' (beZ_length 2 _), take_app _ _ _ (by simp)]
      exact bytesZ_nat _
    have n1 : ¬ (4 : Int) = 1 := by omega
    have n2 : ¬ (4 : Int) = 2 := by omega
    have n3 : ¬ (4 : Int) = 3 := by omega
    simp only [got, fit, broad, q4, tf, if_true, if_neg n1, if_neg n2, if_neg n3, nm, dr]
    exact ⟨eqB_self _, trivial, by simp [el]⟩
/-- Cut short, it is read as it was, till it fails. -/
theorem back_cut {x : It} (hf : x.fine) (A R : List Int) (c : Nat) (hc : c ≤ (A ++ x.zs ++ R).length) : let zs := (A ++ x.zs ++ R).take c
    (fit zs c A.length false x = true → A.length + broad zs A.length x = (A ++ x.zs).length) ∧ (fit zs c A.length false x = false → c < (A ++ x.zs ++ R).length) := by
  intro zs
  have hl : (A ++ x.zs ++ R).length = A.length + x.zs.length + R.length := by simp; omega
  by_cases q1 : x.how = 1
  · obtain ⟨e, _, _⟩ := It.fine1 hf q1
    have el : x.zs.length = 1 := by rw [e, beZ_length]
    simp only [fit, broad, q1, if_true]
    exact ⟨fun _ => by simp [el], fun h => by simp [fits] at h; omega⟩
  by_cases q2 : x.how = 2
  · obtain ⟨e, _, _⟩ := It.fine2 hf q2
    have el : x.zs.length = 2 := by rw [e, beZ_length]
    have n1 : ¬ (2 : Int) = 1 := by omega
    simp only [fit, broad, q2, if_true, if_neg n1]
    exact ⟨fun _ => by simp [el], fun h => by simp [fits] at h; omega⟩
  by_cases q3 : x.how = 3
  · obtain ⟨e, _, _⟩ := It.fine3 hf q3
    have el : x.zs.length = 4 := by rw [e, beZ_length]
    have n1 : ¬ (3 : Int) = 1 := by omega
    have n2 : ¬ (3 : Int) = 2 := by omega
    simp only [fit, broad, q3, if_true, if_neg n1, if_neg n2]
    exact ⟨fun _ => by simp [el], fun h => by simp [fits] at h; omega⟩
  · have q4 : x.how = 4 := by rcases hf.2 with h | h | h | h <;> omega
    obtain ⟨e, l1⟩ := It.fine4 hf q4
    have el : x.zs.length = 2 + x.text.length := by rw [e]; simp [beZ_length]
    have n1 : ¬ (4 : Int) = 1 := by omega
    have n2 : ¬ (4 : Int) = 2 := by omega
    have n3 : ¬ (4 : Int) = 3 := by omega
    simp only [fit, broad, q4, if_neg n1, if_neg n2, if_neg n3]
    have nm : A.length + 2 ≤ c → lenAt zs A.length = x.text.length := fun h => by
      unfold lenAt numAt
      rw [List.drop_take, List.take_take, Nat.min_eq_left (by omega), drop_app A x.zs R _ rfl, e, List.append_assoc, take_app _ _ _ (beZ_length 2 _), (be_val _).2.1]; omega
    unfold textFits fits
    by_cases h2 : A.length + 2 ≤ c
    · rw [nm h2]
      simp [h2]
      exact ⟨fun _ => by rw [el], fun h => by omega⟩
    · simp [h2]
      omega
/-- Where the first loop stands: what is written so far. -/
structure BwAt (base p : Nat) (items : SV) (its : List It) (i : Nat) (h : H) : Prop where
  view : View h 3 items its.length (itCells its)
  old : ∀ q, isRow items q → q < base
  wr : Wr h p false (enc (its.take i)).length (u8z (enc (its.take i)))
  own : ∀ q, wrOwn h p q → base ≤ q
  fine : ∀ x ∈ its.take i, x.fine
  le : (enc (its.take i)).length ≤ total (its.take i)
  nx : base ≤ h.next
def BwEnd (base p : Nat) (items : SV) (its : List It) (fl : Flow) (t' : T) (h' : H) : Prop := (fl = .ret ∧ getP (way 4) t' = some (.bool true)) ∨ (fl = .exit 0 ∧ BwAt base p items its its.length h' ∧ ∀ k, k < 2 ∨ k = 5 → getP (way k) t' = getP (way k) t')
theorem Try.back_write {base p : Nat} {items : SV} {its : List It} {cut : SV} (ht : total its ≤ 2000) (hlen : its.length ≤ 2000) : ∀ (j i k : Nat) (t : T) (h : H), i + j = its.length → j < k → BwAt base p items its i h →
    getP (way 0) t = some items → getP (way 1) t = some cut → getP (way 5) t = some (.ptr p 0) → getP (way 6) t = some (.int .i64 i) →
    Gets (cLoop Try.l6_1 k Try.lc t h) fun fl t' h' => (fl = .ret ∧ getP (way 4) t' = some (.bool true)) ∨ (fl = .exit 0 ∧ BwAt base p items its its.length h' ∧ getP (way 0) t' = some items ∧ getP (way 1) t' = some cut ∧ getP (way 5) t' = some (.ptr p 0)) := by
  intro j
  induction j with
  | zero =>
    intro i k t h hi hk a t0 t1 t5 t6
    obtain ⟨k, rfl⟩ : ∃ m, k = m + 1 := ⟨k - 1, by omega⟩
    rw [loop_succ]
    generalize (fun t h => cLoop Try.l6_1 k Try.lc t h) = L
    unfold Try.l6_1
    have e1 : ltI (i : Int) its.length = false := by rw [ltI_eq]; simp; omega
    have hi' : i = its.length := by omega
    subst hi'
    simp [↓ kq, kq, kb, kv, kx, a.view.length, t0, t1, t5, t6, e1, gets_some, -bO_of, -bB_true, -bB_false]
    exact a
  | succ j ih =>
    intro i k t h hi hk a t0 t1 t5 t6
    obtain ⟨k, rfl⟩ : ∃ m, k = m + 1 := ⟨k - 1, by omega⟩
    rw [loop_succ]
    generalize hL : (fun t h => cLoop Try.l6_1 k Try.lc t h) = L
    unfold Try.l6_1
    have e1 : ltI (i : Int) its.length = true := by rw [ltI_eq]; simp; omega
    have e3 : IntKind.i64.wrap ((i : Int) + 1) = ((i + 1 : Nat) : Int) := by
      rw [Int.natCast_add]; exact wrap_i64 (by omega) (by omega)
    obtain ⟨x, hx⟩ : ∃ x, its[i]? = some x := ⟨its[i]'(by omega), List.getElem?_eq_getElem (by omega)⟩
    have htk := total_take its i x hx
    have htl : total (its.take (i + 1)) ≤ total its := by
      have := total_app (its.take (i + 1)) (its.drop (i + 1))
      rw [List.take_append_drop] at this; omega
    have hle := a.le
    have hbl := x.bs_le
    obtain ⟨id, o, c1, c2, _, _⟩ := View.item a.view hx
    obtain ⟨v, h1, k1, _, f1, _⟩ := Try.bytesOf (x := x) (h := h) (by omega)
    have v1 := a.view.keep f1 fun _ _ k => k
    obtain ⟨id', o', c1', c3, c4, _⟩ := View.item v1 hx
    rw [c1] at c1'
    cases c1'
    have w1 := a.wr.keep f1 fun _ _ k => k
    have hp : p < h.next := by obtain ⟨_, e, _⟩ := a.wr; exact H.get_lt e
    have own1 := wrOwn_keep f1 hp fun k => k
    obtain ⟨h2, k2, f2, w2, o2⟩ := Try.write (x := x) (by omega) w1
    have bad : x.bad = true ∨ ltI x.how 1 = true ∨ ltI 4 x.how = true ∨ x.fine := by
      cases hb : x.bad
      · right
        rw [ltI_eq, ltI_eq]
        by_cases q : x.how < 1
        · exact .inl (by simpa using q)
        · by_cases q2 : 4 < x.how
          · exact .inr (.inl (by simpa using q2))
          · exact .inr (.inr ⟨hb, by omega⟩)
      · exact .inl rfl
    rcases bad with hb | hb
    · rw [hb] at k1
      simp [↓ kq, kq, kb, kv, kx, a.view.length, t0, t1, t5, t6, e1, c1, c2, c3, c4, k1, Try.awake, gets_some, -bO_of, -bB_true, -bB_false]
    cases hbb : x.bad with
    | true =>
      rw [hbb] at k1
      simp [↓ kq, kq, kb, kv, kx, a.view.length, t0, t1, t5, t6, e1, c1, c2, c3, c4, k1, Try.awake, gets_some, -bO_of, -bB_true, -bB_false]
    | false =>
    rw [hbb] at k1
    rcases hb with hb | hb
    · simp [↓ kq, kq, kb, kv, kx, a.view.length, t0, t1, t5, t6, e1, c1, c2, c3, c4, k1, hb, Try.awake, gets_some, -bO_of, -bB_true, -bB_false]
    cases hb1 : ltI x.how 1 with
    | true => simp [↓ kq, kq, kb, kv, kx, a.view.length, t0, t1, t5, t6, e1, c1, c2, c3, c4, k1, hb1, Try.awake, gets_some, -bO_of, -bB_true, -bB_false]
    | false =>
    rcases hb with hb | hb
    · simp [↓ kq, kq, kb, kv, kx, a.view.length, t0, t1, t5, t6, e1, c1, c2, c3, c4, k1, hb, hb1, Try.awake, gets_some, -bO_of, -bB_true, -bB_false]
    have hb4 : ltI 4 x.how = false := by
      rw [ltI_eq]; rcases hb.2 with q | q | q | q <;> simp [q]
    have a2 : BwAt base p items its (i + 1) h2 := by
      have hcs : u8z (enc (its.take i)) ++ x.bs = u8z (enc (its.take (i + 1))) := by rw [enc_take its i x hx, u8z_app, x.bs_zs]
      have hln : (enc (its.take (i + 1))).length = (enc (its.take i)).length + x.bs.length := by
        rw [enc_take its i x hx, List.length_append, x.bs_zs]; simp [u8z]
      refine ⟨v1.keep f2 fun q hq k => ?_, a.old, ?_, fun q hq => ?_, fun y hy => ?_, ?_, Nat.le_trans a.nx (Nat.le_trans f1.next f2.next)⟩
      · have := a.old q hq; have := a.own q ((own1 q).1 k); omega
      · unfold wrote wroteCs at w2
        rw [hb.1] at w2
        simp only [Bool.or_false, Bool.false_eq_true, if_false] at w2
        rw [hln, ← hcs]; exact w2
      · rcases o2 q hq with k | k
        · exact a.own q ((own1 q).1 k)
        · exact Nat.le_trans a.nx (Nat.le_trans f1.next k)
      · obtain ⟨hi', rfl⟩ := List.getElem?_eq_some_iff.1 hx
        rw [List.take_succ_eq_append_getElem hi'] at hy
        rcases List.mem_append.1 hy with hy | hy
        · exact a.fine y hy
        · simp at hy; subst hy; exact hb
      · rw [hln]; omega
    simp [↓ kq, kq, kb, kv, kx, a.view.length, t0, t1, t5, t6, e1, e3, c1, c2, c3, c4, k1, k2, hb1, hb4, v1.length, -bO_of, -bB_true, -bB_false, -Int.natCast_add]
    rw [← hL]
    refine ih (i + 1) k _ h2 (by omega) (by omega) a2 ?_ ?_ ?_ ?_ <;> simp [kq, t0, t1, t5, -Int.natCast_add]
end
end Go.Proofs
