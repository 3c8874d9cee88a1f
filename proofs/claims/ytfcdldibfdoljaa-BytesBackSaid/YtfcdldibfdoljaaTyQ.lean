/- Bytes: the loop of what is written. -/
import Derived.Test.YtfcdldibfdoljaaTyP
set_option linter.unusedVariables false
set_option linter.unusedSimpArgs false
set_option linter.unusedSectionVars false
namespace Go.Proofs
open Go.Sh
set_option linter.unusedVariables false
attribute [local instance] heldNone
noncomputable section
def beZ : Nat → Int → List Int
  | 0, _ => []
  | s + 1, x => wrapS .u8 (x.fdiv (2 ^ (8 * s))) :: beZ s x
theorem be_z : ∀ s x, be s x = u8z (beZ s x)
  | 0, _ => rfl
  | s + 1, x => by rw [be, be_z s x]; rfl
theorem u8z_app (a b : List Int) : u8z (a ++ b) = u8z a ++ u8z b := by simp [u8z]
theorem u8s_z (s : List UInt8) : u8s s = u8z (s.map fun c => (c.toNat : Int)) := by simp [u8s, u8z]
theorem It.bs_z (x : It) : ∃ zs, x.bs = u8z zs := by
  unfold It.bs
  split
  · exact ⟨_, be_z _ _⟩
  · split
    · exact ⟨_, be_z _ _⟩
    · split
      · exact ⟨_, be_z _ _⟩
      · split
        · exact ⟨_, by rw [be_z, u8s_z, ← u8z_app]⟩
        · exact ⟨[], rfl⟩
theorem View.strG {h : H} {g : Nat → Option SObj} {n : Nat} {v : SV} {zs : List Int} (w : View h 1 v n (u8z zs)) (hg : ∀ q, isRow v q → rowCells g q = rowCells h.get q) : strOf g v = some (.str (bytesZ zs)) := by
  rw [← View.str w]
  obtain ⟨h1, ⟨rfl, rfl⟩ | ⟨id, off, cap, all, rfl, h2, h3, h4⟩⟩ := w
  · rfl
  · show bO (rowCells g id) _ = bO (rowCells h.get id) _
    rw [hg id rfl]
theorem Wr.fixed {h : H} {p n : Nat} {b : Bool} {cs : List SV} (w : Wr h p b n cs) : fixedAt h.get p 0 = true := by
  obtain ⟨buf, h1, _⟩ := w
  unfold fixedAt; rw [h1]; rfl
theorem Buf.lt {h : H} {es n : Nat} {v : SV} {cs : List SV} (b : Buf h es v n cs) : ∀ q, isRow v q → q < h.next := fun q hq => by
  obtain ⟨_, ⟨rfl, _⟩ | ⟨id, par, rfl, e⟩⟩ := b
  · exact hq.elim
  · rw [show q = id from hq]; exact H.get_lt e
theorem Try.awake (h : H) : Try.lc 8 [] h = some (.bool true, h) := by
  show (lim Try.prog Try.X).call 8 [] h = _
  rw [call_eq]
  rfl
/-- Where the loop of what is written stands. -/
structure WrAt (base p : Nat) (items : SV) (its : List It) (i : Nat) (h : H) (want : SV) (all : Bool) (n nw : Nat) (cs : List SV) (zs : List Int) : Prop where
  view : View h 3 items its.length (itCells its)
  old : ∀ q, isRow items q → q < base
  wr : Wr h p (!all) n cs
  buf : Buf h 1 want nw (u8z zs)
  same : all = true → n = nw ∧ cs = u8z zs
  own : ∀ q, wrOwn h p q → base ≤ q
  wown : ∀ q, isRow want q → base ≤ q
  apart : ∀ q, isRow want q → ¬ wrOwn h p q
  le : n ≤ total (its.take i)
  lew : nw ≤ total (its.take i)
  nx : base ≤ h.next
def WrEnd (base p : Nat) (items : SV) (its : List It) (t' : T) (h' : H) : Prop := ∃ want' all' n' nw' cs' zs', WrAt base p items its its.length h' want' all' n' nw' cs' zs' ∧ getP (way 3) t' = some (.ptr p 0) ∧ getP (way 4) t' = some .nilptr ∧ getP (way 5) t' = some want' ∧ getP (way 6) t' = some (.bool all')
theorem keq_ptr {g : Nat → Option SObj} {p : Nat} (hf : fixedAt g p 0 = true) : keq g (.ptr true) (.ptr p 0) (.ptr p 0) = some true := by
  show (if fixedAt g p 0 && fixedAt g p 0 && true then _ else none) = _
  rw [hf]; simp
theorem Try.writes_loop {base p : Nat} {items : SV} {its : List It} (ht : total its ≤ 2000) (hlen : its.length ≤ 2000) : ∀ (j i k : Nat) (t : T) (h : H) (want : SV) (all : Bool) (n nw : Nat) (cs : List SV) (zs : List Int), i + j = its.length → j < k → WrAt base p items its i h want all n nw cs zs →
    getP (way 0) t = some items → getP (way 3) t = some (.ptr p 0) → getP (way 4) t = some .nilptr → getP (way 5) t = some want → getP (way 6) t = some (.bool all) → getP (way 7) t = some (.int .i64 i) →
    Gets (cLoop Try.l3_0 k Try.lc t h) fun fl t' h' => fl = .exit 0 ∧ WrEnd base p items its t' h' := by
  intro j
  induction j with
  | zero =>
    intro i k t h want all n nw cs zs hi hk a t0 t3 t4 t5 t6 t7
    obtain ⟨k, rfl⟩ : ∃ m, k = m + 1 := ⟨k - 1, by omega⟩
    rw [loop_succ]
    generalize (fun t h => cLoop Try.l3_0 k Try.lc t h) = L
    unfold Try.l3_0
    have e1 : ltI (i : Int) its.length = false := by rw [ltI_eq]; simp; omega
    have hi' : i = its.length := by omega
    subst hi'
    simp [kr, bO_mk, vLt, vLen, a.view.length, i2, kx, t0, t3, t4, t5, t6, t7, e1, gets_some]
    exact ⟨want, all, n, nw, cs, zs, a, by simp [kr, t3], by simp [kr, t4], by simp [kr, t5], by simp [kr, t6]⟩
  | succ j ih =>
    intro i k t h want all n nw cs zs hi hk a t0 t3 t4 t5 t6 t7
    obtain ⟨k, rfl⟩ : ∃ m, k = m + 1 := ⟨k - 1, by omega⟩
    rw [loop_succ]
    generalize hL : (fun t h => cLoop Try.l3_0 k Try.lc t h) = L
    unfold Try.l3_0
    have e1 : ltI (i : Int) its.length = true := by rw [ltI_eq]; simp; omega
    have e3 : IntKind.i64.wrap ((i : Int) + 1) = ((i + 1 : Nat) : Int) := by
      rw [Int.natCast_add]; exact wrap_i64 (by omega) (by omega)
    obtain ⟨x, hx⟩ : ∃ x, its[i]? = some x := ⟨its[i]'(by omega), List.getElem?_eq_getElem (by omega)⟩
    have htk := total_take its i x hx
    have htl : total (its.take (i + 1)) ≤ total its := by
      have := total_app (its.take (i + 1)) (its.drop (i + 1))
      rw [List.take_append_drop] at this; omega
    have := a.le
    have := a.lew
    have hnot : ∀ q, isRow items q → ¬ wrOwn h p q := fun q hq k => by have := a.old q hq; have := a.own q k; omega
    obtain ⟨id, o, c1, c2, _, _⟩ := View.item a.view hx
    obtain ⟨h1, k1, f1, w1, o1⟩ := Try.write (x := x) (by omega) a.wr
    have v1 := a.view.keep f1 hnot
    obtain ⟨id', o', c1', c2', _, _⟩ := View.item v1 hx
    rw [c1] at c1'
    cases c1'
    obtain ⟨h2, k2, f2⟩ := Try.write_nil x h1
    have v2 := v1.keep f2 fun _ _ k => k
    obtain ⟨id', o', c1', c3, _, _⟩ := View.item v2 hx
    rw [c1] at c1'
    cases c1'
    obtain ⟨v, h3, k3, vv, f3, vn⟩ := Try.bytesOf (x := x) (h := h2) (by omega)
    have hbl := x.bs_le
    have b1 : Buf h1 1 want nw (u8z zs) := a.buf.keep f1 a.apart
    have b2 := b1.keep f2 fun _ _ k => k
    have b3 := b2.keep f3 fun _ _ k => k
    obtain ⟨want', h4, k4, b4, f4, n4⟩ := b3.append (bytes := 1) x.bs.length x.bs (by omega) (by simp) (by omega)
    have k4' := append_view vv k4
    have w2 := w1.keep f2 fun _ _ k => k
    have w3 := w2.keep f3 fun _ _ k => k
    have hp1 : p < h1.next := by obtain ⟨_, e, _⟩ := w1; exact H.get_lt e
    have hw4 : ∀ q, wrOwn h3 p q → ¬ isRow want q := fun q hq k => by
      have q1 := (wrOwn_keep f2 hp1 (fun k => k) q).1 ((wrOwn_keep f3 (Nat.lt_of_lt_of_le hp1 f2.next) (fun k => k) q).1 hq)
      rcases o1 q q1 with q2 | q2
      · exact a.apart q k q2
      · exact absurd (Buf.lt a.buf q k) (by omega)
    have w4 := w3.keep f4 hw4
    have kb := Try.bad w4
    have own4 : ∀ q, wrOwn h4 p q → wrOwn h p q ∨ (h.next ≤ q ∧ q < h1.next) := fun q hq => by
      have q0 := (wrOwn_keep f4 (Nat.lt_of_lt_of_le hp1 (Nat.le_trans f2.next f3.next)) (hw4 p (.inl rfl)) q).1 hq
      have q1 := (wrOwn_keep f2 hp1 (fun k => k) q).1 ((wrOwn_keep f3 (Nat.lt_of_lt_of_le hp1 f2.next) (fun k => k) q).1 q0)
      rcases o1 q q1 with q2 | q2
      · exact .inl q2
      · exact .inr ⟨q2, wrOwn_lt w1 q q1⟩
    have hbad : (!all || x.bad) = !(if all then !x.bad else false) := by cases all <;> simp
    rw [hbad] at kb w4
    obtain ⟨zb, hzb⟩ := x.bs_z
    have a4 : WrAt base p items its (i + 1) h4 want' (if all then !x.bad else false) (wrote (!all) n x) (nw + x.bs.length) (wroteCs (!all) cs x) (zs ++ zb) := by
      refine ⟨(v2.keep f3 fun _ _ k => k).keep f4 fun q hq k => ?_, a.old, w4, by rw [u8z_app, ← hzb]; exact b4, fun q => ?_, fun q hq => ?_, fun q hq => ?_, fun q hq k => ?_, ?_, by omega, Nat.le_trans a.nx (Nat.le_trans f1.next (Nat.le_trans f2.next (Nat.le_trans f3.next f4.next)))⟩
      · have := a.old q hq; have := a.wown q k; omega
      · cases all
        · cases q
        · obtain ⟨s1, s2⟩ := a.same rfl
          have hb : x.bad = false := by simpa using q
          unfold wrote wroteCs
          rw [hb, s1, s2, u8z_app, ← hzb]
          exact ⟨rfl, rfl⟩
      · rcases own4 q hq with k | k
        · exact a.own q k
        · exact Nat.le_trans a.nx k.1
      · rcases n4 q hq with k | k
        · exact a.wown q k
        · exact Nat.le_trans a.nx (Nat.le_trans f1.next (Nat.le_trans f2.next (Nat.le_trans f3.next k)))
      · rcases n4 q hq with q1 | q1
        · rcases own4 q k with q2 | q2
          · exact a.apart q q1 q2
          · have := Buf.lt a.buf q q1; omega
        · have q3 : q < h1.next := by
            rcases own4 q k with q2 | q2
            · exact Nat.lt_of_lt_of_le (wrOwn_lt a.wr q q2) f1.next
            · exact q2.2
          have := f2.next; have := f3.next; omega
      · unfold wrote
        split <;> omega
    have w1f := Wr.fixed w1
    have v1l := v1.length
    cases hal : all
    · rw [hal] at kb a4 t6
      have kb : Try.lc 11 [.ptr p 0] h4 = some (.bool true, h4) := kb
      simp [kr, bO_mk, vLt, vLen, a.view.length, v1l, vIdx, vPick, isB, bB, i2, kx, t0, t3, t4, t5, t6, t7, e1, e3, intN_nat, c1, c2, c2', c3, k1, k2, k3, lNe, w1f, keq, vExtract, k4', kb, vUn, unS, vAdd, wrapS_eq, -Int.natCast_add]
      rw [← hL]
      refine ih (i + 1) k _ h4 want' _ _ _ _ _ (by omega) (by omega) a4 ?_ ?_ ?_ ?_ ?_ ?_ <;> simp [kr, t0, t3, t4, -Int.natCast_add]
    · rw [hal] at kb a4 t6
      have kb : Try.lc 11 [.ptr p 0] h4 = some (.bool (x.bad), h4) := by simpa using kb
      simp [kr, bO_mk, vLt, vLen, a.view.length, v1l, vIdx, vPick, isB, bB, i2, kx, t0, t3, t4, t5, t6, t7, e1, e3, intN_nat, c1, c2, c2', c3, k1, k2, k3, lNe, w1f, keq, vExtract, k4', kb, vUn, unS, vAdd, wrapS_eq, -Int.natCast_add]
      rw [← hL]
      refine ih (i + 1) k _ h4 want' _ _ _ _ _ (by omega) (by omega) a4 ?_ ?_ ?_ ?_ ?_ ?_ <;> simp [kr, t0, t3, t4, -Int.natCast_add]
end
end Go.Proofs
