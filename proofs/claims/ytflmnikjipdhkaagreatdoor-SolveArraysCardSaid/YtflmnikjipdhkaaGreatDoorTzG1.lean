/- General laws of the proof: a shadow machine of the form, its soundness, and a compiled form of it. -/
import Derived.RangeFuncFrom
import Derived.RangeFuncBox
import Derived.RangeFuncKeeps
import Derived.RangeFuncLeaves
import Derived.Shelf.SlIter.Nil
import Derived.Shelf.SlIter.Collect
import Derived.WalkKit
import Derived.OwnWalkIn
import Derived.TacticsInMore
import Derived.LoopNIn
import Derived.LoopIn
import Derived.Laws.IdiomRangeMap
import Derived.Test.YtflmnikjipdhkaaGreatDoorProg
import Derived.Test.YtflmnikjipdhkaaGreatDoorTzE0
set_option linter.unusedVariables false
set_option linter.unusedSimpArgs false
set_option linter.unusedSectionVars false
section
/- The iterator over a map's keys that are edges. -/
namespace Go.Proofs
open Go.RowKit Go.Maps Go.Sort
structure EV where
  src : List UInt8
  pc : Int
  dst : List UInt8
def EV.cells (e : EV) : List Value := [encStr e.src, .int .i64 e.pc, encStr e.dst]
def encE (e : EV) : Value := .agg #[encStr e.src, .int .i64 e.pc, encStr e.dst]
set_option maxRecDepth 100000 in
set_option maxHeartbeats 4000000 in
theorem Tryz.keysE (F : Fence) (n : Nat) (hF : F.fn 188) (hro : F.round = none) (hn : 1 ≤ n) (Bm b clk : Nat) (es : Array MapEntry) (ks : List EV) (w : World) (hBm : Bm < w.heap.size) (hc : w.cell? ⟨Bm, 0, none⟩ = some (.map (some b)))
    (hb : w.heap[b]? = some (.map es clk)) (hk : es.toList.map (·.key) = ks.map encE) (hold : ∀ x ∈ es.toList, x.born < clk) (hnd : (es.toList.map (·.born)).Nodup) :
    SeqStopsK F n Tryz.prog 188 #[.pointer (some ⟨Bm, 0, none⟩)] (fun x => #[encE x]) KeepsWalks (fun xs => xs.Perm ks) (fun _ => True) ks.length w := by
  intro l J Jx W hW hJ hJx hY h0
  have hbl : b < w.heap.size := (Array.getElem?_eq_some_iff.1 hb).1
  have hc' : W.cell? ⟨Bm, 0, none⟩ = some (.map (some b)) := (hW.cell (p := ⟨Bm, 0, none⟩) hBm).trans hc
  have hb' : W.heap[b]? = some (.map es clk) := (hW.block b hbl).trans hb
  refine callsIn_of_wp Tryz.func188 rfl hF ?_ hro
  simp only [Tryz.ntmps188, List.size_toArray, List.length_cons, List.length_nil, Nat.reduceAdd, Nat.reduceSub, Array.replicate_succ, Array.replicate_zero, List.push_toArray, List.append_toArray, List.nil_append, List.cons_append]
  have hrg := run_range_map (P := Tryz.prog) W 126 198 3 b es clk Tryz.underlying126 hb'
  gi_wp2
  have hbW : b < W.heap.size := (Array.getElem?_eq_some_iff.1 hb').1
  generalize hW0 : W.alloc (.mapIter (some b) clk #[] clk) = W0
  have hi0 : W0.heap[W.heap.size]? = some (.mapIter (some b) clk #[] clk) := by rw [← hW0]; exact World.alloc_heap_new W _
  have hb0 : W0.heap[b]? = some (.map es clk) := by rw [← hW0]; exact (Below.heap_alloc _ _ b hbW).trans hb'
  have hJ0 : J [] W0 := by rw [← hW0]; exact hJ [] W _ none h0 (World.grownBy_alloc W _ none) (fun r e => by cases e)
  gi_loopw [3] (fun _ wr => ∃ (seen : Array Nat) (c0 : Nat) (xs left : List EV), wr.heap[b]? = some (.map es clk) ∧ wr.heap[W.heap.size]? = some (.mapIter (some b) clk seen c0) ∧ clk ≤ c0 ∧ (leftOf es seen).toList.map (·.key) = left.map encE ∧ (xs ++ left).Perm ks ∧ J xs wr)
    (fun _ wr => wr.rangeLeft b W.heap.size)
  case atStart =>
    refine ⟨#[], clk, [], ks, hb0, hi0, Nat.le_refl _, ?_, by simp, hJ0⟩
    have : leftOf es #[] = es := by unfold leftOf; exact Array.filter_eq_self.2 (fun x _ => by simp)
    rw [← hk, this]
  case round =>
    obtain ⟨seen, c0, xs, left, hbr, hir, hcr, hl, hp, hJr⟩ := hrel
    have hlt0 : wr.rangeLeft b W.heap.size = (leftOf es seen).size := by simp only [World.rangeLeft, hbr, hir]
    rcases run_next_at (P := Tryz.prog) wr 0 b W.heap.size clk c0 seen es clk hbr hir hold hcr with ⟨hz, hnx⟩ | ⟨e, he, W1, hg1, hs1, hi1, hnx⟩
    · gi_wp2
      go_end0
      have hl0 : left = [] := by
        have : (leftOf es seen).toList = [] := List.eq_nil_of_length_eq_zero (by simpa using hz)
        rw [this] at hl
        simpa using hl.symm
      subst hl0
      exact ⟨⟨_, rfl⟩, .inl ⟨xs, by simpa using hp, hJr⟩⟩
    · have hee : e ∈ es.toList := by
        unfold leftOf at he
        simp at he ⊢
        exact he.1
      have hb1 : W1.heap[b]? = some (.map es clk) := (hg1.block b (Array.getElem?_eq_some_iff.1 hbr).1 (fun q => by have := Option.some.inj q; omega)).trans hbr
      have hen := run_entry_at (P := Tryz.prog) W1 b W.heap.size clk seen es clk e hb1 hi1 hee hnd
      obtain ⟨p, q, h1, h2⟩ := leftOf_push es seen e he hnd
      obtain ⟨left1, x, left2, rfl, hx, hx1, hx2⟩ : ∃ l1 x l2, left = l1 ++ x :: l2 ∧ e.key = encE x ∧ p.map (·.key) = l1.map encE ∧ q.map (·.key) = l2.map encE := by
        rw [h1, List.map_append, List.map_cons] at hl
        obtain ⟨l1, r, rfl, q1, q2⟩ := List.map_eq_append_iff.1 hl.symm
        obtain ⟨x, l2, rfl, q3, q4⟩ := List.map_eq_cons_iff.1 q2
        exact ⟨l1, x, l2, rfl, q3.symm, q1.symm, q4.symm⟩
      have hJ1 : J xs W1 := hJ xs wr W1 (some W.heap.size) hJr hg1 (fun r e => by cases e; exact ⟨Nat.le_refl _, _, hir, rfl⟩)
      have hlen : xs.length < ks.length := by
        have := hp.length_eq
        simp at this; omega
      have hx' : e.key = .agg #[encStr x.src, .int .i64 x.pc, encStr x.dst] := hx
      rw [hx'] at hnx hen
      have hJ2 : J xs (W1.alloc (.cells #[.string ⟨x.src.toArray⟩, .int .i64 x.pc, .string ⟨x.dst.toArray⟩] 198)) := hJ xs W1 _ none hJ1 (World.grownBy_alloc W1 _ none) (fun r e => by cases e)
      obtain ⟨fn, tmps, assign, body, hy, hR⟩ := hY xs x _ hJ2 hlen
      have hy2 : (Instr.yield l #[.agg #[.string ⟨x.src.toArray⟩, .int .i64 x.pc, .string ⟨x.dst.toArray⟩]]).run Tryz.prog (W1.alloc (.cells #[.string ⟨x.src.toArray⟩, .int .i64 x.pc, .string ⟨x.dst.toArray⟩] 198)) = _ := hy
      have hb2 : (W1.alloc (.cells #[.string ⟨x.src.toArray⟩, .int .i64 x.pc, .string ⟨x.dst.toArray⟩] 198)).heap[b]? = some (.map es clk) := (Below.heap_alloc _ _ b (Array.getElem?_eq_some_iff.1 hb1).1).trans hb1
      have hi2 : (W1.alloc (.cells #[.string ⟨x.src.toArray⟩, .int .i64 x.pc, .string ⟨x.dst.toArray⟩] 198)).heap[W.heap.size]? = some (.mapIter (some b) clk (seen.push e.born) clk) := (Below.heap_alloc _ _ _ (Array.getElem?_eq_some_iff.1 hi1).1).trans hi1
      gi_wp2
      refine hR.mono ?_
      rintro en W3 (⟨rfl, hJ3, hk3⟩ | ⟨rfl, hJx3⟩)
      case inr =>
        gi_wp2
        refine bodyPost_ret (results_none rfl _ _ _) rfl ?_
        exact ⟨⟨_, rfl⟩, .inr ⟨xs ++ [x], trivial, hJx3⟩⟩
      have hb3 := hk3.same b _ hb2 rfl
      have hi3 := hk3.same _ _ hi2 rfl
      gi_wp2
      go_roundw
      case rel =>
        refine ⟨seen.push e.born, clk, xs ++ [x], left1 ++ left2, hb3, hi3, Nat.le_refl _, ?_, ?_, hJ3⟩
        · rw [h2, List.map_append, List.map_append, hx1, hx2]
        · refine (List.Perm.trans ?_ hp)
          rw [List.append_assoc]
          exact List.Perm.append_left xs (by simpa using (List.perm_middle (a := x) (l₁ := left1) (l₂ := left2)).symm)
      case measure =>
        rw [hlt0]
        simp only [World.rangeLeft, hb3, hi3]
        have e1 := congrArg List.length h1
        have e2 := congrArg List.length h2
        simp at e1 e2
        omega
theorem EV.len (l : List EV) : (l.flatMap EV.cells).length = l.length * 3 := by
  induction l with
  | nil => rfl
  | cons x l ih => rw [List.flatMap_cons, List.length_append, ih, List.length_cons]; show 3 + _ = _; omega
def BoxRow (w : World) (B : Nat) (pre : List EV) (W : World) : Prop := ∃ v, Boxed W B 28 v ∧ W.ownsRow w.heap.size 198 3 v pre.length (pre.flatMap EV.cells) ∧ (v = .slice none 0 0 ↔ pre = []) ∧ Below w.heap.size w W
theorem BoxRow.own {w : World} {B C : Nat} (hB : B < C) (hC : w.heap.size ≤ C) : OwnFrom C (BoxRow w B) := by
  rintro s W W' row ⟨v, h1, h2, h3, h4⟩ hg hr
  have hne : v.ownBlock = none ∨ v.ownBlock ≠ row := by
    rcases h2.2 with ⟨rfl, _⟩ | ⟨g, cap, cur, rfl, _, hgb, _⟩
    · exact .inl rfl
    · refine .inr fun e => ?_
      obtain ⟨_, o, ho, hw⟩ := hr g (by simpa [Value.ownBlock] using e.symm)
      rw [hgb] at ho; cases ho; cases hw
  exact ⟨v, h1.kept hg (fun e => by have := (hr _ e.symm).1; omega), h2.kept hg hne, h3, h4.grown hg h4.size (fun k e => by have := (hr k e).1; omega)⟩
set_option maxRecDepth 100000 in
set_option maxHeartbeats 4000000 in
theorem Tryz.appE (F : Fence) (n : Nat) (hA : F.fn 221) (hro : F.round = none) (hn : 2 ≤ n) (k : Nat) (lb : Array Value) (hk : F.fn k) (ek : ∀ args w, (callFunc k args).run Tryz.prog w = .ok (.enter k args) w) (S Sp : List EV → Prop) (N : Nat) (hN : N ≤ maxLen) (hNb : N * 40 ≤ 140737488355328) (w : World)
    (hseq : SeqStopsK F (n - 1) Tryz.prog k lb (fun x => #[encE x]) KeepsWalks S Sp N w) :
    CallsIn F n Tryz.prog 221 #[.slice none 0 0, .func (.func k) #[] lb] w fun e w' => ∃ v xs, e = .returned v ∧ S xs ∧ w'.ownsRow w.heap.size 198 3 v xs.length (xs.flatMap EV.cells) ∧ (v = .slice none 0 0 ↔ xs = []) ∧ Below w.heap.size w w' := by
  have h1 : 1 ≤ n := by omega
  refine callsIn_of_wp_marks Tryz.func221 rfl hA ?_ hro
  simp only [Tryz.ntmps221, List.size_toArray, List.length_cons, List.length_nil, Nat.reduceAdd, Nat.reduceSub, Array.replicate_succ, Array.replicate_zero, List.push_toArray, List.append_toArray, List.nil_append, List.cons_append]
  gi_wp2
  have hb0 : Below w.heap.size w (w.alloc (.cells #[.slice none 0 0] 28)) := (Below.refl _ w).alloc (Nat.le_refl _) _
  have hs0 : (w.alloc (.cells #[.slice none 0 0] 28)).heap.size = w.heap.size + 1 := World.size_alloc _ _
  refine wpIn_rangeFunc_boxF (α := EV) hro h1 (gf := k) (lb := lb) rfl hk ek hseq (fun h k => h.trans k) (fun W l o o' _ hl _ hw => KeepsWalks.putObj _ hl hw) hb0 (fun x => rfl)
    (BoxRow w w.heap.size) (fun _ _ _ => False) (BoxRow.own (by omega) (by omega)) (fun _ _ _ _ _ hs _ _ => hs) ⟨_, Boxed.new w 28 (.slice none 0 0), ⟨rfl, .inl ⟨rfl, rfl⟩⟩, by simp, hb0⟩
    (fun x b => { tmps := #[.slice none 0 0, .func (.func k) #[] lb, .pointer (some ⟨w.heap.size, 0, none⟩), undef, .slice none 0 0, .pointer (some ⟨b, 0, none⟩), .func (.func k) #[] lb, encE x, undef, undef, undef, undef, undef], defers := [] })
    (fun x => .cells #[encStr x.src, .int .i64 x.pc, encStr x.dst] 198) (fun W o => KeepsWalks.alloc W o) ?assign ?body ?done ?stop
  case assign =>
    intro l x W K hK
    unfold encE
    gi_wp2_with gi_round_op_a
    exact hK
  case body =>
    rintro l pre x b W ⟨v, hv, hrow, hnil, hbel⟩ hlen hbw hob
    obtain ⟨i0, hi, hz0, hz1, hz2⟩ : ∃ i0, Tryz.prog.info? 198 = some i0 ∧ i0.zero = some (.agg #[.string ⟨#[]⟩, .int .i64 0, .string ⟨#[]⟩]) ∧ i0.size = 3 ∧ i0.bytes = 40 := ⟨_, rfl, rfl, rfl, rfl⟩
    have hcv := hv.cell
    have hfv := hv.frozen
    have c0 : W.cell? ⟨b, 0, none⟩ = some (.string ⟨x.src.toArray⟩) := by simp [World.cell?, hob, encStr]
    have c1 : W.cell? ⟨b, 1, none⟩ = some (.int .i64 x.pc) := by simp [World.cell?, hob]
    have c2 : W.cell? ⟨b, 2, none⟩ = some (.string ⟨x.dst.toArray⟩) := by simp [World.cell?, hob, encStr]
    have hcn : ∀ (j : Nat) u, [Value.string ⟨x.src.toArray⟩, .int .i64 x.pc, .string ⟨x.dst.toArray⟩][j]? = some u → (W.alloc (.cells #[.string ⟨x.src.toArray⟩, .int .i64 x.pc, .string ⟨x.dst.toArray⟩] 198)).cell? ((⟨W.heap.size, 0, none⟩ : Addr).add j) = some u := by
      intro j u hj
      have hn := World.alloc_heap_new W (.cells #[.string ⟨x.src.toArray⟩, .int .i64 x.pc, .string ⟨x.dst.toArray⟩] 198)
      match j, hj with
      | 0, hj =>
        simp at hj; subst hj
        show World.cell? _ ⟨W.heap.size, 0, none⟩ = _
        unfold World.cell?
        rw [hn]; rfl
      | 1, hj =>
        simp at hj; subst hj
        show World.cell? _ ⟨W.heap.size, 1, none⟩ = _
        unfold World.cell?
        rw [hn]; rfl
      | 2, hj =>
        simp at hj; subst hj
        show World.cell? _ ⟨W.heap.size, 2, none⟩ = _
        unfold World.cell?
        rw [hn]; rfl
      | j + 3, hj => simp at hj
    gi_wp2_with (first
      | (gi_at_builtin; refine wpListIn_append_own _ rfl _ _ 28 rfl w.heap.size 198 i0 (.agg #[.string ⟨#[]⟩, .int .i64 0, .string ⟨#[]⟩]) 3 40 Tryz.underlying28 hi hz0 hz1 hz2 rfl (by decide) _ _ _ rfl (hrow.alloc _) ⟨W.heap.size, 0, none⟩ 1 1 [.string ⟨x.src.toArray⟩, .int .i64 x.pc, .string ⟨x.dst.toArray⟩] rfl rfl hcn (by simp [Value.oneCell']) (by omega) (by omega) (by have := hbel.size; simp; omega) ?_; intro v' w3 hown' hg3 hnil3
         obtain ⟨g', cap', cur', rfl, hbase', hgb', hr1, hr2, hr3, hr4⟩ : ∃ g' cap' cur', v' = .slice (some ⟨g', 0, none⟩) (pre.length + 1) cap' ∧ w.heap.size ≤ g' ∧ w3.heap[g']? = some (.cells cur' 198 (0, 0)) ∧ pre.length + 1 ≤ cap' ∧ cap' ≤ maxLen ∧ cur'.size = cap' * 3 ∧ cur'.toList.take ((pre.length + 1) * 3) = pre.flatMap EV.cells ++ [.string ⟨x.src.toArray⟩, .int .i64 x.pc, .string ⟨x.dst.toArray⟩] := by
           rcases hown'.2 with ⟨_, h0⟩ | h'
           · exact absurd h0 (by omega)
           · exact h'
         have hv2 : Boxed (W.alloc (.cells #[.string ⟨x.src.toArray⟩, .int .i64 x.pc, .string ⟨x.dst.toArray⟩] 198)) w.heap.size 28 v := hv.alloc _
         have hvne : some w.heap.size ≠ v.ownBlock := fun e => by
           rcases hrow.2 with ⟨rfl, _⟩ | ⟨g, cap, cur, rfl, hgB, hgb, _⟩
           · simp [Value.ownBlock] at e
           · have : w.heap.size = g := by simpa [Value.ownBlock] using e
             subst this
             have hv' : W.heap[w.heap.size]? = some (.cells #[_] 28 (0, 0)) := hv
             rw [hgb] at hv'; cases hv'
         have hv3 := hv2.kept hg3 hvne
         have hc3 := hv3.cell
         have hf3 := hv3.frozen
         go_frame)
      | gi_round_op_a)
    have hrc : ∀ (j : Nat) (o : Obj), v.ownBlock = some j → (W.alloc (.cells #[.string ⟨x.src.toArray⟩, .int .i64 x.pc, .string ⟨x.dst.toArray⟩] 198)).heap[j]? = some o → o.isCells = true := by
      intro j o hj ho
      rcases hrow.2 with ⟨rfl, _⟩ | ⟨g, cap, cur, rfl, hgB, hgb, _⟩
      · simp [Value.ownBlock] at hj
      · have : g = j := by simpa [Value.ownBlock] using hj
        subst this
        rw [Below.heap_alloc _ _ _ (Array.getElem?_eq_some_iff.1 hgb).1, hgb] at ho
        cases ho; rfl
    have hko := (KeepsOthers.alloc W (.cells #[.string ⟨x.src.toArray⟩, .int .i64 x.pc, .string ⟨x.dst.toArray⟩] 198)).trans ((KeepsOthers.of_grownBy hg3 hrc).trans (KeepsOthers.setCell w3 ⟨w.heap.size, 0, none⟩ (.slice (some ⟨g', 0, none⟩) (pre.length + 1) cap')))
    have hb3 : Below w.heap.size w w3 := (hbel.alloc hbel.size _).grown hg3 (by have := hbel.size; simp; omega) (fun k e => (hrow.lt k e).1)
    have hg4 : w3.grownBy (w3.setCell ⟨w.heap.size, 0, none⟩ (.slice (some ⟨g', 0, none⟩) (pre.length + 1) cap')) (some w.heap.size) := grownBy_setCell0_a _ _ _
    have hne4 : (Value.slice (some ⟨g', 0, none⟩) (pre.length + 1) cap').ownBlock = none ∨ (Value.slice (some ⟨g', 0, none⟩) (pre.length + 1) cap').ownBlock ≠ some w.heap.size := by
      refine .inr fun e => ?_
      have : g' = w.heap.size := by simpa [Value.ownBlock] using e
      subst this
      have hv' : w3.heap[w.heap.size]? = some (.cells #[_] 28 (0, 0)) := hv3
      rw [hgb'] at hv'; cases hv'
    refine ⟨hko, hko.walks, _, hv3.set _, ?_, by simp, hb3.grown hg4 hb3.size (fun k e => by cases e; exact Nat.le_refl _)⟩
    have := hown'.kept hg4 hne4
    rw [List.flatMap_append, List.length_append]
    simpa [EV.cells, encStr] using this
  case done =>
    rintro D xs W hD hS ⟨v, hv, hrow, hnil, hbel⟩ hK
    have hcell := hv.cell
    gi_wp2
    refine ⟨by simp, .inl ⟨_, _, rfl, run_takeDeferred hK, ?_⟩⟩
    have hneD : v.ownBlock = none ∨ v.ownBlock ≠ some D := by
      rcases hrow.2 with ⟨rfl, _⟩ | ⟨g, cap, cur, rfl, hgB, hgb, _⟩
      · exact .inl rfl
      · refine .inr fun e => ?_
        have : g = D := by simpa [Value.ownBlock] using e
        subst this
        rw [hgb] at hK; cases hK
    exact ⟨_, results_tmp rfl _ _ _, v, xs, rfl, hS, hrow.kept (grownBy_putObj' W D _) hneD, hnil, hbel.grown (grownBy_putObj' W D _) hbel.size (fun r e => by cases e; omega)⟩
  case stop =>
    rintro D c pre W _ _ h _
    exact h.elim
end Go.Proofs
end
section
/- slices.Collect, slices.SortedFunc of a map's edges: the walks. -/
namespace Go.Proofs
open Go.RowKit Go.Maps Go.Sort
set_option maxRecDepth 100000 in
set_option maxHeartbeats 1000000 in
theorem Tryz.colE (F : Fence) (n : Nat) (hC : F.fn 186) (hA : F.fn 221) (hro : F.round = none) (hn : 3 ≤ n) (k : Nat) (lb : Array Value) (hk : F.fn k) (ek : ∀ args w, (callFunc k args).run Tryz.prog w = .ok (.enter k args) w) (S Sp : List EV → Prop) (N : Nat) (hN : N ≤ maxLen) (hNb : N * 40 ≤ 140737488355328) (w : World)
    (hseq : SeqStopsK F (n - 1 - 1) Tryz.prog k lb (fun x => #[encE x]) KeepsWalks S Sp N w) :
    CallsIn F n Tryz.prog 186 #[.func (.func k) #[] lb] w fun e w' => ∃ v xs, e = .returned v ∧ S xs ∧ w'.ownsRow w.heap.size 198 3 v xs.length (xs.flatMap EV.cells) ∧ (v = .slice none 0 0 ↔ xs = []) ∧ Below w.heap.size w w' := by
  have h1 : 1 ≤ n := by omega
  refine callsIn_of_wp Tryz.func186 rfl hC ?_ hro
  simp only [Tryz.ntmps186, List.size_toArray, List.length_cons, List.length_nil, Nat.reduceAdd, Nat.reduceSub, Array.replicate_succ, Array.replicate_zero, List.push_toArray, List.append_toArray, List.nil_append, List.cons_append]
  gi_wp2_with (gi_at_call 221; refine (Tryz.appE F (n - 1) hA hro (by omega) k lb hk ek S Sp N hN hNb _ hseq).mono ?_; rintro e w' ⟨v, xs, rfl, hS, hrow, hnil, hb⟩)
  go_ret
  exact ⟨v, xs, rfl, hS, hrow, hnil, hb⟩
set_option maxRecDepth 100000 in
set_option maxHeartbeats 1000000 in
theorem Tryz.sfE (lb : Array Value) (S Sp : List EV → Prop) (N : Nat) (hN : N ≤ maxLen) (hNb : N * 40 ≤ 140737488355328) (w : World)
    (hseq : SeqStopsK Fence.wide 2 Tryz.prog 188 lb (fun x => #[encE x]) KeepsWalks S Sp N w) (Q : Value → List EV → World → Prop)
    (hsort : ∀ w1 v xs, S xs → w1.ownsRow w.heap.size 198 3 v xs.length (xs.flatMap EV.cells) → (v = .slice none 0 0 ↔ xs = []) → Below w.heap.size w w1 →
      Calls Tryz.prog 187 #[v, .func (.func 129) #[] #[]] w1 fun e w2 => (∃ r, e = .returned r) ∧ Q v xs w2) :
    Calls Tryz.prog 127 #[.func (.func 188) #[] lb, .func (.func 129) #[] #[]] w fun e w' => ∃ v xs, e = .returned v ∧ S xs ∧ Q v xs w' := by
  refine callsIn_wide.1 (show CallsIn Fence.wide 5 Tryz.prog _ _ _ _ from ?_)
  have f1 : Fence.wide.fn 186 := trivial
  have f2 : Fence.wide.fn 187 := trivial
  refine callsIn_of_wp Tryz.func127 rfl trivial ?_ rfl
  simp only [Tryz.ntmps127, List.size_toArray, List.length_cons, List.length_nil, Nat.reduceAdd, Nat.reduceSub, Array.replicate_succ, Array.replicate_zero, List.push_toArray, List.append_toArray, List.nil_append, List.cons_append]
  gi_wp2_with (first
    | (gi_at_call 186; refine (Tryz.colE Fence.wide 4 trivial trivial rfl (by omega) 188 lb trivial (enters_of Tryz.func188 (by kernel_rfl) rfl) S Sp N hN hNb _ hseq).mono ?_; rintro e w1 ⟨v, xs, rfl, hS, hrow, hnil, hb1⟩)
    | (gi_at_call 187; refine (callsIn_wide.2 (hsort _ _ _ hS hrow hnil hb1)).mono ?_; rintro e w2 ⟨⟨r, rfl⟩, hQ⟩))
  go_ret
  exact ⟨v, xs, rfl, hS, hQ⟩
end Go.Proofs
end
