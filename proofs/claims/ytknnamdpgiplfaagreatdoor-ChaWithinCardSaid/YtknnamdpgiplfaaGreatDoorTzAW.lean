/- Sorting what an iterator over nothing gives. -/
import Derived.RangeFuncFrom
import Derived.RangeFuncBox
import Derived.RangeFuncKeeps
import Derived.RangeFuncLeaves
import Derived.Shelf.SlIter.Nil
import Derived.WalkKit
import Derived.OwnWalkIn
import Derived.TacticsInMore
import Derived.LoopNIn
import Derived.LoopIn
import Derived.Laws.IdiomRangeMap
import Derived.Test.YtknnamdpgiplfaaGreatDoorChecked
set_option linter.unusedVariables false
set_option linter.unusedSimpArgs false
set_option linter.unusedSectionVars false
namespace Go.Proofs
open Go.RowKit Go.Maps Go.Sort
set_option linter.unusedVariables false

set_option maxRecDepth 100000 in
set_option maxHeartbeats 1000000 in
theorem Tryz.seqE_179 (F : Fence) (n : Nat) (hF : F.fn 179) (hro : F.round = none) (Bm : Nat) (w : World) (hBm : Bm < w.heap.size) (hc : w.cell? ⟨Bm, 0, none⟩ = some (.slice none 0 0)) (Kp : World → World → Prop) :
    SeqStopsK F n Tryz.prog 179 #[.pointer (some ⟨Bm, 0, none⟩)] (fun _ : Empty => #[undef]) Kp (fun _ => True) (fun _ => False) 0 w := by
  intro l J Jx W hW hJ _ _ h0
  have hc' : W.cell? ⟨Bm, 0, none⟩ = some (.slice none 0 0) := (hW.cell (p := ⟨Bm, 0, none⟩) hBm).trans hc
  refine callsIn_of_wp Tryz.func179 rfl hF ?_ hro
  simp only [Tryz.ntmps179, List.size_toArray, List.length_cons, List.length_nil, Nat.reduceAdd, Nat.reduceSub, Array.replicate_succ, Array.replicate_zero, List.push_toArray, List.append_toArray, List.nil_append, List.cons_append]
  gi_wp2
  refine wpIn_loop_rounds 1 ?_
  rw [roundsIn_succ]
  gi_wp2
  go_end0
  exact ⟨⟨_, rfl⟩, .inl ⟨[], trivial, h0⟩⟩

set_option maxRecDepth 100000 in
set_option maxHeartbeats 2000000 in
theorem Tryz.apE_200 (F : Fence) (n : Nat) (hA : F.fn 200) (hro : F.round = none) (hn : 2 ≤ n) (k : Nat) (hk : F.fn k) (ek : ∀ args w, (callFunc k args).run Tryz.prog w = .ok (.enter k args) w) (Bm : Nat) (w : World)
    (hseq : SeqStopsK F (n - 1) Tryz.prog k #[.pointer (some ⟨Bm, 0, none⟩)] (fun _ : Empty => #[undef]) (fun _ _ => True) (fun _ => True) (fun _ => False) 0 w) :
    CallsIn F n Tryz.prog 200 #[.slice none 0 0, .func (.func k) #[] #[.pointer (some ⟨Bm, 0, none⟩)]] w fun e w' => e = .returned (.slice none 0 0) ∧ Below w.heap.size w w' := by
  have h1 : 1 ≤ n := by omega
  refine callsIn_of_wp_marks Tryz.func200 rfl hA ?_ hro
  simp only [Tryz.ntmps200, List.size_toArray, List.length_cons, List.length_nil, Nat.reduceAdd, Nat.reduceSub, Array.replicate_succ, Array.replicate_zero, List.push_toArray, List.append_toArray, List.nil_append, List.cons_append]
  gi_wp2
  have hbx := Boxed.new w 22 (.slice none 0 0)
  have hb0 : Below w.heap.size w (w.alloc (.cells #[.slice none 0 0] 22)) := (Below.refl _ w).alloc (Nat.le_refl _) _
  have hs0 : (w.alloc (.cells #[.slice none 0 0] 22)).heap.size = w.heap.size + 1 := World.size_alloc _ _
  refine wpIn_rangeFunc_ownF (α := Empty) hro h1 (gf := k) (lb := #[.pointer (some ⟨Bm, 0, none⟩)]) rfl hk ek hseq (fun _ _ => trivial) (fun _ _ _ _ _ _ _ _ => trivial) hb0 (fun x => x.elim)
    (fun _ W => Boxed W w.heap.size 22 (.slice none 0 0) ∧ Below w.heap.size w W) (fun _ _ _ => False)
    (fun s A B row hs hg hr => ⟨hs.1.kept hg (fun e => by have := (hr _ e.symm).1; omega), hs.2.grown hg hs.2.size (fun r e => by have := (hr r e).1; omega)⟩)
    (fun _ _ _ _ _ hs _ _ => hs) ⟨hbx, hb0⟩ (fun x => x.elim) (fun _ x => x.elim) (fun _ _ x => x.elim) ?done ?stop
  case done =>
    rintro D xs W hD _ ⟨hb, hbel⟩ hK
    have hcell := hb.cell
    gi_wp2
    refine ⟨by simp, .inl ⟨_, _, rfl, run_takeDeferred hK, ?_⟩⟩
    exact ⟨_, results_tmp rfl _ _ _, rfl, hbel.grown (grownBy_putObj' W D _) hbel.size (fun r e => by cases e; omega)⟩
  case stop =>
    rintro D c pre W _ h _ _
    exact h.elim

set_option maxHeartbeats 1000000 in
theorem Tryz.coE_177 (F : Fence) (n : Nat) (hC : F.fn 177) (hA : F.fn 200) (hro : F.round = none) (hn : 3 ≤ n) (k : Nat) (hk : F.fn k) (ek : ∀ args w, (callFunc k args).run Tryz.prog w = .ok (.enter k args) w) (Bm : Nat) (w : World)
    (hseq : ∀ w', Below w.heap.size w w' → SeqStopsK F (n - 1 - 1) Tryz.prog k #[.pointer (some ⟨Bm, 0, none⟩)] (fun _ : Empty => #[undef]) (fun _ _ => True) (fun _ => True) (fun _ => False) 0 w') :
    CallsIn F n Tryz.prog 177 #[.func (.func k) #[] #[.pointer (some ⟨Bm, 0, none⟩)]] w fun e w' => e = .returned (.slice none 0 0) ∧ Below w.heap.size w w' := by
  have h1 : 1 ≤ n := by omega
  refine callsIn_of_wp Tryz.func177 rfl hC ?_ hro
  simp only [Tryz.ntmps177, List.size_toArray, List.length_cons, List.length_nil, Nat.reduceAdd, Nat.reduceSub, Array.replicate_succ, Array.replicate_zero, List.push_toArray, List.append_toArray, List.nil_append, List.cons_append]
  gi_wp2_with (gi_at_call 200; refine (Tryz.apE_200 F (n - 1) hA hro (by omega) k hk ek Bm _ (hseq _ (Below.refl _ _))).mono ?_; rintro e w' ⟨rfl, hb⟩)
  go_ret
  exact ⟨rfl, hb⟩

set_option maxHeartbeats 1000000 in
theorem Tryz.soE_153_155 (k : Nat) (ek : ∀ args w, (callFunc k args).run Tryz.prog w = .ok (.enter k args) w) (Bm : Nat) (w : World)
    (hseq : ∀ w', Below w.heap.size w w' → SeqStopsK Fence.wide 2 Tryz.prog k #[.pointer (some ⟨Bm, 0, none⟩)] (fun _ : Empty => #[undef]) (fun _ _ => True) (fun _ => True) (fun _ => False) 0 w')
    (hsort : ∀ w', Below w.heap.size w w' → Calls Tryz.prog 178 #[.slice none 0 0, .func (.func 155) #[] #[]] w' fun e w2 => (∃ v, e = .returned v) ∧ Below w'.heap.size w' w2) :
    Calls Tryz.prog 153 #[.func (.func k) #[] #[.pointer (some ⟨Bm, 0, none⟩)], .func (.func 155) #[] #[]] w fun e w' => e = .returned (.slice none 0 0) ∧ Below w.heap.size w w' := by
  refine callsIn_wide.1 (show CallsIn Fence.wide 5 Tryz.prog _ _ _ _ from ?_)
  have f1 : Fence.wide.fn 177 := trivial
  have f2 : Fence.wide.fn 178 := trivial
  refine callsIn_of_wp Tryz.func153 rfl trivial ?_ rfl
  simp only [Tryz.ntmps153, List.size_toArray, List.length_cons, List.length_nil, Nat.reduceAdd, Nat.reduceSub, Array.replicate_succ, Array.replicate_zero, List.push_toArray, List.append_toArray, List.nil_append, List.cons_append]
  gi_wp2_with (first
    | (gi_at_call 177; refine (Tryz.coE_177 Fence.wide 4 trivial trivial rfl (by omega) k trivial ek Bm _ hseq).mono ?_; rintro e w1 ⟨rfl, hb1⟩)
    | (gi_at_call 178; refine (callsIn_wide.2 (hsort _ hb1)).mono ?_; rintro e w2 ⟨⟨v, rfl⟩, hb2⟩))
  go_ret
  exact ⟨rfl, hb1.trans (hb2.mono hb1.size)⟩
end Go.Proofs
