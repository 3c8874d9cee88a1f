/- Sorting what an iterator over nothing gives. -/
import Derived.RangeFuncFrom
import Derived.RangeFuncBox
import Derived.RangeFuncKeeps
import Derived.RangeFuncLeaves
import Derived.Shelf.SlIter.Nil
import Derived.WalkKit
import Derived.OwnWalkIn
import Derived.TacticsInMore
import Derived.LoopNIn
import Derived.LoopIn
import Derived.Laws.IdiomRangeMap
import Derived.Test.YtpjpiigachahkaaGreatDoorChecked
set_option linter.unusedVariables false
set_option linter.unusedSimpArgs false
set_option linter.unusedSectionVars false
namespace Go.Proofs
open Go.RowKit Go.Maps Go.Sort
set_option maxRecDepth 100000 in
set_option maxHeartbeats 1000000 in
theorem Tryz.seqE_224 (F:Fence) (n:Nat) (hF:F.fn 224) (hro:F.round=none) (Bm:Nat) (mb:Option Nat) (w:World) (hBm:Bm < w.heap.size) (hc:w.cell? ⟨Bm,0,none⟩=some (.map mb)) (he:∀ b,mb=some b→∃ c,w.heap[b]?=some (.map #[] c)) (Kp:World→World→Prop) :
  SeqStopsK F n Tryz.prog 224 #[.pointer (some ⟨Bm,0,none⟩)] (λ _:Empty=>#[undef]) Kp (λ _=>True) (λ _=>False) 0 w:=by
 intro l J Jx W hW hJ _ _ h0
 have hc':W.cell? ⟨Bm,0,none⟩=some (.map mb):=(hW.cell (p:=⟨Bm,0,none⟩) hBm).trans hc
 refine callsIn_of_wp Tryz.func224 rfl hF ?_ hro
 simp only [Tryz.ntmps224,List.size_toArray,List.length_cons,List.length_nil,Nat.reduceAdd,Nat.reduceSub,Array.replicate_succ,Array.replicate_zero,List.push_toArray,List.append_toArray,List.nil_append,List.cons_append]
 cases mb with
 | none=>
  have hrg:=run_range_nilMap (P:=Tryz.prog) W 83 91 3 Tryz.underlying83
  have hnx:∀ ty,(Instr.next (.pointer (some ⟨W.heap.size,0,none⟩)) false ty).run Tryz.prog (W.alloc (.mapIter none 0 #[] 0))=_:=λ ty=>run_next_nilMap _ ty 0 0 #[]
  gi_wp2
  refine wpIn_loop_rounds 1 ?_
  rw [roundsIn_succ]
  gi_wp2
  go_end0
  exact ⟨⟨_,rfl⟩,.inl ⟨[],trivial,hJ [] W _ none h0 (World.grownBy_alloc W _ none) (λ r e=>by cases e)⟩⟩
 | some b=>
  obtain ⟨c,hb⟩:=he b rfl
  have hbl:b < w.heap.size:=(Array.getElem?_eq_some_iff.1 hb).1
  have hb':W.heap[b]?=some (.map #[] c):=(hW.block b hbl).trans hb
  have hrg:=run_range_map (P:=Tryz.prog) W 83 91 3 b #[] c Tryz.underlying83 hb'
  have hnx:∀ ty,(Instr.next (.pointer (some ⟨W.heap.size,0,none⟩)) false ty).run Tryz.prog (W.alloc (.mapIter (some b) c #[] c))=.ok (.tuple #[.bool false]) (W.alloc (.mapIter (some b) c #[] c)):=λ ty=>by
   rcases run_next_map (P:=Tryz.prog) W ty b c c #[] #[] c hb' (by simp) (Nat.le_refl _) with ⟨_,h⟩ | ⟨e,he,_⟩
   ·exact h
   ·simp [leftOf] at he
  gi_wp2
  refine wpIn_loop_rounds 1 ?_
  rw [roundsIn_succ]
  gi_wp2
  go_end0
  exact ⟨⟨_,rfl⟩,.inl ⟨[],trivial,hJ [] W _ none h0 (World.grownBy_alloc W _ none) (λ r e=>by cases e)⟩⟩
set_option maxRecDepth 100000 in
set_option maxHeartbeats 2000000 in
theorem Tryz.apE_267 (F:Fence) (n:Nat) (hA:F.fn 267) (hro:F.round=none) (hn:2≤n) (k:Nat) (hk:F.fn k) (ek:∀ args w,(callFunc k args).run Tryz.prog w=.ok (.enter k args) w) (Bm:Nat) (w:World)
  (hseq:SeqStopsK F (n - 1) Tryz.prog k #[.pointer (some ⟨Bm,0,none⟩)] (λ _:Empty=>#[undef]) (λ _ _=>True) (λ _=>True) (λ _=>False) 0 w) :
  CallsIn F n Tryz.prog 267 #[.slice none 0 0,.func (.func k) #[] #[.pointer (some ⟨Bm,0,none⟩)]] w λ e w'=>e=.returned (.slice none 0 0)∧Below w.heap.size w w':=by
 have h1:1≤n:=by omega
 refine callsIn_of_wp_marks Tryz.func267 rfl hA ?_ hro
 simp only [Tryz.ntmps267,List.size_toArray,List.length_cons,List.length_nil,Nat.reduceAdd,Nat.reduceSub,Array.replicate_succ,Array.replicate_zero,List.push_toArray,List.append_toArray,List.nil_append,List.cons_append]
 gi_wp2
 have hbx:=Boxed.new w 23 (.slice none 0 0)
 have hb0:Below w.heap.size w (w.alloc (.cells #[.slice none 0 0] 23)):=(Below.refl _ w).alloc (Nat.le_refl _) _
 have hs0:(w.alloc (.cells #[.slice none 0 0] 23)).heap.size=w.heap.size+1:=World.size_alloc _ _
 refine wpIn_rangeFunc_ownF (α:=Empty) hro h1 (gf:=k) (lb:=#[.pointer (some ⟨Bm,0,none⟩)]) rfl hk ek hseq (λ _ _=>trivial) (λ _ _ _ _ _ _ _ _=>trivial) hb0 (λ x=>x.elim)
  (λ _ W=>Boxed W w.heap.size 23 (.slice none 0 0)∧Below w.heap.size w W) (λ _ _ _=>False)
  (λ s A B row hs hg hr=>⟨hs.1.kept hg (λ e=>by have:=(hr _ e.symm).1;omega),hs.2.grown hg hs.2.size (λ r e=>by have:=(hr r e).1;omega)⟩)
  (λ _ _ _ _ _ hs _ _=>hs) ⟨hbx,hb0⟩ (λ x=>x.elim) (λ _ x=>x.elim) (λ _ _ x=>x.elim) ?done ?stop
 case done=>
  rintro D xs W hD _ ⟨hb,hbel⟩ hK
  have hcell:=hb.cell
  gi_wp2
  refine ⟨by simp,.inl ⟨_,_,rfl,run_takeDeferred hK,?_⟩⟩
  exact ⟨_,results_tmp rfl _ _ _,rfl,hbel.grown (grownBy_putObj' W D _) hbel.size (λ r e=>by cases e;omega)⟩
 case stop=>
  rintro D c pre W _ h _ _
  exact h.elim
set_option maxHeartbeats 1000000 in
theorem Tryz.coE_222 (F:Fence) (n:Nat) (hC:F.fn 222) (hA:F.fn 267) (hro:F.round=none) (hn:3≤n) (k:Nat) (hk:F.fn k) (ek:∀ args w,(callFunc k args).run Tryz.prog w=.ok (.enter k args) w) (Bm:Nat) (w:World)
  (hseq:∀ w',Below w.heap.size w w'→SeqStopsK F (n - 1 - 1) Tryz.prog k #[.pointer (some ⟨Bm,0,none⟩)] (λ _:Empty=>#[undef]) (λ _ _=>True) (λ _=>True) (λ _=>False) 0 w') :
  CallsIn F n Tryz.prog 222 #[.func (.func k) #[] #[.pointer (some ⟨Bm,0,none⟩)]] w λ e w'=>e=.returned (.slice none 0 0)∧Below w.heap.size w w':=by
 have h1:1≤n:=by omega
 refine callsIn_of_wp Tryz.func222 rfl hC ?_ hro
 simp only [Tryz.ntmps222,List.size_toArray,List.length_cons,List.length_nil,Nat.reduceAdd,Nat.reduceSub,Array.replicate_succ,Array.replicate_zero,List.push_toArray,List.append_toArray,List.nil_append,List.cons_append]
 gi_wp2_with (gi_at_call 267;refine (Tryz.apE_267 F (n - 1) hA hro (by omega) k hk ek Bm _ (hseq _ (Below.refl _ _))).mono ?_;rintro e w' ⟨rfl,hb⟩)
 go_ret
 exact ⟨rfl,hb⟩
set_option maxHeartbeats 1000000 in
theorem Tryz.soE_154_156 (k:Nat) (ek:∀ args w,(callFunc k args).run Tryz.prog w=.ok (.enter k args) w) (Bm:Nat) (w:World)
  (hseq:∀ w',Below w.heap.size w w'→SeqStopsK Fence.wide 2 Tryz.prog k #[.pointer (some ⟨Bm,0,none⟩)] (λ _:Empty=>#[undef]) (λ _ _=>True) (λ _=>True) (λ _=>False) 0 w')
  (hsort:∀ w',Below w.heap.size w w'→Calls Tryz.prog 223 #[.slice none 0 0,.func (.func 156) #[] #[]] w' λ e w2=>(∃ v,e=.returned v)∧Below w'.heap.size w' w2) :
  Calls Tryz.prog 154 #[.func (.func k) #[] #[.pointer (some ⟨Bm,0,none⟩)],.func (.func 156) #[] #[]] w λ e w'=>e=.returned (.slice none 0 0)∧Below w.heap.size w w':=by
 refine callsIn_wide.1 (show CallsIn Fence.wide 5 Tryz.prog _ _ _ _ from ?_)
 have f1:Fence.wide.fn 222:=trivial
 have f2:Fence.wide.fn 223:=trivial
 refine callsIn_of_wp Tryz.func154 rfl trivial ?_ rfl
 simp only [Tryz.ntmps154,List.size_toArray,List.length_cons,List.length_nil,Nat.reduceAdd,Nat.reduceSub,Array.replicate_succ,Array.replicate_zero,List.push_toArray,List.append_toArray,List.nil_append,List.cons_append]
 gi_wp2_with (first
  | (gi_at_call 222;refine (Tryz.coE_222 Fence.wide 4 trivial trivial rfl (by omega) k trivial ek Bm _ hseq).mono ?_;rintro e w1 ⟨rfl,hb1⟩)
  | (gi_at_call 223;refine (callsIn_wide.2 (hsort _ hb1)).mono ?_;rintro e w2 ⟨⟨v,rfl⟩,hb2⟩))
 go_ret
 exact ⟨rfl,hb1.trans (hb2.mono hb1.size)⟩
end Go.Proofs
