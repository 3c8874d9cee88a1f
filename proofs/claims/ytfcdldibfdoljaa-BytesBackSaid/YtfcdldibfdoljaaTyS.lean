/- Whatever is written stands as the document says, one behind the other; what can't be written spoils the writer: whatever the items. -/
import Derived.Test.YtfcdldibfdoljaaTyR
import Derived.Test.YtfcdldibfdoljaaRows
import Derived.ProofKit
set_option linter.unusedVariables false
set_option linter.unusedSimpArgs false
set_option linter.unusedSectionVars false
namespace Go.Proofs.Ytfcdldibfdoljaa
open Go.Sh Go.ChangeShapes Go.WideShapes Go.ChangeAt Go.RowKit
set_option maxRecDepth 100000
attribute [local instance] heldNone
theorem Try.own : ownKnob Try.prog.godebug = none := by kernel_rfl
theorem Try.laidOut : laidOutB Try.prog = true := by kernel_rfl
theorem Try.item {Hd : Type} {g : Nat → Option SObj} (d : DataW Hd) (cs : List SV) (r : Rep Try.prog g 31 d cs) : ∃ x : It, True ∧ cs = x.cells := by
  have c1 : Try.prog.cellsOf 3 = 1 := by kernel_rfl
  have c2 : Try.prog.cellsOf 9 = 1 := by kernel_rfl
  have c3 : Try.prog.cellsOf 31 = 3 := by kernel_rfl
  obtain ⟨hl, hf⟩ := Rep.fields Try.underlying31 d cs r
  rw [c3] at hl
  obtain ⟨d0, r0⟩ := hf 0 _ rfl
  obtain ⟨d1, r1⟩ := hf 1 _ rfl
  obtain ⟨d2, r2⟩ := hf 2 _ rfl
  have r0 : Rep Try.prog g 3 d0 ((cs.drop 0).take (Try.prog.cellsOf 3)) := r0
  have r1 : Rep Try.prog g 3 d1 ((cs.drop 1).take (Try.prog.cellsOf 3)) := r1
  have r2 : Rep Try.prog g 9 d2 ((cs.drop 2).take (Try.prog.cellsOf 9)) := r2
  rw [c1] at r0 r1
  rw [c2] at r2
  obtain ⟨z0, _, e0⟩ := Rep.oneInt Try.underlying3 _ _ r0
  obtain ⟨z1, _, e1⟩ := Rep.oneInt Try.underlying3 _ _ r1
  obtain ⟨s2, _, e2⟩ := Rep.oneStr Try.underlying9 _ _ r2
  match cs, hl with
  | [a, b, c], _ =>
    simp at e0 e1 e2
    subst e0 e1 e2
    exact ⟨⟨z0, z1, s2⟩, trivial, rfl⟩
theorem itCells_flat : ∀ l : List It, l.flatMap It.cells = itCells l
  | [] => rfl
  | x :: l => by rw [List.flatMap_cons, itCells_flat l]; rfl
theorem Try.items {Hd : Type} {h : H} {d : DataW Hd} {x : SV} (r : Rep Try.prog h.get 22 d [x]) : ∃ its : List It, View h 3 x its.length (itCells its) ∧ (∀ q, isRow x q → q < h.next) := by
  obtain ⟨l, k1, _, _, k2⟩ := Rep.rows (es := 3) (f := It.cells) (ok := fun _ => True) Try.underlying22 (by kernel_rfl) (fun d cs r => Try.item d cs r) r
  exact ⟨l, by rw [← itCells_flat]; exact k1, k2⟩
theorem Try.walk3 {Hd : Type} {enc : TypeId × Value → Hd} {W : World} {args : Array Value} {ds : List (DataW Hd)} {ps : List MemPlace} {b : Nat} (hA : DataW.TrodAll enc Try.prog W 0 (fun _ => true) true [22] args.toList ds ps) (hval : ∀ (j : Nat) t v, ([22] : List TypeId)[j]? = some t → args.toList[j]? = some v → Value.okWide Try.prog W .any b t v) :
    Calls Try.prog 3 args W fun en w' => en = .returned (.bool true) ∧ Below W.heap.size W w' := by
  obtain ⟨ι, h, xs, s1, _, l1, r1⟩ := args_outer (n := 8) [22] args.toList ds ps none0 H.empty (fun t ht => by simp at ht; subst ht; kernel_rfl) hA hval (outer_empty (heldNone_at _ W))
  obtain ⟨c, hc⟩ : ∃ c, Try.f3.body = some c := Option.isSome_iff_exists.1 (by kernel_rfl)
  obtain ⟨d, ds', x, xs', cs, rfl, rfl, k1, k2, r2⟩ := argsRep_cons r1
  obtain ⟨rfl, rfl⟩ := argsRep_nil r2
  rw [argIs_slice Try.underlying22 k2] at k1
  obtain ⟨its, w, hold⟩ := Try.items k1
  obtain ⟨v, h', k3, rfl⟩ := Try.writes w hold
  refine (outer_lim Try.good Try.X_ok k3 s1 l1 Try.func3 hc).mono fun en w' ⟨v', ι', e1, e2, e3⟩ => ?_
  simp only [VRel] at e2
  subst e2
  exact ⟨e1, e3⟩
theorem writes_lifted (os : Os) (started : os.Started) (H : Type) (enc : TypeId × Value → H) :
    ReturnsInHanded {} Try.checked os 3 .any (Rows.bytesWritesSpec.pre6 enc Try.prog Try.f3 Rows.bytesWritesRow.domain false) (Rows.bytesWritesSpec.post enc Try.prog Try.f3 false true false false) := by
  refine returnsInHanded_of_change (C := Try.checked) Try.own started (by kernel_rfl) Try.func3
    (ChangeSpec.witness6 (enc := enc) (C := Try.checked) false ⟨#[], #[.slice none 0 0], []⟩ 8 (by kernel_rfl) (by kernel_rfl) (by kernel_rfl) (by kernel_rfl)) ?_
  intro W base args ds gs before hval0 hW hcnd _
  have hval : ∀ (j : Nat) t v, Try.f3.params[j]? = some t → args[j]? = some v → Value.okWide Try.prog W .any base t v := hval0
  have hW' := hW
  obtain ⟨p, q, hA0, hV, rfl, hfz, hnd⟩ := hW
  have hA : DataW.TrodAll enc Try.prog W 0 (fun _ => true) true Try.f3.params.toList args.toList ds p := hA0
  rw [Try.params3] at hA hval
  refine (Try.walk3 hA (fun j t v e1 e2 => hval j t v (by simpa using e1) (by simpa using e2))).mono fun e W' ⟨he, hw⟩ => ?_
  subst he
  refine ⟨_, rfl, law_post Try.laidOut Try.underlying4 (by kernel_rfl) ?_ hW' rfl ?_ hw⟩
  · intro t ht
    rw [Try.params3] at ht
    simp at ht; subst ht
    exact ⟨by kernel_rfl, of_decide_eq_true (by kernel_rfl)⟩
  · obtain ⟨v0, d0, _, rfl, _⟩ := trodAll_one hA
    rfl
theorem writes_holds : Rows.BytesWritesSaid :=
  OpenClaim.holds_of_wide 3 Try.f3 rfl rfl rfl rfl rfl rfl rfl ⟨rfl, rfl, rfl, rfl, rfl⟩ rfl rfl rfl rfl rfl (by kernel_rfl) Try.func3 (by kernel_rfl)
    (of_decide_eq_true (by kernel_rfl)) (by unfold Func.isWrapper; first | (rw [if_pos (by decide +kernel)]; kernel_rfl) | (rw [if_neg (by decide +kernel)]; exact ⟨rfl, rfl⟩))
    (fun os started H enc _ => writes_lifted os started H enc)
#print axioms writes_holds
end Go.Proofs.Ytfcdldibfdoljaa
