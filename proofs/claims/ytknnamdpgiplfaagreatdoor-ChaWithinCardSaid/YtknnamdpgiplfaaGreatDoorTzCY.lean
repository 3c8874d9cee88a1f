/- ChaWithin answers true whatever it is given: the walk, the row. -/
import Derived.Test.YtknnamdpgiplfaaGreatDoorTzG2
import Derived.Test.YtknnamdpgiplfaaGreatDoorSh21
import Derived.Test.YtknnamdpgiplfaaGreatDoorTie
import Derived.Test.YtknnamdpgiplfaaGreatDoorCards
import Derived.LaidMore
import Derived.Lay
import Derived.OpenShut
import Derived.SevenTiedAt
import Derived.Stop.Joined
import Derived.Carry
import Derived.Lib.LaidTab
set_option linter.unusedVariables false
set_option linter.unusedSimpArgs false
set_option linter.unusedSectionVars false
namespace Go.Proofs.YtknnamdpgiplfaaGreatDoor
open Go.Sh Go.ChangeShapes Go.WideShapes Go.ChangeAt Go.RowKit Go.Shelf
set_option maxRecDepth 100000
attribute [local instance] powHeld
theorem Tryz.own : ownKnob Tryz.prog.godebug = none := by kernel_rfl
theorem Tryz.laidOut : laidOutB Tryz.prog = true := by kernel_rfl
abbrev laid1 : List (String × DataW Unit) := Rows.chaWithinRow.laid
theorem Tryz.edge {Hd : Type} {g : Nat → Option SObj} (d : DataW Hd) (cs : List SV) (r : Rep Tryz.prog g 35 d cs) : ∃ e : Edg, True ∧ cs = e.cells := by
  obtain ⟨hl, hf⟩ := Rep.fields Tryz.underlying35 d cs r
  have hn : cs.length = 3 := hl.trans (by kernel_rfl)
  obtain ⟨d0, r0⟩ := hf 0 _ rfl
  obtain ⟨d1, r1⟩ := hf 1 _ rfl
  obtain ⟨d2, r2⟩ := hf 2 _ rfl
  obtain ⟨a, _, e0⟩ := Rep.oneStr Tryz.underlying9 _ _ r0
  obtain ⟨b, _, e1⟩ := Rep.oneInt Tryz.underlying3 _ _ r1
  obtain ⟨c, _, e2⟩ := Rep.oneStr Tryz.underlying9 _ _ r2
  match cs, hn with
  | [x, y, z], _ =>
    have e0 : [x] = [SV.str a] := e0
    have e1 : [y] = [SV.int .i64 b] := e1
    have e2 : [z] = [SV.str c] := e2
    refine ⟨⟨a, b, c⟩, trivial, ?_⟩
    cases e0; cases e1; cases e2; rfl
theorem str_flat : ∀ l : List (List UInt8), l.flatMap (fun z => [SV.str z]) = strs l
  | [] => rfl
  | x :: l => by rw [List.flatMap_cons, str_flat l]; rfl
theorem Tryz.graph {Hd : Type} {h : H} {d : DataW Hd} {cs : List SV} (r : Rep Tryz.prog h.get 25 d cs) : ∃ E R, Gra h cs E R := by
  obtain ⟨hl, hf⟩ := Rep.fields Tryz.underlying25 d cs r
  have hn : cs.length = 2 := hl.trans (by kernel_rfl)
  obtain ⟨d0, r0⟩ := hf 0 _ rfl
  obtain ⟨d1, r1⟩ := hf 1 _ rfl
  match cs, hn with
  | [x, y], _ =>
    have r0 : Rep Tryz.prog h.get 22 d0 [x] := r0
    have r1 : Rep Tryz.prog h.get 23 d1 [y] := r1
    obtain ⟨E, k1, _⟩ := Rep.rows (es := 3) (f := Edg.cells) (ok := fun _ => True) Tryz.underlying22 (by kernel_rfl) (fun d cs r => Tryz.edge d cs r) r0
    obtain ⟨R, q1, _⟩ := Rep.rows (es := 1) (f := fun z => [SV.str z]) (ok := fun z => z.length ≤ maxLen) Tryz.underlying23 (by kernel_rfl) (fun d cs r => Rep.oneStr Tryz.underlying9 d cs r) r1
    rw [str_flat] at q1
    exact ⟨E, R, ⟨⟨x, y, rfl, k1, q1⟩⟩⟩
theorem argIs_struct {P : Program} {cs : List SV} {x : SV} {t : TypeId} {fs : Array Field} (hu : P.underlying t = some (.struct fs)) (a : ArgIs P t cs x) : x = .agg cs := by
  unfold ArgIs at a; rw [hu] at a; exact a
theorem argsRep_len {Hd : Type} {P : Program} {g : Nat → Option SObj} : ∀ {ts : List TypeId} {ds : List (DataW Hd)} {xs : List SV}, ArgsRep P g ts ds xs → ds.length = ts.length
  | [], [], [], _ => rfl
  | _ :: _, _ :: _, _ :: _, h => congrArg Nat.succ (argsRep_len h.2)
theorem Tryz.walk3 {Hd : Type} {enc : TypeId × Value → Hd} {W : World} {args : Array Value} {ds : List (DataW Hd)} {ps : List MemPlace} {b : Nat} (hT : HeldAt W.heap.size W) (hA : DataW.TrodAll enc Tryz.prog W 0 (fun _ => true) true [25, 25] args.toList ds ps) (hval : ∀ (j : Nat) t v, ([25, 25] : List TypeId)[j]? = some t → args.toList[j]? = some v → Value.okWide Tryz.prog W .any b t v) :
    ds.length = 2 ∧ Calls Tryz.prog 3 args W fun en w' => en = .returned (.bool true) ∧ Below W.heap.size W w' := by
  obtain ⟨ι, h, xs, s1, _, l1, r1⟩ := args_outer (n := 8) [25, 25] args.toList ds ps none0 H.empty (fun t ht => by simp at ht; subst ht; kernel_rfl) hA hval (outer_empty hT)
  refine ⟨argsRep_len r1, ?_⟩
  obtain ⟨c, hc⟩ : ∃ c, Tryz.f3.body = some c := Option.isSome_iff_exists.1 (by kernel_rfl)
  obtain ⟨d1, _, x1, _, cs1, rfl, rfl, k1, i1, r1⟩ := argsRep_cons r1
  obtain ⟨d2, _, x2, _, cs2, rfl, rfl, k2, i2, r1⟩ := argsRep_cons r1
  obtain ⟨rfl, rfl⟩ := argsRep_nil r1
  obtain rfl := argIs_struct Tryz.underlying25 i1
  obtain rfl := argIs_struct Tryz.underlying25 i2
  obtain ⟨E, R, A⟩ := Tryz.graph k1
  obtain ⟨F, Q, B⟩ := Tryz.graph k2
  obtain ⟨r, h', k7, rfl⟩ := Tryz.law3 A B
  refine (outer_lim Tryz.good Tryz.X2_ok k7 s1 l1 Tryz.func3 hc).mono fun en w' ⟨v', ι', e1, e2, e3⟩ => ?_
  simp only [VRel] at e2
  subst e2
  exact ⟨e1, e3⟩
theorem law_lifted (os : Os) (started : os.Started) (H : Type) (enc : TypeId × Value → H) :
    ReturnsInHanded {} Tryz.checked os 3 .any (fun w args => (Rows.chaWithinSpec.pre enc Tryz.prog Tryz.f3 [] false w args ∧ laidMetH Tryz.prog laid1 w) ∧ sizedMet enc Tryz.prog Tryz.f3 (OpenSpec.ofChange Rows.chaWithinSpec) false w args)
      (Rows.chaWithinSpec.post enc Tryz.prog Tryz.f3 false true false false) := by
  refine returnsInHanded_of_change_and (C := Tryz.checked) (X := fun w _ => laidMetH Tryz.prog laid1 w) (fun _ _ _ hh h => h.of_heap hh) Tryz.own started (by kernel_rfl) Tryz.func3
    (ChangeSpec.witness_shaped (enc := enc) (C := Tryz.checked) (os := os) (X := fun w _ => laidMetH Tryz.prog laid1 w) false (World.laidAll Tryz.prog os laid1)
      #[.agg #[.slice none 0 0, .slice none 0 0], .agg #[.slice none 0 0, .slice none 0 0]] 8 (World.laidAll_os _ _ _)
      (World.shaped_of_ZipB (by kernel_rfl) (by kernel_rfl)) (by kernel_rfl) (by kernel_rfl) (by kernel_rfl)
      (by rw [MakeChecks.laidMetH_plain _ _ _ (by kernel_rfl)]; exact laidMet_laidAll _ (by kernel_rfl) (by kernel_rfl))) ?_
  intro W base args ds gs before hval0 hW hcnd _ hL _
  have hval : ∀ (j : Nat) t v, Tryz.f3.params[j]? = some t → args[j]? = some v → Value.okWide Tryz.prog W .any base t v := hval0
  have hW' := hW
  obtain ⟨p, q, hA0, hV, rfl, hfz, hnd⟩ := hW
  have hA : DataW.TrodAll enc Tryz.prog W 0 (fun _ => true) true Tryz.f3.params.toList args.toList ds p := hA0
  rw [Tryz.params3] at hA hval
  obtain ⟨hlen, hrun⟩ := Tryz.walk3 (heldNone_at _ W) hA (fun j t v e1 e2 => hval j t v (by simpa using e1) (by simpa using e2))
  refine hrun.mono fun e W' ⟨he, hw⟩ => ?_
  subst he
  refine ⟨_, rfl, law_post Tryz.laidOut Tryz.underlying4 (by kernel_rfl) ?_ hW' rfl ?_ hw⟩
  · intro t ht
    rw [Tryz.params3] at ht
    simp at ht
    subst ht
    exact ⟨by kernel_rfl, of_decide_eq_true (by kernel_rfl)⟩
  · match ds, hlen with
    | [d0, d1], _ => rfl
end Go.Proofs.YtknnamdpgiplfaaGreatDoor
