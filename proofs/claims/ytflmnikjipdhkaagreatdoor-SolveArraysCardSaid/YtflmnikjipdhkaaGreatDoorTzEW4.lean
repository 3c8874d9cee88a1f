/- SolveArrays answers true whatever it is given: the walk, the row. -/
import Derived.Test.YtflmnikjipdhkaaGreatDoorTzEQ4
import Derived.Test.YtflmnikjipdhkaaGreatDoorSh16
import Derived.Test.YtflmnikjipdhkaaGreatDoorTie
import Derived.Test.YtflmnikjipdhkaaGreatDoorCards
import Derived.LaidMore
import Derived.Lay
import Derived.OpenShut
import Derived.SevenTiedAt
import Derived.Stop.Joined
import Derived.Carry
import Derived.Lib.LaidTab
set_option linter.unusedVariables false
set_option linter.unusedSimpArgs false
set_option linter.unusedSectionVars false
namespace Go.Proofs.YtflmnikjipdhkaaGreatDoor
open Go.Sh Go.ChangeShapes Go.WideShapes Go.ChangeAt Go.RowKit Go.Shelf
set_option maxRecDepth 100000
attribute [local instance] powHeld
theorem Tryz.own : ownKnob Tryz.prog.godebug = none := by kernel_rfl
theorem Tryz.laidOut : laidOutB Tryz.prog = true := by kernel_rfl
abbrev laid1 : List (String × DataW Unit) := Rows.solveArraysRow.laid
theorem tab_held {W : World} (h : laidMetH Tryz.prog laid1 W) : HeldAt W.heap.size W := by
  rw [MakeChecks.laidMetH_plain _ _ _ (by kernel_rfl)] at h
  obtain ⟨ps, ⟨_, _, _, _, _, _, _, _, _, _, ⟨_, _, _, _, _, _, _, _, _, _, ⟨g, t, cs, fuel, p, q, hg, ht, hv, hd, _, _⟩, _⟩, _⟩, _, _⟩ := h
  obtain rfl := Option.some.inj ((show Tryz.prog.globalNamed "internal/strconv.uint64pow10" = some 1 by kernel_rfl).symm.trans hg)
  obtain rfl := Option.some.inj ((show (Tryz.prog.globals[1]?).map (·.type) = some 334 by kernel_rfl).symm.trans ht)
  have e1 : (Rows.laid_internal_strconv_uint64pow10 : DataW Unit) = Lib.tabData .u64 Lib.pow10Tab := by kernel_rfl
  rw [e1] at hd
  have e2 := Lib.cells_of_tab Tryz.underlying334 Tryz.underlying142 (by kernel_rfl) (by kernel_rfl) hd
  have tab : Lib.TabIs Tryz.prog W "internal/strconv.uint64pow10" .u64 Lib.pow10Tab := by
    unfold Lib.TabIs
    rw [hv, ← e2]
  refine ⟨?_, tab⟩
  have h0 := tab.cell (show Tryz.prog.globalNamed "internal/strconv.uint64pow10" = some 1 by kernel_rfl) 0 (by rw [Lib.pow10Tab_length]; omega)
  show 2 ≤ W.heap.size
  unfold World.cell? at h0
  cases hs : W.heap[1]? with
  | none => simp [hs] at h0
  | some b =>
    have := (Array.getElem?_eq_some_iff.1 hs).1
    omega
theorem Tryz.walk4 (a b : Bool) (w : World) (hT : HeldAt w.heap.size w) : Calls Tryz.prog 4 #[.bool a, .bool b] w fun en w' => en = .returned (.bool true) ∧ Below w.heap.size w w' := by
  obtain ⟨h', hr⟩ := Tryz.solve4 a b
  obtain ⟨k, hc⟩ : ∃ c, Tryz.f4.body = some c := Option.isSome_iff_exists.1 (by kernel_rfl)
  refine (closed_lim Tryz.good Tryz.X4_ok hr (us := #[.bool a, .bool b]) ⟨_, _, rfl, rfl, _, _, rfl, rfl, rfl⟩ Tryz.func4 hc w hT).mono fun en w' ⟨v', ι', h1, h2, h3⟩ => ?_
  simp only [VRel] at h2
  subst h2
  exact ⟨h1, h3⟩
theorem law_lifted (os : Os) (started : os.Started) (H : Type) (enc : TypeId × Value → H) :
    ReturnsInHanded {} Tryz.checked os 4 .any (fun w args => (Rows.solveArraysSpec.pre enc Tryz.prog Tryz.f4 [] false w args ∧ laidMetH Tryz.prog laid1 w) ∧ sizedMet enc Tryz.prog Tryz.f4 (OpenSpec.ofChange Rows.solveArraysSpec) false w args)
      (Rows.solveArraysSpec.post enc Tryz.prog Tryz.f4 false true false false) := by
  refine returnsInHanded_of_change_and (C := Tryz.checked) (X := fun w _ => laidMetH Tryz.prog laid1 w) (fun _ _ _ hh h => h.of_heap hh) Tryz.own started (by kernel_rfl) Tryz.func4
    (ChangeSpec.witness_shaped (enc := enc) (C := Tryz.checked) (os := os) (X := fun w _ => laidMetH Tryz.prog laid1 w) false (World.laidAll Tryz.prog os laid1)
      #[.bool false, .bool false] 8 (World.laidAll_os _ _ _)
      (World.shaped_of_ZipB (by kernel_rfl) (by kernel_rfl)) (by kernel_rfl) (by kernel_rfl) (by kernel_rfl)
      (by rw [MakeChecks.laidMetH_plain _ _ _ (by kernel_rfl)]; exact laidMet_laidAll _ (by kernel_rfl) (by kernel_rfl))) ?_
  intro W base args ds gs before hval0 hW hcnd _ hL _
  have hval : ∀ (j : Nat) t v, Tryz.f4.params[j]? = some t → args[j]? = some v → Value.okWide Tryz.prog W .any base t v := hval0
  have hW' := hW
  obtain ⟨p, q, hA0, hV, rfl, hfz, hnd⟩ := hW
  have hA : DataW.TrodAll enc Tryz.prog W 0 (fun _ => true) true Tryz.f4.params.toList args.toList ds p := hA0
  rw [Tryz.params4] at hA hval
  obtain ⟨v0, v1, d0, d1, p0, p1, rfl, rfl, rfl, h0, h1⟩ := trodAll_two hA
  obtain ⟨z0, rfl, _, _⟩ := open_bool Tryz.underlying4 (hval 0 4 v0 rfl rfl) h0
  obtain ⟨z1, rfl, _, _⟩ := open_bool Tryz.underlying4 (hval 1 4 v1 rfl rfl) h1
  refine (Tryz.walk4 z0 z1 W (tab_held hL)).mono fun e W' ⟨he, hw⟩ => ?_
  subst he
  refine ⟨_, rfl, law_post Tryz.laidOut Tryz.underlying4 (by kernel_rfl) ?_ hW' rfl ?_ hw⟩
  · intro t ht
    rw [Tryz.params4] at ht
    simp at ht
    subst ht
    exact ⟨by kernel_rfl, of_decide_eq_true (by kernel_rfl)⟩
  · rfl
end Go.Proofs.YtflmnikjipdhkaaGreatDoor
