/- AnalyseTexts answers true whatever it is given: the row and the card. -/
import Derived.Test.YtcfknlkgnolndaaGreatDoorTzAD
import Derived.Test.YtcfknlkgnolndaaGreatDoorSh21
import Derived.Test.YtcfknlkgnolndaaGreatDoorTie
import Derived.Test.YtcfknlkgnolndaaGreatDoorCards
import Derived.LaidMore
import Derived.Lay
import Derived.OpenShut
import Derived.SevenTiedAt
import Derived.Stop.Joined
import Derived.Carry
import Derived.Lib.LaidTab
set_option linter.unusedVariables false
set_option linter.unusedSimpArgs false
set_option linter.unusedSectionVars false
namespace Go.Proofs.YtcfknlkgnolndaaGreatDoor
open Go.Sh Go.ChangeShapes Go.WideShapes Go.ChangeAt Go.RowKit Go.Shelf
set_option maxRecDepth 100000
attribute [local instance] powHeld
theorem Tryz.own : ownKnob Tryz.prog.godebug = none := by kernel_rfl
theorem Tryz.laidOut : laidOutB Tryz.prog = true := by kernel_rfl
abbrev laid1 : List (String × DataW Unit) := Rows.analyseTextsRow.laid
theorem tab_held {W : World} (h : laidMetH Tryz.prog laid1 W) : HeldAt W.heap.size W := by
  rw [MakeChecks.laidMetH_plain _ _ _ (by kernel_rfl)] at h
  obtain ⟨ps, ⟨_, _, _, _, _, _, _, _, _, _, ⟨_, _, _, _, _, _, _, _, _, _, ⟨g, t, cs, fuel, p, q, hg, ht, hv, hd, _, _⟩, _⟩, _⟩, _, _⟩ := h
  obtain rfl := Option.some.inj ((show Tryz.prog.globalNamed "internal/strconv.uint64pow10" = some 0 by kernel_rfl).symm.trans hg)
  obtain rfl := Option.some.inj ((show (Tryz.prog.globals[0]?).map (·.type) = some 364 by kernel_rfl).symm.trans ht)
  have e1 : (Rows.laid_internal_strconv_uint64pow10 : DataW Unit) = Lib.tabData .u64 Lib.pow10Tab := by kernel_rfl
  rw [e1] at hd
  have e2 := Lib.cells_of_tab Tryz.underlying364 Tryz.underlying12 (by kernel_rfl) (by kernel_rfl) hd
  have tab : Lib.TabIs Tryz.prog W "internal/strconv.uint64pow10" .u64 Lib.pow10Tab := by
    unfold Lib.TabIs
    rw [hv, ← e2]
  refine ⟨?_, tab⟩
  have h0 := tab.cell (show Tryz.prog.globalNamed "internal/strconv.uint64pow10" = some 0 by kernel_rfl) 0 (by rw [Lib.pow10Tab_length]; omega)
  show 1 ≤ W.heap.size
  unfold World.cell? at h0
  cases hs : W.heap[0]? with
  | none => simp [hs] at h0
  | some b =>
    have := (Array.getElem?_eq_some_iff.1 hs).1
    omega
theorem i64_wf {z : Int} (h : (Lit.int .i64 z).wf = true) : I64 z := by
  simp only [Lit.wf, Bool.and_eq_true, decide_eq_true_eq] at h
  have e1 : IntKind.i64.max = 9223372036854775807 := by decide
  have e2 : IntKind.i64.min = -9223372036854775808 := by decide
  constructor <;> omega
theorem Tryz.int {Hd : Type} {g : Nat → Option SObj} {d : DataW Hd} {cs : List SV} (r : Rep Tryz.prog g 3 d cs) : ∃ x : Int, I64 x ∧ cs = [.int .i64 x] := by
  obtain ⟨x, h1, h2⟩ := Rep.oneInt Tryz.underlying3 d cs r
  exact ⟨x, i64_wf h1, h2⟩
theorem argsRep_len {Hd : Type} {P : Program} {g : Nat → Option SObj} : ∀ {ts : List TypeId} {ds : List (DataW Hd)} {xs : List SV}, ArgsRep P g ts ds xs → ds.length = ts.length
  | [], [], [], _ => rfl
  | _ :: _, _ :: _, _ :: _, h => congrArg Nat.succ (argsRep_len h.2)
theorem argIs_str {P : Program} {cs : List SV} {x : SV} {t : TypeId} (hu : P.underlying t = some .string) (a : ArgIs P t cs x) : cs = [x] := by
  unfold ArgIs at a; rw [hu] at a; exact a
theorem Tryz.walk5 {Hd : Type} {enc : TypeId × Value → Hd} {W : World} {args : Array Value} {ds : List (DataW Hd)} {ps : List MemPlace} {b : Nat} (hT : HeldAt W.heap.size W) (hA : DataW.TrodAll enc Tryz.prog W 0 (fun _ => true) true [3, 3, 3, 9, 3, 3] args.toList ds ps) (hval : ∀ (j : Nat) t v, ([3, 3, 3, 9, 3, 3] : List TypeId)[j]? = some t → args.toList[j]? = some v → Value.okWide Tryz.prog W .any b t v) :
    ds.length = 6 ∧ Calls Tryz.prog 5 args W fun en w' => en = .returned (.bool true) ∧ Below W.heap.size W w' := by
  obtain ⟨ι, h, xs, s1, _, l1, r1⟩ := args_outer (n := 8) [3, 3, 3, 9, 3, 3] args.toList ds ps none0 H.empty (fun t ht => by simp at ht; rcases ht with rfl | rfl | rfl <;> kernel_rfl) hA hval (outer_empty hT)
  refine ⟨argsRep_len r1, ?_⟩
  obtain ⟨c, hc⟩ : ∃ c, Tryz.f5.body = some c := Option.isSome_iff_exists.1 (by kernel_rfl)
  obtain ⟨d1, _, x1, _, cs1, rfl, rfl, k1, i1, r1⟩ := argsRep_cons r1
  obtain ⟨d2, _, x2, _, cs2, rfl, rfl, k2, i2, r1⟩ := argsRep_cons r1
  obtain ⟨d3, _, x3, _, cs3, rfl, rfl, k3, i3, r1⟩ := argsRep_cons r1
  obtain ⟨d4, _, x4, _, cs4, rfl, rfl, k4, i4, r1⟩ := argsRep_cons r1
  obtain ⟨d5, _, x5, _, cs5, rfl, rfl, k5, i5, r1⟩ := argsRep_cons r1
  obtain ⟨d6, _, x6, _, cs6, rfl, rfl, k6, i6, r1⟩ := argsRep_cons r1
  obtain ⟨rfl, rfl⟩ := argsRep_nil r1
  rw [argIs_int Tryz.underlying3 i1] at k1
  rw [argIs_int Tryz.underlying3 i2] at k2
  rw [argIs_int Tryz.underlying3 i3] at k3
  rw [argIs_str Tryz.underlying9 i4] at k4
  rw [argIs_int Tryz.underlying3 i5] at k5
  rw [argIs_int Tryz.underlying3 i6] at k6
  obtain ⟨z1, w1, e1⟩ := Tryz.int k1
  obtain ⟨z2, w2, e2⟩ := Tryz.int k2
  obtain ⟨z3, w3, e3⟩ := Tryz.int k3
  obtain ⟨m, _, e4⟩ := Rep.oneStr Tryz.underlying9 _ _ k4
  obtain ⟨z5, w5, e5⟩ := Tryz.int k5
  obtain ⟨z6, w6, e6⟩ := Tryz.int k6
  obtain rfl : x1 = .int .i64 z1 := by simpa using e1
  obtain rfl : x2 = .int .i64 z2 := by simpa using e2
  obtain rfl : x3 = .int .i64 z3 := by simpa using e3
  obtain rfl : x4 = .str m := by simpa using e4
  obtain rfl : x5 = .int .i64 z5 := by simpa using e5
  obtain rfl : x6 = .int .i64 z6 := by simpa using e6
  obtain ⟨r, h', k7, rfl⟩ := Tryz.law5 (h := h) (m := m) w1 w2 w3 w5 w6
  refine (outer_lim Tryz.good Tryz.X2_ok k7 s1 l1 Tryz.func5 hc).mono fun en w' ⟨v', ι', e1, e2, e3⟩ => ?_
  simp only [VRel] at e2
  subst e2
  exact ⟨e1, e3⟩
end Go.Proofs.YtcfknlkgnolndaaGreatDoor
