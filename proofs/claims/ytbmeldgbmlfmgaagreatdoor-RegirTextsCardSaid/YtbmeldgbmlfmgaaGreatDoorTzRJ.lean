/- RegirTexts answers true whatever it is given: the row and the card. -/
import Derived.Test.YtbmeldgbmlfmgaaGreatDoorTzRI
import Derived.Test.YtbmeldgbmlfmgaaGreatDoorTie
import Derived.Test.YtbmeldgbmlfmgaaGreatDoorCards
import Derived.LaidMore
import Derived.Lay
import Derived.OpenShut
import Derived.SevenTiedAt
import Derived.Stop.Joined
import Derived.Carry
import Derived.Lib.LaidTab
set_option linter.unusedVariables false
set_option linter.unusedSimpArgs false
set_option linter.unusedSectionVars false
namespace Go.Proofs.YtbmeldgbmlfmgaaGreatDoor
open Go.Sh Go.ChangeShapes Go.WideShapes Go.ChangeAt Go.RowKit Go.Shelf
set_option maxRecDepth 100000
attribute [local instance] powHeld
theorem Tryz.own : ownKnob Tryz.prog.godebug = none := by kernel_rfl
theorem Tryz.laidOut : laidOutB Tryz.prog = true := by kernel_rfl
abbrev laid1 : List (String × DataW Unit) := Rows.regirTextsRow.laid
theorem tab_held {W : World} (h : laidMetH Tryz.prog laid1 W) : HeldAt W.heap.size W := by
  rw [MakeChecks.laidMetH_plain _ _ _ (by kernel_rfl)] at h
  obtain ⟨ps, ⟨_, _, _, _, _, _, _, _, _, _, ⟨_, _, _, _, _, _, _, _, _, _, ⟨g, t, cs, fuel, p, q, hg, ht, hv, hd, _, _⟩, _⟩, _⟩, _, _⟩ := h
  obtain rfl := Option.some.inj ((show Tryz.prog.globalNamed "internal/strconv.uint64pow10" = some 1 by kernel_rfl).symm.trans hg)
  obtain rfl := Option.some.inj ((show (Tryz.prog.globals[1]?).map (·.type) = some 139 by kernel_rfl).symm.trans ht)
  have e1 : (Rows.laid_internal_strconv_uint64pow10 : DataW Unit) = Lib.tabData .u64 Lib.pow10Tab := by kernel_rfl
  rw [e1] at hd
  have e2 := Lib.cells_of_tab Tryz.underlying139 Tryz.underlying79 (by kernel_rfl) (by kernel_rfl) hd
  have tab : Lib.TabIs Tryz.prog W "internal/strconv.uint64pow10" .u64 Lib.pow10Tab := by
    unfold Lib.TabIs
    rw [hv, ← e2]
  refine ⟨?_, tab⟩
  have h0 := tab.cell (show Tryz.prog.globalNamed "internal/strconv.uint64pow10" = some 1 by kernel_rfl) 0 (by rw [Lib.pow10Tab_length]; omega)
  show 2 ≤ W.heap.size
  unfold World.cell? at h0
  cases hs : W.heap[1]? with
  | none => simp [hs] at h0
  | some b =>
    have := (Array.getElem?_eq_some_iff.1 hs).1
    omega
theorem i64_wf {z : Int} (h : (Lit.int .i64 z).wf = true) : I64 z := by
  simp only [Lit.wf, Bool.and_eq_true, decide_eq_true_eq] at h
  have e1 : IntKind.i64.max = 9223372036854775807 := by decide
  have e2 : IntKind.i64.min = -9223372036854775808 := by decide
  constructor <;> omega
theorem Tryz.int {Hd : Type} {g : Nat → Option SObj} {d : DataW Hd} {cs : List SV} (r : Rep Tryz.prog g 3 d cs) : ∃ x : Int, I64 x ∧ cs = [.int .i64 x] := by
  obtain ⟨x, h1, h2⟩ := Rep.oneInt Tryz.underlying3 d cs r
  exact ⟨x, i64_wf h1, h2⟩
theorem flat_ints : ∀ l : List Int, (l.flatMap fun x => [SV.int .i64 x]) = i64s l
  | [] => rfl
  | x :: l => by rw [List.flatMap_cons, flat_ints l]; rfl
theorem Tryz.list_arg {Hd : Type} {h : H} {d : DataW Hd} {x : SV} (r : Rep Tryz.prog h.get 22 d [x]) : ∃ l : List Int, View h 1 x l.length (i64s l) ∧ (∀ z ∈ l, I64 z) ∧ l.length < 9223372036854775808 := by
  obtain ⟨l, k1, k2, k3, _⟩ := Rep.rows (es := 1) (f := fun x : Int => [SV.int .i64 x]) (ok := I64) Tryz.underlying22 (by kernel_rfl) (fun d cs r => Tryz.int r) r
  rw [flat_ints] at k1
  exact ⟨l, k1, k3, Nat.lt_of_le_of_lt k2 (by decide)⟩
theorem view_flat {h : H} {es n : Nat} {v : SV} {cs : List SV} (w : View h es v n cs) : flatV v = true := by
  obtain ⟨_, ⟨rfl, _⟩ | ⟨id, off, cap, all, rfl, _⟩⟩ := w <;> rfl
theorem Tryz.orig {Hd : Type} {h : H} {d : DataW Hd} {cs : List SV} (r : Rep Tryz.prog h.get 24 d cs) : ∃ (a b c : Int) (s1 s2 s3 : List UInt8), cs = [.int .i64 a, .int .i64 b, .int .i64 c, .str s1, .str s2, .str s3] := by
  have c3 : Tryz.prog.cellsOf 3 = 1 := by kernel_rfl
  have c9 : Tryz.prog.cellsOf 9 = 1 := by kernel_rfl
  have c24 : Tryz.prog.cellsOf 24 = 6 := by kernel_rfl
  obtain ⟨hl, hf⟩ := Rep.fields Tryz.underlying24 d cs r
  rw [c24] at hl
  obtain ⟨_, r0⟩ := hf 0 _ rfl
  obtain ⟨_, r1⟩ := hf 1 _ rfl
  obtain ⟨_, r2⟩ := hf 2 _ rfl
  obtain ⟨_, r3⟩ := hf 3 _ rfl
  obtain ⟨_, r4⟩ := hf 4 _ rfl
  obtain ⟨_, r5⟩ := hf 5 _ rfl
  have r0 : Rep Tryz.prog h.get 3 _ ((cs.drop 0).take (Tryz.prog.cellsOf 3)) := r0
  have r1 : Rep Tryz.prog h.get 3 _ ((cs.drop 1).take (Tryz.prog.cellsOf 3)) := r1
  have r2 : Rep Tryz.prog h.get 3 _ ((cs.drop 2).take (Tryz.prog.cellsOf 3)) := r2
  have r3 : Rep Tryz.prog h.get 9 _ ((cs.drop 3).take (Tryz.prog.cellsOf 9)) := r3
  have r4 : Rep Tryz.prog h.get 9 _ ((cs.drop 4).take (Tryz.prog.cellsOf 9)) := r4
  have r5 : Rep Tryz.prog h.get 9 _ ((cs.drop 5).take (Tryz.prog.cellsOf 9)) := r5
  rw [c3] at r0 r1 r2
  rw [c9] at r3 r4 r5
  obtain ⟨a, _, e0⟩ := Tryz.int r0
  obtain ⟨b, _, e1⟩ := Tryz.int r1
  obtain ⟨c, _, e2⟩ := Tryz.int r2
  obtain ⟨s1, _, e3⟩ := Rep.oneStr Tryz.underlying9 _ _ r3
  obtain ⟨s2, _, e4⟩ := Rep.oneStr Tryz.underlying9 _ _ r4
  obtain ⟨s3, _, e5⟩ := Rep.oneStr Tryz.underlying9 _ _ r5
  match cs, hl with
  | [x0, x1, x2, x3, x4, x5], _ =>
    simp at e0 e1 e2 e3 e4 e5
    subst e0 e1 e2 e3 e4 e5
    exact ⟨a, b, c, s1, s2, s3, rfl⟩
theorem Tryz.ins {Hd : Type} {h : H} {d : DataW Hd} {cs : List SV} (r : Rep Tryz.prog h.get 26 d cs) : ∃ (op dst to a b c : Int) (v : SV) (zs : List Int) (s1 s2 s3 : List UInt8), cs = insCells op dst v to [.int .i64 a, .int .i64 b, .int .i64 c, .str s1, .str s2, .str s3] ∧ I64 dst ∧ I64 to ∧
    View h 1 v zs.length (i64s zs) ∧ (∀ z ∈ zs, I64 z) ∧ zs.length < 9223372036854775808 := by
  have c3 : Tryz.prog.cellsOf 3 = 1 := by kernel_rfl
  have c22 : Tryz.prog.cellsOf 22 = 1 := by kernel_rfl
  have c24 : Tryz.prog.cellsOf 24 = 6 := by kernel_rfl
  have c26 : Tryz.prog.cellsOf 26 = 10 := by kernel_rfl
  obtain ⟨hl, hf⟩ := Rep.fields Tryz.underlying26 d cs r
  rw [c26] at hl
  obtain ⟨_, r0⟩ := hf 0 _ rfl
  obtain ⟨_, r1⟩ := hf 1 _ rfl
  obtain ⟨_, r2⟩ := hf 2 _ rfl
  obtain ⟨_, r3⟩ := hf 3 _ rfl
  obtain ⟨_, r4⟩ := hf 4 _ rfl
  have r0 : Rep Tryz.prog h.get 3 _ ((cs.drop 0).take (Tryz.prog.cellsOf 3)) := r0
  have r1 : Rep Tryz.prog h.get 3 _ ((cs.drop 1).take (Tryz.prog.cellsOf 3)) := r1
  have r2 : Rep Tryz.prog h.get 22 _ ((cs.drop 2).take (Tryz.prog.cellsOf 22)) := r2
  have r3 : Rep Tryz.prog h.get 3 _ ((cs.drop 3).take (Tryz.prog.cellsOf 3)) := r3
  have r4 : Rep Tryz.prog h.get 24 _ ((cs.drop 4).take (Tryz.prog.cellsOf 24)) := r4
  rw [c3] at r0 r1 r3
  rw [c22] at r2
  rw [c24] at r4
  match cs, hl with
  | [x0, x1, x2, x3, x4, x5, x6, x7, x8, x9], _ =>
    obtain ⟨op, _, e0⟩ := Tryz.int r0
    obtain ⟨dst, i1, e1⟩ := Tryz.int r1
    obtain ⟨to, i3, e3⟩ := Tryz.int r3
    obtain ⟨a, b, c, s1, s2, s3, e4⟩ := Tryz.orig r4
    have r2 : Rep Tryz.prog h.get 22 _ [x2] := r2
    obtain ⟨zs, k1, k2, k3⟩ := Tryz.list_arg r2
    simp at e0 e1 e3 e4
    obtain ⟨e4, e5, e6, e7, e8, e9⟩ := e4
    subst e0 e1 e3 e4 e5 e6 e7 e8 e9
    exact ⟨op, dst, to, a, b, c, x2, zs, s1, s2, s3, rfl, i1, i3, k1, k2, k3⟩
theorem Tryz.meth {Hd : Type} {h : H} {d : DataW Hd} {cs : List SV} (r : Rep Tryz.prog h.get 30 d cs) : cs.length = 8 ∧ ∃ locals : Int, cs[5]? = some (.int .i64 locals) := by
  have c3 : Tryz.prog.cellsOf 3 = 1 := by kernel_rfl
  have c30 : Tryz.prog.cellsOf 30 = 8 := by kernel_rfl
  obtain ⟨hl, hf⟩ := Rep.fields Tryz.underlying30 d cs r
  rw [c30] at hl
  obtain ⟨_, r5⟩ := hf 5 _ rfl
  have r5 : Rep Tryz.prog h.get 3 _ ((cs.drop 5).take (Tryz.prog.cellsOf 3)) := r5
  rw [c3] at r5
  obtain ⟨l, _, e5⟩ := Tryz.int r5
  refine ⟨hl, l, ?_⟩
  have : ((cs.drop 5).take 1)[0]? = some (SV.int .i64 l) := by rw [e5]; rfl
  simpa using this
theorem Tryz.walk3 {Hd : Type} {enc : TypeId × Value → Hd} {W : World} {args : Array Value} {ds : List (DataW Hd)} {ps : List MemPlace} {b : Nat} (hT : HeldAt W.heap.size W) (hA : DataW.TrodAll enc Tryz.prog W 0 (fun _ => true) true [26, 30, 3, 3] args.toList ds ps) (hval : ∀ (j : Nat) t v, ([26, 30, 3, 3] : List TypeId)[j]? = some t → args.toList[j]? = some v → Value.okWide Tryz.prog W .any b t v) :
    Calls Tryz.prog 3 args W fun en w' => en = .returned (.bool true) ∧ Below W.heap.size W w' := by
  obtain ⟨ι, h, xs, s1, _, l1, r1⟩ := args_outer (n := 8) [26, 30, 3, 3] args.toList ds ps none0 H.empty (fun t ht => by simp at ht; rcases ht with rfl | rfl | rfl <;> kernel_rfl) hA hval (outer_empty hT)
  obtain ⟨c, hc⟩ : ∃ c, Tryz.f3.body = some c := Option.isSome_iff_exists.1 (by kernel_rfl)
  obtain ⟨d1, _, x1, _, cs1, rfl, rfl, k1, i1, r1⟩ := argsRep_cons r1
  obtain ⟨d2, _, x2, _, cs2, rfl, rfl, k2, i2, r1⟩ := argsRep_cons r1
  obtain ⟨d3, _, x3, _, cs3, rfl, rfl, k3, i3, r1⟩ := argsRep_cons r1
  obtain ⟨d4, _, x4, _, cs4, rfl, rfl, k4, i4, r1⟩ := argsRep_cons r1
  obtain ⟨rfl, rfl⟩ := argsRep_nil r1
  have i1 : x1 = .agg cs1 := by unfold ArgIs at i1; rw [Tryz.underlying26] at i1; exact i1
  have i2 : x2 = .agg cs2 := by unfold ArgIs at i2; rw [Tryz.underlying30] at i2; exact i2
  rw [argIs_int Tryz.underlying3 i3] at k3
  rw [argIs_int Tryz.underlying3 i4] at k4
  obtain ⟨loc, _, e3⟩ := Tryz.int k3
  obtain ⟨dep, _, e4⟩ := Tryz.int k4
  obtain rfl : x3 = .int .i64 loc := by simpa using e3
  obtain rfl : x4 = .int .i64 dep := by simpa using e4
  obtain ⟨op, dst, to, a, b, c, v, zs, s1', s2, s3, rfl, q1, q2, q3, q4, q5⟩ := Tryz.ins k1
  obtain ⟨m1, locals, m2⟩ := Tryz.meth k2
  subst i1 i2
  obtain ⟨r, h', k5, rfl⟩ := Tryz.law3 (op := op) (a := a) (b := b) (c := c) (s1 := s1') (s2 := s2) (s3 := s3) (loc := loc) (depth := dep) q3 q4 q5 q1 q2 (view_flat q3) m2 m1
  refine (outer_lim Tryz.good Tryz.X2_ok k5 s1 l1 Tryz.func3 hc).mono fun en w' ⟨v', ι', e1, e2, e3⟩ => ?_
  simp only [VRel] at e2
  subst e2
  exact ⟨e1, e3⟩
theorem texts_lifted (os : Os) (started : os.Started) (H : Type) (enc : TypeId × Value → H) :
    ReturnsInHanded {} Tryz.checked os 3 .any (fun w args => (Rows.regirTextsSpec.pre enc Tryz.prog Tryz.f3 [] false w args ∧ laidMetH Tryz.prog laid1 w) ∧ sizedMet enc Tryz.prog Tryz.f3 (OpenSpec.ofChange Rows.regirTextsSpec) false w args)
      (Rows.regirTextsSpec.post enc Tryz.prog Tryz.f3 false true false false) := by
  refine returnsInHanded_of_change_and (C := Tryz.checked) (X := fun w _ => laidMetH Tryz.prog laid1 w) (fun _ _ _ hh h => h.of_heap hh) Tryz.own started (by kernel_rfl) Tryz.func3
    (ChangeSpec.witness_shaped (enc := enc) (C := Tryz.checked) (os := os) (X := fun w _ => laidMetH Tryz.prog laid1 w) false (World.laidAll Tryz.prog os laid1)
      #[.agg #[.int .i64 0, .int .i64 0, .slice none 0 0, .int .i64 0, .int .i64 0, .int .i64 0, .int .i64 0, .string ⟨#[]⟩, .string ⟨#[]⟩, .string ⟨#[]⟩], .agg #[.string ⟨#[]⟩, .string ⟨#[]⟩, .bool false, .bool false, .int .i64 0, .int .i64 0, .slice none 0 0, .slice none 0 0], .int .i64 0, .int .i64 0] 8 (World.laidAll_os _ _ _)
      (World.shaped_of_ZipB (by kernel_rfl) (by kernel_rfl)) (by kernel_rfl) (by kernel_rfl) (by kernel_rfl)
      (by rw [MakeChecks.laidMetH_plain _ _ _ (by kernel_rfl)]; exact laidMet_laidAll _ (by kernel_rfl) (by kernel_rfl))) ?_
  intro W base args ds gs before hval0 hW hcnd _ hL _
  have hval : ∀ (j : Nat) t v, Tryz.f3.params[j]? = some t → args[j]? = some v → Value.okWide Tryz.prog W .any base t v := hval0
  have hW' := hW
  obtain ⟨p, q, hA0, hV, rfl, hfz, hnd⟩ := hW
  have hA : DataW.TrodAll enc Tryz.prog W 0 (fun _ => true) true Tryz.f3.params.toList args.toList ds p := hA0
  rw [Tryz.params3] at hA hval
  refine (Tryz.walk3 (tab_held hL) hA (fun j t v e1 e2 => hval j t v (by simpa using e1) (by simpa using e2))).mono fun e W' ⟨he, hw⟩ => ?_
  subst he
  refine ⟨_, rfl, law_post Tryz.laidOut Tryz.underlying4 (by kernel_rfl) ?_ hW' rfl ?_ hw⟩
  · intro t ht
    rw [Tryz.params3] at ht
    simp at ht
    rcases ht with rfl | rfl | rfl
    · exact ⟨by kernel_rfl, of_decide_eq_true (by kernel_rfl)⟩
    · exact ⟨by kernel_rfl, of_decide_eq_true (by kernel_rfl)⟩
    · exact ⟨by kernel_rfl, of_decide_eq_true (by kernel_rfl)⟩
  · obtain ⟨v0, v1, v2, v3, d0, d1, d2, d3, p0, p1, p2, p3, _, rfl, _⟩ := trodAll_four hA
    rfl
theorem texts_holds : Rows.RegirTextsSaid :=
  OpenClaim.holds_of_wide 3 Tryz.f3 rfl rfl rfl rfl rfl rfl rfl ⟨rfl, rfl, rfl, rfl, rfl⟩ rfl rfl rfl rfl rfl (by kernel_rfl) Tryz.func3 (by kernel_rfl)
    (of_decide_eq_true (by kernel_rfl)) (by unfold Func.isWrapper; first | (rw [if_pos (by decide +kernel)]; kernel_rfl) | (rw [if_neg (by decide +kernel)]; exact ⟨rfl, rfl⟩))
    (fun os started H enc _ => texts_lifted os started H enc)
theorem texts_card : Rows.RegirTextsCardSaid :=
  Claim7.holds_tied_plain_at .later [] [.data, .data, .data, .data, .sentinel, .sentinel, .pinned] true (true, "ec8c6acfc53a2701fc9c95d6c8bba2681bd148ae6591b8d86b1038650d29c780") true
    texts_holds (fun _ h => by cases h) (by kernel_rfl) (fun _ h => by cases h) regirTexts_row_tie rfl ⟨rfl, rfl⟩ (by kernel_rfl) rfl
    (fun f fn hf hfn => by
      obtain rfl : f = 3 := Option.some.inj ((show Tryz.prog.funcNamed "lantern/lanternlaw13.RegirTexts" = some 3 by kernel_rfl).symm.trans hf) |>.symm
      obtain rfl : fn = Tryz.f3 := (Option.some.inj (Tryz.func3.symm.trans hfn)).symm
      exact ⟨by kernel_rfl, fun j t ht => by
        rw [Tryz.params3] at ht
        have hm : t ∈ [26, 30, 3, 3] := by simpa using Array.mem_of_getElem? ht
        have hall : ([26, 30, 3, 3].all fun u => !Tryz.prog.wantsStandIn u) = true := by kernel_rfl
        exact (show Tryz.prog.wantsStandIn t = false by simpa using List.all_eq_true.1 hall t hm)⟩)
    (by kernel_rfl)
#print axioms texts_card
end Go.Proofs.YtbmeldgbmlfmgaaGreatDoor
