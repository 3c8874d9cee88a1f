/- BitsetAsks answers true whatever it is given: the row and the card. -/
import Derived.Test.YtfcdldibfdoljaaDoorTyZR
import Derived.Test.YtfcdldibfdoljaaDoorTie
import Derived.Test.YtfcdldibfdoljaaDoorCards
import Derived.LaidMore
import Derived.Lay
import Derived.OpenShut
import Derived.SevenTiedAt
import Derived.Stop.Joined
set_option linter.unusedVariables false
set_option linter.unusedSimpArgs false
set_option linter.unusedSectionVars false
namespace Go.Proofs.YtfcdldibfdoljaaDoor
open Go.Sh Go.ChangeShapes Go.WideShapes Go.ChangeAt Go.RowKit Go.Shelf
set_option maxRecDepth 100000
attribute [local instance] tabHeld
theorem Tryd.own : ownKnob Tryd.prog.godebug = none := by kernel_rfl
theorem Tryd.laidOut : laidOutB Tryd.prog = true := by kernel_rfl
abbrev laid1 : List (String × DataW Unit) := Rows.bitsetAsksRow.laid
theorem tab_lits : (Rows.laid_math_bits_deBruijn64tab : DataW Unit) = .agg (Lib.deBruijn64tab.map fun (n : Nat) => .lit (.int .u8 (n : Int))) := by
  unfold Rows.laid_math_bits_deBruijn64tab Lib.deBruijn64tab
  rfl
theorem tab_held {W : World} (h : laidMetH Tryd.prog laid1 W) : HeldAt W.heap.size W := by
  rw [MakeChecks.laidMetH_plain _ _ _ (by kernel_rfl)] at h
  obtain ⟨ps, ⟨g, t, cs, fuel, p, q, hg, ht, hv, hd, _, _⟩, _, _⟩ := h
  obtain rfl := Option.some.inj ((show Tryd.prog.globalNamed "math/bits.deBruijn64tab" = some 0 by kernel_rfl).symm.trans hg)
  obtain rfl := Option.some.inj ((show (Tryd.prog.globals[0]?).map (·.type) = some 45 by kernel_rfl).symm.trans ht)
  obtain ⟨xs, m, _, ex, _, hl, hel⟩ := DataW.trod_array Tryd.underlying45 hd
  have c5 : Tryd.prog.cellsOf 5 = 1 := by kernel_rfl
  have e3 : (xs.map (·.1)) = Lib.deBruijn64tab.map fun (n : Nat) => .lit (.int .u8 (n : Int)) := by
    have := (Prod.mk.inj ex).1
    rw [tab_lits] at this
    exact (DataW.agg.inj this).symm
  have hlen : Lib.deBruijn64tab.length = 64 := by kernel_rfl
  have tab : TabAt 0 Lib.deBruijn64tab W := fun r hr => by
    have hE := hel r (by omega)
    rw [c5, Nat.mul_one, List.getElem?_eq_getElem (by omega)] at hE
    obtain ⟨z, e1, e2, _⟩ := DataW.trod_int Tryd.underlying5 hE
    have e4 : (xs.map (·.1))[r]? = (Lib.deBruijn64tab.map fun (n : Nat) => (DataW.lit (.int .u8 (n : Int)) : DataW Unit))[r]? := by rw [e3]
    rw [List.getElem?_map, List.getElem?_map, List.getElem?_eq_getElem (by omega : r < xs.length), List.getElem?_eq_getElem hr, e2] at e4
    have hz : z = ((Lib.deBruijn64tab.getD r 0 : Nat) : Int) := by
      simp only [Option.map_some, Option.some.injEq, DataW.lit.injEq, Lit.int.injEq, true_and] at e4
      rw [e4, List.getD, List.getElem?_eq_getElem hr]; rfl
    rw [World.var?_cell hg hv r, ← hz]
    have : cs.toList[r]? = some (.int .u8 z) := by
      have h0 : ((cs.toList.drop r).take 1)[0]? = some (.int .u8 z) := by rw [e1]; rfl
      simpa using h0
    simpa using this
  refine ⟨?_, tab⟩
  have h0 := tab 0 (by omega)
  show 1 ≤ W.heap.size
  unfold World.cell? at h0
  cases hs : W.heap[0]? with
  | none => simp [hs] at h0
  | some b =>
    have := (Array.getElem?_eq_some_iff.1 hs).1
    omega
theorem Tryd.int {Hd : Type} {h : H} {d : DataW Hd} {cs : List SV} (r : Rep Tryd.prog h.get 3 d cs) : ∃ x : Int, (Lit.int .i64 x).wf = true ∧ cs = [.int .i64 x] := Rep.oneInt Tryd.underlying3 d cs r
theorem flat_ints : ∀ l : List Int, (l.flatMap fun x => [SV.int .i64 x]) = i64s l
  | [] => rfl
  | x :: l => by rw [List.flatMap_cons, flat_ints l]; rfl
theorem Tryd.list_arg {Hd : Type} {h : H} {d : DataW Hd} {x : SV} (r : Rep Tryd.prog h.get 22 d [x]) : ∃ l : List Int, IntsAt h x l ∧ l.length < 9223372036854775808 := by
  obtain ⟨l, k1, k2, _, _⟩ := Rep.rows (es := 1) (f := fun x : Int => [SV.int .i64 x]) (ok := fun _ => True) Tryd.underlying22 (by kernel_rfl) (fun d cs r => by
    obtain ⟨x, _, e⟩ := Tryd.int r
    exact ⟨x, trivial, e⟩) r
  rw [flat_ints] at k1
  exact ⟨l, k1, Nat.lt_of_le_of_lt k2 (by decide)⟩
theorem Tryd.walk3 {Hd : Type} {enc : TypeId × Value → Hd} {W : World} {args : Array Value} {ds : List (DataW Hd)} {ps : List MemPlace} {b : Nat} (hT : HeldAt W.heap.size W) (hA : DataW.TrodAll enc Tryd.prog W 0 (fun _ => true) true [22, 22, 3] args.toList ds ps) (hval : ∀ (j : Nat) t v, ([22, 22, 3] : List TypeId)[j]? = some t → args.toList[j]? = some v → Value.okWide Tryd.prog W .any b t v) :
    Calls Tryd.prog 3 args W fun en w' => en = .returned (.bool true) ∧ Below W.heap.size W w' := by
  obtain ⟨ι, h, xs, s1, _, l1, r1⟩ := args_outer (n := 8) [22, 22, 3] args.toList ds ps none0 H.empty (fun t ht => by simp at ht; rcases ht with rfl | rfl <;> kernel_rfl) hA hval (outer_empty hT)
  obtain ⟨c, hc⟩ : ∃ c, Tryd.f3.body = some c := Option.isSome_iff_exists.1 (by kernel_rfl)
  obtain ⟨d1, _, x1, _, cs1, rfl, rfl, k1, i1, r1⟩ := argsRep_cons r1
  obtain ⟨d2, _, x2, _, cs2, rfl, rfl, k2, i2, r1⟩ := argsRep_cons r1
  obtain ⟨d3, _, x3, _, cs3, rfl, rfl, k3, i3, r1⟩ := argsRep_cons r1
  obtain ⟨rfl, rfl⟩ := argsRep_nil r1
  rw [argIs_slice Tryd.underlying22 i1] at k1
  rw [argIs_slice Tryd.underlying22 i2] at k2
  rw [argIs_int Tryd.underlying3 i3] at k3
  obtain ⟨z, hz, e⟩ := Tryd.int k3
  obtain rfl : x3 = .int .i64 z := by simpa using e
  have hz : z < 9223372036854775808 := by
    simp only [Lit.wf, Bool.and_eq_true, decide_eq_true_eq] at hz
    have : IntKind.i64.max = 9223372036854775807 := by decide
    omega
  obtain ⟨aa, wA, la⟩ := Tryd.list_arg k1
  obtain ⟨bb, wB, lb⟩ := Tryd.list_arg k2
  obtain ⟨v, h', k4, rfl⟩ := Tryd.asks wA wB hz la lb
  refine (outer_lim Tryd.good Tryd.X_ok k4 s1 l1 Tryd.func3 hc).mono fun en w' ⟨v', ι', e1, e2, e3⟩ => ?_
  simp only [VRel] at e2
  subst e2
  exact ⟨e1, e3⟩
theorem asks_lifted (os : Os) (started : os.Started) (H : Type) (enc : TypeId × Value → H) :
    ReturnsInHanded {} Tryd.checked os 3 .any (fun w args => (Rows.bitsetAsksSpec.pre enc Tryd.prog Tryd.f3 [] false w args ∧ laidMetH Tryd.prog laid1 w) ∧ sizedMet enc Tryd.prog Tryd.f3 (OpenSpec.ofChange Rows.bitsetAsksSpec) false w args)
      (Rows.bitsetAsksSpec.post enc Tryd.prog Tryd.f3 false true false false) := by
  refine returnsInHanded_of_change_and (C := Tryd.checked) (X := fun w _ => laidMetH Tryd.prog laid1 w) (fun _ _ _ hh h => h.of_heap hh) Tryd.own started (by kernel_rfl) Tryd.func3
    (ChangeSpec.witness_shaped (enc := enc) (C := Tryd.checked) (os := os) (X := fun w _ => laidMetH Tryd.prog laid1 w) false (World.laidAll Tryd.prog os laid1) #[.slice none 0 0, .slice none 0 0, .int .i64 0] 8 (World.laidAll_os _ _ _)
      (World.shaped_of_ZipB (by kernel_rfl) (by kernel_rfl)) (by kernel_rfl) (by kernel_rfl) (by kernel_rfl)
      (by rw [MakeChecks.laidMetH_plain _ _ _ (by kernel_rfl)]; exact laidMet_laidAll _ (by kernel_rfl) (by kernel_rfl))) ?_
  intro W base args ds gs before hval0 hW hcnd _ hL _
  have hval : ∀ (j : Nat) t v, Tryd.f3.params[j]? = some t → args[j]? = some v → Value.okWide Tryd.prog W .any base t v := hval0
  have hW' := hW
  obtain ⟨p, q, hA0, hV, rfl, hfz, hnd⟩ := hW
  have hA : DataW.TrodAll enc Tryd.prog W 0 (fun _ => true) true Tryd.f3.params.toList args.toList ds p := hA0
  rw [Tryd.params3] at hA hval
  refine (Tryd.walk3 (tab_held hL) hA (fun j t v e1 e2 => hval j t v (by simpa using e1) (by simpa using e2))).mono fun e W' ⟨he, hw⟩ => ?_
  subst he
  refine ⟨_, rfl, law_post Tryd.laidOut Tryd.underlying4 (by kernel_rfl) ?_ hW' rfl ?_ hw⟩
  · intro t ht
    rw [Tryd.params3] at ht
    simp at ht
    rcases ht with rfl | rfl
    · exact ⟨by kernel_rfl, of_decide_eq_true (by kernel_rfl)⟩
    · exact ⟨by kernel_rfl, of_decide_eq_true (by kernel_rfl)⟩
  · obtain ⟨v0, v1, v2, d0, d1, d2, p0, p1, p2, _, rfl, _⟩ := trodAll_three hA
    rfl
theorem asks_holds : Rows.BitsetAsksSaid :=
  OpenClaim.holds_of_wide 3 Tryd.f3 rfl rfl rfl rfl rfl rfl rfl ⟨rfl, rfl, rfl, rfl, rfl⟩ rfl rfl rfl rfl rfl (by kernel_rfl) Tryd.func3 (by kernel_rfl)
    (of_decide_eq_true (by kernel_rfl)) (by unfold Func.isWrapper; first | (rw [if_pos (by decide +kernel)]; kernel_rfl) | (rw [if_neg (by decide +kernel)]; exact ⟨rfl, rfl⟩))
    (fun os started H enc _ => asks_lifted os started H enc)
theorem asks_card : Rows.BitsetAsksCardSaid :=
  Claim7.holds_tied_plain_at .later [] [.data] true (true, "53a0e138baab9db2100574960a61e976519b8833632429e2dd3ab20e55969282") false
    asks_holds (fun _ h => by cases h) (by kernel_rfl) (fun _ h => by cases h) bitsetAsks_row_tie rfl ⟨rfl, rfl⟩ (by kernel_rfl) rfl
    (fun f fn hf hfn => by
      obtain rfl : f = 3 := Option.some.inj ((show Tryd.prog.funcNamed "lantern/lanternlaw15.BitsetAsks" = some 3 by kernel_rfl).symm.trans hf) |>.symm
      obtain rfl : fn = Tryd.f3 := (Option.some.inj (Tryd.func3.symm.trans hfn)).symm
      exact ⟨by kernel_rfl, fun j t ht => by
        rw [Tryd.params3] at ht
        have hm : t ∈ [22, 22, 3] := by simpa using Array.mem_of_getElem? ht
        have hall : ([22, 22, 3].all fun u => !Tryd.prog.wantsStandIn u) = true := by kernel_rfl
        exact (show Tryd.prog.wantsStandIn t = false by simpa using List.all_eq_true.1 hall t hm)⟩)
    (by kernel_rfl)
#print axioms asks_card
end Go.Proofs.YtfcdldibfdoljaaDoor
