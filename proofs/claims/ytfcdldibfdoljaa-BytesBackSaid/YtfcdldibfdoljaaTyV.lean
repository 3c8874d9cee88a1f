/- Any bytes are read as the document says, till they end: from then on nothing is, and the place is told: whatever the bytes and whatever is read. -/
import Derived.Test.YtfcdldibfdoljaaTyU
import Derived.Test.YtfcdldibfdoljaaTyS
set_option linter.unusedVariables false
set_option linter.unusedSimpArgs false
set_option linter.unusedSectionVars false
namespace Go.Proofs
open Go.Sh
set_option linter.unusedVariables false
attribute [local instance] heldNone
noncomputable section
theorem Try.reads {h : H} {bs hows : SV} {zs xs : List Int} (w : View h 1 bs zs.length (u8z zs)) (w' : View h 1 hows xs.length (i64s xs)) (hb : IsBytes zs) (o1 : ∀ q, isRow bs q → q < h.next) (o2 : ∀ q, isRow hows q → q < h.next) : ∃ v h', Try.lc 5 [bs, hows] h = some (v, h') ∧ v = .bool true := by
  refine Try.enG (n := xs.length + 9) (kf := Try.k5) (by kernel_rfl) Try.k5_eq rfl ?_
  by_cases h1 : 2000 < zs.length
  · have e1 : ltI 2000 (zs.length : Int) = true := by rw [ltI_eq]; simp; omega
    simp [kq, bO_mk, kx, vLen, w.length, w'.length, vGt, i2, e1, vPick, Try.awake, gets_some, kresL, kres, oneS]
  have e1 : ltI 2000 (zs.length : Int) = false := by rw [ltI_eq]; simp; omega
  by_cases h2 : 60 < xs.length
  · have e2 : ltI 60 (xs.length : Int) = true := by rw [ltI_eq]; simp; omega
    simp [kq, bO_mk, kx, vLen, w.length, w'.length, vGt, i2, e1, e2, vPick, Try.awake, gets_some, kresL, kres, oneS]
  have e2 : ltI 60 (xs.length : Int) = false := by rw [ltI_eq]; simp; omega
  obtain ⟨p, h1', b, k1, r, f, hp, hbn⟩ := Try.newReader w (by omega)
  have s : RdAt h.next p bs hows zs xs h1' 0 false b := ⟨w.keep f fun _ _ k => k, o1, w'.keep f fun _ _ k => k, o2, r, hp⟩
  simp [kq, bO_mk, kx, vLen, w.length, w'.length, vGt, i2, e1, e2, vPick, k1, lEq, keq]
  refine gets_next (gets_leave (Gets.mono (Try.reads_loop hb (by omega) (by omega) xs.length 0 (xs.length + 9) _ _ 0 false (by omega) (by omega) s ?_ ?_ ?_ ?_ ?_ ?_) fun fl t' h2 b1 => ?_))
  · simp [kq]
  · simp [kq]
  · simp [kq]
  · simp [kq]
  · simp [kq]
  · simp [kq]
  have b1 : fl = .exit 0 := b1
  subst b1
  have e0 : eqB [] [] = true := rfl
  simp [kq, bO_mk, kx, Try.err_nil, Try.ru1_nil, Try.rtext_nil, Try.left_nil, Try.at_nil, vExtract, vEq, eqI_eq, vSEq, e0, vPick, i2, Try.awake, gets_some, kresL, kres, oneS]
end
end Go.Proofs
namespace Go.Proofs.Ytfcdldibfdoljaa
open Go.Sh Go.ChangeShapes Go.WideShapes Go.ChangeAt Go.RowKit
set_option maxRecDepth 100000
attribute [local instance] heldNone
theorem u8_flat : ∀ l : List Int, l.flatMap (fun z => [SV.int .u8 z]) = u8z l
  | [] => rfl
  | x :: l => by rw [List.flatMap_cons, u8_flat l]; rfl
theorem i64_flat : ∀ l : List Int, l.flatMap (fun z => [SV.int .i64 z]) = i64s l
  | [] => rfl
  | x :: l => by rw [List.flatMap_cons, i64_flat l]; rfl
theorem Try.argBytes {Hd : Type} {h : H} {d : DataW Hd} {x : SV} (r : Rep Try.prog h.get 25 d [x]) : ∃ zs : List Int, View h 1 x zs.length (u8z zs) ∧ IsBytes zs ∧ (∀ q, isRow x q → q < h.next) := by
  obtain ⟨l, k1, _, k3, k2⟩ := Rep.rows (es := 1) (f := fun z => [SV.int .u8 z]) (ok := fun z => (Lit.int .u8 z).wf = true) Try.underlying25 (by kernel_rfl) (fun d cs r => Rep.oneInt Try.underlying5 d cs r) r
  refine ⟨l, by rw [← u8_flat]; exact k1, fun z hz => ?_, k2⟩
  have := k3 z hz
  simp [Lit.wf, IntKind.min, IntKind.max, IntKind.bits, IntKind.signed] at this
  omega
theorem Try.argInts {Hd : Type} {h : H} {d : DataW Hd} {x : SV} (r : Rep Try.prog h.get 41 d [x]) : ∃ zs : List Int, View h 1 x zs.length (i64s zs) ∧ (∀ q, isRow x q → q < h.next) := by
  obtain ⟨l, k1, _, k3, k2⟩ := Rep.rows (es := 1) (f := fun z => [SV.int .i64 z]) (ok := fun z => (Lit.int .i64 z).wf = true) Try.underlying41 (by kernel_rfl) (fun d cs r => Rep.oneInt Try.underlying3 d cs r) r
  exact ⟨l, by rw [← i64_flat]; exact k1, k2⟩
theorem Try.walk5 {Hd : Type} {enc : TypeId × Value → Hd} {W : World} {args : Array Value} {ds : List (DataW Hd)} {ps : List MemPlace} {b : Nat} (hA : DataW.TrodAll enc Try.prog W 0 (fun _ => true) true [25, 41] args.toList ds ps) (hval : ∀ (j : Nat) t v, ([25, 41] : List TypeId)[j]? = some t → args.toList[j]? = some v → Value.okWide Try.prog W .any b t v) :
    Calls Try.prog 5 args W fun en w' => en = .returned (.bool true) ∧ Below W.heap.size W w' := by
  obtain ⟨ι, h, xs, s1, _, l1, r1⟩ := args_outer (n := 8) [25, 41] args.toList ds ps none0 H.empty (fun t ht => by simp at ht; rcases ht with rfl | rfl <;> kernel_rfl) hA hval (outer_empty (heldNone_at _ W))
  obtain ⟨c, hc⟩ : ∃ c, Try.f5.body = some c := Option.isSome_iff_exists.1 (by kernel_rfl)
  obtain ⟨d, ds', x, xs', cs, rfl, rfl, k1, k2, r2⟩ := argsRep_cons r1
  obtain ⟨d2, ds'', y, xs'', cs2, rfl, rfl, q1, q2, r3⟩ := argsRep_cons r2
  obtain ⟨rfl, rfl⟩ := argsRep_nil r3
  rw [argIs_slice Try.underlying25 k2] at k1
  rw [argIs_slice Try.underlying41 q2] at q1
  obtain ⟨zs, w, hb, o1⟩ := Try.argBytes k1
  obtain ⟨ys, w', o2⟩ := Try.argInts q1
  obtain ⟨v, h', k3, rfl⟩ := Try.reads w w' hb o1 o2
  refine (outer_lim Try.good Try.X_ok k3 s1 l1 Try.func5 hc).mono fun en w' ⟨v', ι', e1, e2, e3⟩ => ?_
  simp only [VRel] at e2
  subst e2
  exact ⟨e1, e3⟩
theorem reads_lifted (os : Os) (started : os.Started) (H : Type) (enc : TypeId × Value → H) :
    ReturnsInHanded {} Try.checked os 5 .any (Rows.bytesReadsSpec.pre6 enc Try.prog Try.f5 Rows.bytesReadsRow.domain false) (Rows.bytesReadsSpec.post enc Try.prog Try.f5 false true false false) := by
  refine returnsInHanded_of_change (C := Try.checked) Try.own started (by kernel_rfl) Try.func5
    (ChangeSpec.witness6 (enc := enc) (C := Try.checked) false ⟨#[], #[.slice none 0 0, .slice none 0 0], []⟩ 8 (by kernel_rfl) (by kernel_rfl) (by kernel_rfl) (by kernel_rfl)) ?_
  intro W base args ds gs before hval0 hW hcnd _
  have hval : ∀ (j : Nat) t v, Try.f5.params[j]? = some t → args[j]? = some v → Value.okWide Try.prog W .any base t v := hval0
  have hW' := hW
  obtain ⟨p, q, hA0, hV, rfl, hfz, hnd⟩ := hW
  have hA : DataW.TrodAll enc Try.prog W 0 (fun _ => true) true Try.f5.params.toList args.toList ds p := hA0
  rw [Try.params5] at hA hval
  refine (Try.walk5 hA (fun j t v e1 e2 => hval j t v (by simpa using e1) (by simpa using e2))).mono fun e W' ⟨he, hw⟩ => ?_
  subst he
  refine ⟨_, rfl, law_post Try.laidOut Try.underlying4 (by kernel_rfl) ?_ hW' rfl ?_ hw⟩
  · intro t ht
    rw [Try.params5] at ht
    simp at ht
    rcases ht with rfl | rfl
    · exact ⟨by kernel_rfl, of_decide_eq_true (by kernel_rfl)⟩
    · exact ⟨by kernel_rfl, of_decide_eq_true (by kernel_rfl)⟩
  · obtain ⟨v0, v1, d0, d1, p0, p1, _, rfl, _⟩ := trodAll_two hA
    rfl
theorem reads_holds : Rows.BytesReadsSaid :=
  OpenClaim.holds_of_wide 5 Try.f5 rfl rfl rfl rfl rfl rfl rfl ⟨rfl, rfl, rfl, rfl, rfl⟩ rfl rfl rfl rfl rfl (by kernel_rfl) Try.func5 (by kernel_rfl)
    (of_decide_eq_true (by kernel_rfl)) (by unfold Func.isWrapper; first | (rw [if_pos (by decide +kernel)]; kernel_rfl) | (rw [if_neg (by decide +kernel)]; exact ⟨rfl, rfl⟩))
    (fun os started H enc _ => reads_lifted os started H enc)
#print axioms reads_holds
end Go.Proofs.Ytfcdldibfdoljaa
