/- A number of four bytes is read with its sign; of two, and of one, without: whatever the bytes. -/
import Derived.Test.YtfcdldibfdoljaaTyV
import Derived.Test.YtfcdldibfdoljaaSh17
set_option linter.unusedVariables false
set_option linter.unusedSimpArgs false
set_option linter.unusedSectionVars false
namespace Go.Proofs
open Go.Sh
set_option linter.unusedVariables false
attribute [local instance] heldNone
noncomputable section
theorem wrap_i64_in {x : Int} (h : -9223372036854775808 ≤ x) (h' : x < 9223372036854775808) : IntKind.i64.wrap x = x := by
  unfold IntKind.wrap; simp [IntKind.bits, IntKind.signed]; split <;> omega
theorem or_add (k q y : Nat) (hy : y < 2 ^ k) (hb : q * 2 ^ k + y < 9223372036854775808) : arithInt .or .i64 ((q * 2 ^ k : Nat) : Int) (y : Int) = some ((q * 2 ^ k + y : Nat) : Int) := by
  have e : (BitVec.ofInt 64 ((q * 2 ^ k : Nat) : Int) ||| BitVec.ofInt 64 (y : Int)).toNat = q * 2 ^ k + y := by
    have e1 : ∀ x : Nat, BitVec.ofInt 64 (x : Int) = BitVec.ofNat 64 x := fun x => BitVec.ofInt_natCast ..
    rw [e1, e1, BitVec.toNat_or, BitVec.toNat_ofNat, BitVec.toNat_ofNat, Nat.mod_eq_of_lt (by omega), Nat.mod_eq_of_lt (by omega)]
    have h := Nat.shiftLeft_add_eq_or_of_lt (i := k) (b := y) hy q
    rw [Nat.shiftLeft_eq] at h
    exact h.symm
  show some (IntKind.i64.wrap ((BitVec.ofInt 64 ((q * 2 ^ k : Nat) : Int) ||| BitVec.ofInt 64 (y : Int)).toNat : Int)) = _
  rw [e, wrap_i64 (by omega) (by omega)]
theorem row_four (a b c d : Int) (cf : CF) (m : Nat) (t : T) (h : H) (K : SV → H → FR) : sN (aRow 4 1 [1, 1, 1, 1] [xC (.int .u8 a), xC (.int .u8 b), xC (.int .u8 c), xC (.int .u8 d)]) cf m t h K = K (.slice h.next 0 4 1 (some 4)) (h.push (.cells [.int .u8 a, .int .u8 b, .int .u8 c, .int .u8 d] .fixed)) := rfl
theorem view_four (a b c d : Int) (h : H) : View (h.push (.cells [.int .u8 a, .int .u8 b, .int .u8 c, .int .u8 d] .fixed)) 1 (.slice h.next 0 4 1 (some 4)) 4 (u8z [a, b, c, d]) :=
  ⟨rfl, .inr ⟨h.next, 0, some 4, _, rfl, by unfold rowCells; rw [H.get_push, if_pos rfl], rfl, fun c q => by cases q; exact Nat.le_refl _⟩⟩
set_option maxHeartbeats 800000 in
theorem Try.numbers (a b c d : Nat) (ha : a < 256) (hb : b < 256) (hc : c < 256) (hd : d < 256) (h : H) : ∃ v h', Try.lc 4 [.int .u8 a, .int .u8 b, .int .u8 c, .int .u8 d] h = some (v, h') ∧ v = .bool true := by
  refine Try.enG (n := 2) (kf := Try.k4) (by kernel_rfl) Try.k4_eq rfl ?_
  -- the reckoning
  obtain ⟨A1, hA1⟩ : ∃ A1 : Nat, A1 = a * 16777216 := ⟨_, rfl⟩
  obtain ⟨A2, hA2⟩ : ∃ A2 : Nat, A2 = b * 65536 := ⟨_, rfl⟩
  obtain ⟨A3, hA3⟩ : ∃ A3 : Nat, A3 = c * 256 := ⟨_, rfl⟩
  obtain ⟨S1, hS1⟩ : ∃ S : Nat, S = A1 + A2 := ⟨_, rfl⟩
  obtain ⟨S2, hS2⟩ : ∃ S : Nat, S = S1 + A3 := ⟨_, rfl⟩
  obtain ⟨N, hN⟩ : ∃ S : Nat, S = S2 + d := ⟨_, rfl⟩
  have g1 : shiftInt .shl .i64 (a : Int) 24 = some (A1 : Int) := by
    show some (IntKind.i64.wrap ((a : Int) * 16777216)) = _
    rw [wrap_i64 (by omega) (by omega)]; congr 1; omega
  have g2 : shiftInt .shl .i64 (b : Int) 16 = some (A2 : Int) := by
    show some (IntKind.i64.wrap ((b : Int) * 65536)) = _
    rw [wrap_i64 (by omega) (by omega)]; congr 1; omega
  have g3 : shiftInt .shl .i64 (c : Int) 8 = some (A3 : Int) := by
    show some (IntKind.i64.wrap ((c : Int) * 256)) = _
    rw [wrap_i64 (by omega) (by omega)]; congr 1; omega
  have g4 : arithInt .or .i64 (A1 : Int) (A2 : Int) = some (S1 : Int) := by
    have := or_add 24 a A2 (by omega) (by omega)
    rw [hA1, hS1, hA1]; exact this
  have g5 : arithInt .or .i64 (S1 : Int) (A3 : Int) = some (S2 : Int) := by
    have := or_add 16 (a * 256 + b) A3 (by omega) (by omega)
    rw [show (a * 256 + b) * 2 ^ 16 = S1 by omega] at this
    rw [hS2]; exact this
  have g6 : arithInt .or .i64 (S2 : Int) (d : Int) = some (N : Int) := by
    have := or_add 8 ((a * 256 + b) * 256 + c) d (by omega) (by omega)
    rw [show ((a * 256 + b) * 256 + c) * 2 ^ 8 = S2 by omega] at this
    rw [hN]; exact this
  have w1 : IntKind.i64.wrap (a : Int) = a := wrap_i64 (by omega) (by omega)
  have w2 : IntKind.i64.wrap (b : Int) = b := wrap_i64 (by omega) (by omega)
  have w3 : IntKind.i64.wrap (c : Int) = c := wrap_i64 (by omega) (by omega)
  have w4 : IntKind.i64.wrap (d : Int) = d := wrap_i64 (by omega) (by omega)
  have w5 : IntKind.i64.wrap ((a : Int) * 256) = (a : Int) * 256 := wrap_i64 (by omega) (by omega)
  have wr6 : IntKind.i64.wrap ((a : Int) * 256 + b) = (a : Int) * 256 + b := wrap_i64 (by omega) (by omega)
  have w7 : IntKind.i64.wrap ((N : Int) - 4294967296) = (N : Int) - 4294967296 := wrap_i64_in (by omega) (by omega)
  have hz : IsBytes [(a : Int), (b : Int), (c : Int), (d : Int)] := fun z hz => by
    simp at hz; omega
  have v4 : numAt [(a : Int), (b : Int), (c : Int), (d : Int)] 0 4 = N := by
    have := (fold_val (fun v z => nstep_eq) [(a : Int), (b : Int), (c : Int), (d : Int)] 0 0 hz (by omega) (by simp) (by simp)).1
    show List.foldl nstep 0 [(a : Int), (b : Int), (c : Int), (d : Int)] = _
    rw [this]
    simp [val]; omega
  have v2 : numAt [(a : Int), (b : Int), (c : Int), (d : Int)] 0 2 = (a : Int) * 256 + b := by
    have := (fold_val (fun v z => nstep_eq) [(a : Int), (b : Int)] 0 0 (fun z hz => by simp at hz; omega) (by omega) (by simp) (by simp)).1
    show List.foldl nstep 0 [(a : Int), (b : Int)] = _
    rw [this]
    simp [val]
  have v1 : numAt [(a : Int), (b : Int), (c : Int), (d : Int)] 2 1 = (c : Int) := by
    have := (fold_val (fun v z => nstep_eq) [(c : Int)] 0 0 (fun z hz => by simp at hz; omega) (by omega) (by simp) (by simp)).1
    show List.foldl nstep 0 [(c : Int)] = _
    rw [this]
    simp [val]
  -- the number
  obtain ⟨n, hn, hn1, hn2, hn3⟩ : ∃ n : Int, n = (if ltI (a : Int) 128 = true then (N : Int) else (N : Int) - 4294967296) ∧ IntKind.i64.wrap (IntKind.i32.wrap (N : Int)) = n ∧ outOf false n (-2147483648) 2147483647 = false ∧ be 4 n = u8z [(a : Int), (b : Int), (c : Int), (d : Int)] := by
    refine ⟨_, rfl, ?_, ?_, ?_⟩
    · rw [ltI_eq]
      by_cases q : (a : Int) < 128
      · simp only [q, decide_true, if_true]
        have : IntKind.i32.wrap (N : Int) = N := by unfold IntKind.wrap; simp [IntKind.bits, IntKind.signed]; omega
        rw [this]; exact wrap_i64 (by omega) (by omega)
      · simp only [q, decide_false, Bool.false_eq_true, if_false]
        have : IntKind.i32.wrap (N : Int) = N - 4294967296 := by unfold IntKind.wrap; simp [IntKind.bits, IntKind.signed]; omega
        rw [this]; exact w7
    · rw [ltI_eq]
      unfold outOf
      rw [ltI_eq, ltI_eq]
      by_cases q : (a : Int) < 128
      · simp only [q, decide_true, if_true]
        simp; omega
      · simp only [q, decide_false, Bool.false_eq_true, if_false]
        simp; omega
    · rw [ltI_eq]
      have e8 : ∀ y : Int, wrapS .u8 y = y % 256 := fun y => by
        rw [wrapS_eq]; unfold IntKind.wrap; simp [IntKind.bits, IntKind.signed]
      simp only [be, e8, u8z, List.map_cons, List.map_nil]
      have p3 : (2 : Int) ^ (8 * 3) = 16777216 := by decide
      have p2 : (2 : Int) ^ (8 * 2) = 65536 := by decide
      have p1 : (2 : Int) ^ (8 * 1) = 256 := by decide
      have p0 : (2 : Int) ^ (8 * 0) = 1 := by decide
      rw [p3, p2, p1, p0]
      rw [Int.fdiv_eq_ediv_of_nonneg _ (by omega), Int.fdiv_eq_ediv_of_nonneg _ (by omega), Int.fdiv_eq_ediv_of_nonneg _ (by omega), Int.fdiv_eq_ediv_of_nonneg _ (by omega)]
      by_cases q : (a : Int) < 128
      · simp only [q, decide_true, if_true, List.cons.injEq, SV.int.injEq, true_and, and_true]
        omega
      · simp only [q, decide_false, Bool.false_eq_true, if_false, List.cons.injEq, SV.int.injEq, true_and, and_true]
        omega
  -- the memory
  have row1 := fun cf m t K => row_four (a : Int) b c d cf m t h K
  obtain ⟨p1, h1, b1, k1, r1, f1, q1, s1⟩ := Try.newReader (view_four (a : Int) b c d h) (by omega)
  have row2 := fun cf m t K => row_four (a : Int) b c d cf m t h1 K
  obtain ⟨p2, h2, b2, k2, r2, f2, q2, s2⟩ := Try.newReader (view_four (a : Int) b c d h1) (by omega)
  have hp1 : p1 < h1.next := H.get_lt r1.row
  have hp1' : p1 < p2 := by
    have : h1.next + 1 ≤ p2 := q2
    omega
  have fw : Fr (fun _ => False) (fun _ => False) h2 (h2.push (.cells [.nilslice, .bool false] .fixed)) := .push
  have ww : Wr (h2.push (.cells [.nilslice, .bool false] .fixed)) h2.next false 0 [] := ⟨.nilslice, by rw [H.get_push, if_pos rfl], ⟨rfl, .inl ⟨rfl, rfl⟩⟩, fun q hq => hq.elim⟩
  have r1' := ((r1.keep (Fr.push (S := fun _ => False) (W := fun _ => False) (o := .cells [.int .u8 a, .int .u8 b, .int .u8 c, .int .u8 d] .fixed)) (fun k => k) (fun _ _ k => k)).keep f2 (fun k => k) fun _ _ k => k).keep fw (fun k => k) fun _ _ k => k
  have r2' := r2.keep fw (fun k => k) fun _ _ k => k
  obtain ⟨h3, m1, _, f3⟩ := Try.ri4 r1'
  have r2'' := r2'.keep f3 (by show ¬ p2 = p1; omega) fun q hq e => by
    have := s2 q hq
    have e : q = p1 := e
    have : h1.next + 1 ≤ q := this
    omega
  obtain ⟨h4, m2, r3, f4⟩ := Try.ru2 r2''
  obtain ⟨h5, m3, r4, f5⟩ := Try.ru1 r3
  have t1 : fits 4 0 false 4 = true := rfl
  have t2 : fits 4 0 false 2 = true := rfl
  have t3 : fits 4 2 false 1 = true := rfl
  simp only [t1, if_true] at m1
  simp only [t2, if_true, Nat.zero_add, Bool.not_true] at m2 r3 m3 r4
  simp only [t3, if_true, Bool.not_true] at m3 r4
  rw [v4, hn1] at m1
  rw [v2] at m2
  rw [v1] at m3
  have m4 := Try.at r4
  have m5 := Rdr.left r4
  have hpw : p2 < h2.next := H.get_lt r2.row
  have ownw : ∀ q, wrOwn (h2.push (.cells [.nilslice, .bool false] .fixed)) h2.next q → q = h2.next := fun q hq => by
    rcases hq with rfl | ⟨bf, bd, e1, e2⟩
    · rfl
    · rw [H.get_push, if_pos rfl] at e1; cases e1; exact e2.elim
  have w3' := ((ww.keep f3 fun q hq e => by have := ownw q hq; have e : q = p1 := e; omega).keep f4 fun q hq e => by
    have := ownw q ((wrOwn_keep f3 (Nat.lt_succ_self _) (by show ¬ h2.next = p1; omega) q).1 hq); have e : q = p2 := e; omega)
  have w5' := w3'.keep f5 fun q hq e => by
    have h4n : h2.next < h3.next := Nat.lt_of_lt_of_le (Nat.lt_succ_self _) f3.next
    have := ownw q ((wrOwn_keep f3 (Nat.lt_succ_self _) (by show ¬ h2.next = p1; omega) q).1 ((wrOwn_keep f4 h4n (by show ¬ h2.next = p2; omega) q).1 hq)); have e : q = p2 := e; omega
  obtain ⟨h6, m6, f6, w6, _⟩ := Try.i4 (x := n) (by omega) w5'
  rw [hn3] at w6
  simp only [hn2, Bool.false_eq_true, if_false, List.nil_append] at w6
  obtain ⟨vb, h7, m7, vv, f7, _⟩ := Try.bytes w6 (by omega)
  have vv : View h7 1 vb 4 (u8z [(a : Int), (b : Int), (c : Int), (d : Int)]) := vv
  have u1 := View.str vv
  have row3 := fun cf m t K => row_four (a : Int) b c d cf m t h7 K
  have nv := view_four (a : Int) b c d h7
  have u2 := View.str nv
  have u3 : ∀ g : H, g.next ≤ h7.next → strOf (mixTo g (h7.push (.cells [.int .u8 a, .int .u8 b, .int .u8 c, .int .u8 d] .fixed)) h7.next) (.slice h7.next 0 4 1 (some 4)) = some (.str (bytesZ [(a : Int), (b : Int), (c : Int), (d : Int)])) := fun g hg => View.strG nv fun q hq => by
    rw [show q = h7.next from hq]; exact rowCells_mix_new hg (Nat.le_refl _)
  have u4 := u3 h6 f7.next
  have u5 := u3 h5 (Nat.le_trans f6.next f7.next)
  cases hlt : ltI (a : Int) 128
  · rw [hlt] at hn
    simp only [Bool.false_eq_true, if_false] at hn
    rw [hn] at m1 m6
    simp [↓ kq, kq, ↓ ko, ko, kb, kv, kx, w1, w2, w3, w4, w5, wr6, w7, g1, g2, g3, g4, g5, g6, hlt, ↓ row1, ↓ row2, ↓ row3, k1, k2, m1, m2, m3, m4, m5, m6, m7, eqI_self, u1, u2, u4, u5, eqS1_str, eqB_self, Try.awake, gets_some, kresL, kres, oneS, -bO_of, -bB_true, -bB_false]
  · rw [hlt] at hn
    simp only [if_true] at hn
    rw [hn] at m1 m6
    simp [↓ kq, kq, ↓ ko, ko, kb, kv, kx, w1, w2, w3, w4, w5, wr6, w7, g1, g2, g3, g4, g5, g6, hlt, ↓ row1, ↓ row2, ↓ row3, k1, k2, m1, m2, m3, m4, m5, m6, m7, eqI_self, u1, u2, u4, u5, eqS1_str, eqB_self, Try.awake, gets_some, kresL, kres, oneS, -bO_of, -bB_true, -bB_false]
end
end Go.Proofs
namespace Go.Proofs.Ytfcdldibfdoljaa
open Go.Sh Go.ChangeShapes Go.WideShapes Go.ChangeAt Go.RowKit
set_option maxRecDepth 100000
attribute [local instance] heldNone
theorem Try.argByte {Hd : Type} {h : H} {d : DataW Hd} {x : SV} (r : Rep Try.prog h.get 5 d [x]) : ∃ a : Nat, a < 256 ∧ x = .int .u8 a := by
  obtain ⟨z, hz, e⟩ := Rep.oneInt Try.underlying5 d _ r
  simp [Lit.wf, IntKind.min, IntKind.max, IntKind.bits, IntKind.signed] at hz
  refine ⟨z.toNat, by omega, ?_⟩
  rw [show ((z.toNat : Nat) : Int) = z by omega]
  simpa using e
theorem Try.walk4 {Hd : Type} {enc : TypeId × Value → Hd} {W : World} {args : Array Value} {ds : List (DataW Hd)} {ps : List MemPlace} {b : Nat} (hA : DataW.TrodAll enc Try.prog W 0 (fun _ => true) true [5, 5, 5, 5] args.toList ds ps) (hval : ∀ (j : Nat) t v, ([5, 5, 5, 5] : List TypeId)[j]? = some t → args.toList[j]? = some v → Value.okWide Try.prog W .any b t v) :
    Calls Try.prog 4 args W fun en w' => en = .returned (.bool true) ∧ Below W.heap.size W w' := by
  obtain ⟨ι, h, xs, s1, _, l1, r1⟩ := args_outer (n := 8) [5, 5, 5, 5] args.toList ds ps none0 H.empty (fun t ht => by simp at ht; subst ht; kernel_rfl) hA hval (outer_empty (heldNone_at _ W))
  obtain ⟨c, hc⟩ : ∃ c, Try.f4.body = some c := Option.isSome_iff_exists.1 (by kernel_rfl)
  obtain ⟨d1, _, x1, _, cs1, rfl, rfl, k1, i1, r1⟩ := argsRep_cons r1
  obtain ⟨d2, _, x2, _, cs2, rfl, rfl, k2, i2, r1⟩ := argsRep_cons r1
  obtain ⟨d3, _, x3, _, cs3, rfl, rfl, k3, i3, r1⟩ := argsRep_cons r1
  obtain ⟨d4, _, x4, _, cs4, rfl, rfl, k4, i4, r1⟩ := argsRep_cons r1
  obtain ⟨rfl, rfl⟩ := argsRep_nil r1
  rw [argIs_int Try.underlying5 i1] at k1
  rw [argIs_int Try.underlying5 i2] at k2
  rw [argIs_int Try.underlying5 i3] at k3
  rw [argIs_int Try.underlying5 i4] at k4
  obtain ⟨a1, b1, rfl⟩ := Try.argByte k1
  obtain ⟨a2, b2, rfl⟩ := Try.argByte k2
  obtain ⟨a3, b3, rfl⟩ := Try.argByte k3
  obtain ⟨a4, b4, rfl⟩ := Try.argByte k4
  obtain ⟨v, h', k3, rfl⟩ := Try.numbers a1 a2 a3 a4 b1 b2 b3 b4 h
  refine (outer_lim Try.good Try.X_ok k3 s1 l1 Try.func4 hc).mono fun en w' ⟨v', ι', e1, e2, e3⟩ => ?_
  simp only [VRel] at e2
  subst e2
  exact ⟨e1, e3⟩
theorem numbers_lifted (os : Os) (started : os.Started) (H : Type) (enc : TypeId × Value → H) :
    ReturnsInHanded {} Try.checked os 4 .any (Rows.bytesNumbersSpec.pre6 enc Try.prog Try.f4 Rows.bytesNumbersRow.domain false) (Rows.bytesNumbersSpec.post enc Try.prog Try.f4 false true false false) := by
  refine returnsInHanded_of_change (C := Try.checked) Try.own started (by kernel_rfl) Try.func4
    (ChangeSpec.witness6 (enc := enc) (C := Try.checked) false ⟨#[], #[.int .u8 0, .int .u8 0, .int .u8 0, .int .u8 0], []⟩ 8 (by kernel_rfl) (by kernel_rfl) (by kernel_rfl) (by kernel_rfl)) ?_
  intro W base args ds gs before hval0 hW hcnd _
  have hval : ∀ (j : Nat) t v, Try.f4.params[j]? = some t → args[j]? = some v → Value.okWide Try.prog W .any base t v := hval0
  have hW' := hW
  obtain ⟨p, q, hA0, hV, rfl, hfz, hnd⟩ := hW
  have hA : DataW.TrodAll enc Try.prog W 0 (fun _ => true) true Try.f4.params.toList args.toList ds p := hA0
  rw [Try.params4] at hA hval
  refine (Try.walk4 hA (fun j t v e1 e2 => hval j t v (by simpa using e1) (by simpa using e2))).mono fun e W' ⟨he, hw⟩ => ?_
  subst he
  refine ⟨_, rfl, law_post Try.laidOut Try.underlying4 (by kernel_rfl) ?_ hW' rfl ?_ hw⟩
  · intro t ht
    rw [Try.params4] at ht
    simp at ht
    subst ht
    exact ⟨by kernel_rfl, of_decide_eq_true (by kernel_rfl)⟩
  · obtain ⟨v0, v1, v2, v3, d0, d1, d2, d3, p0, p1, p2, p3, _, rfl, _⟩ := trodAll_four hA
    rfl
theorem numbers_holds : Rows.BytesNumbersSaid :=
  OpenClaim.holds_of_wide 4 Try.f4 rfl rfl rfl rfl rfl rfl rfl ⟨rfl, rfl, rfl, rfl, rfl⟩ rfl rfl rfl rfl rfl (by kernel_rfl) Try.func4 (by kernel_rfl)
    (of_decide_eq_true (by kernel_rfl)) (by unfold Func.isWrapper; first | (rw [if_pos (by decide +kernel)]; kernel_rfl) | (rw [if_neg (by decide +kernel)]; exact ⟨rfl, rfl⟩))
    (fun os started H enc _ => numbers_lifted os started H enc)
#print axioms numbers_holds
end Go.Proofs.Ytfcdldibfdoljaa
