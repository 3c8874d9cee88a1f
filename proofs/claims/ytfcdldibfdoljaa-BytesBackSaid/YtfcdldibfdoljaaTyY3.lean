/- What was written is read as it was, in the same order, and nothing is left; cut short, it fails: whatever the items and the cut. -/
import Derived.Test.YtfcdldibfdoljaaTyY2
set_option linter.unusedVariables false
set_option linter.unusedSimpArgs false
set_option linter.unusedSectionVars false
namespace Go.Sh
theorem View.to {h : H} {es n : Nat} {v : SV} {cs : List SV} (w : View h es v n cs) (k : Nat) (hk : k ≤ n) :
    ∃ v', kslice es v none (some (.int .i64 k)) none = some v' ∧ View h es v' k (cs.take (k * es)) ∧ (∀ q, isRow v' q → isRow v q) := by
  obtain ⟨v', h1, h2, h3⟩ := w.slice 0 k (Nat.zero_le _) hk
  refine ⟨v', ?_, by simpa using h2, h3⟩
  rw [← h1]
  obtain ⟨_, ⟨rfl, rfl⟩ | ⟨id, off, cap, all, rfl, _, _, _⟩⟩ := w <;> rfl
end Go.Sh
namespace Go.Proofs
open Go.Sh
set_option linter.unusedVariables false
attribute [local instance] heldNone
noncomputable section
theorem fit_failed (zs : List Int) (n a : Nat) (x : It) : fit zs n a true x = false := by
  unfold fit textFits fits
  simp
/-- Where the second loop stands. -/
structure RbAt (base p1 p2 : Nat) (items : SV) (its : List It) (c i : Nat) (h : H) (b1 b2 : SV) (ay : Nat) (fy : Bool) : Prop where
  view : View h 3 items its.length (itCells its)
  old : ∀ q, isRow items q → q < base
  x : Rdr h p1 (enc its).length (u8z (enc its)) (enc (its.take i)).length false b1
  y : Rdr h p2 c (u8z ((enc its).take c)) ay fy b2
  n1 : base ≤ p1
  n2 : base ≤ p2
  ne : p1 ≠ p2
  r1 : ∀ q, isRow b1 q → q ≠ p2
  r2 : ∀ q, isRow b2 q → q ≠ p1
  tell : (fy = false → ay = (enc (its.take i)).length) ∧ (fy = true → c < (enc its).length)
def RbEnd (base p1 p2 : Nat) (items : SV) (its : List It) (c : Nat) (b1 b2 : SV) (h : H) : Prop := ∃ ay fy, RbAt base p1 p2 items its c its.length h b1 b2 ay fy
theorem Try.back_read {base p1 p2 c : Nat} {items : SV} {its : List It} {b1 b2 : SV} {w cut : SV} (hc : c ≤ (enc its).length) (hlen : its.length ≤ 2000) (hfine : ∀ x ∈ its, x.fine) : ∀ (j i k : Nat) (t : T) (h : H) (ay : Nat) (fy : Bool), i + j = its.length → j < k → RbAt base p1 p2 items its c i h b1 b2 ay fy →
    getP (way 0) t = some items → getP (way 10) t = some (.ptr p1 0) → getP (way 11) t = some (.ptr p2 0) → getP (way 12) t = some (.int .i64 i) → getP (way 9) t = some w → getP (way 1) t = some cut →
    Gets (cLoop Try.l6_0 k Try.lc t h) fun fl t' h' => fl = .exit 2 ∧ RbEnd base p1 p2 items its c b1 b2 h' ∧ getP (way 10) t' = some (.ptr p1 0) ∧ getP (way 11) t' = some (.ptr p2 0) ∧ getP (way 9) t' = some w ∧ getP (way 1) t' = some cut := by
  intro j
  induction j with
  | zero =>
    intro i k t h ay fy hi hk a t0 t10 t11 t12 t9 t1
    obtain ⟨k, rfl⟩ : ∃ m, k = m + 1 := ⟨k - 1, by omega⟩
    rw [loop_succ]
    generalize (fun t h => cLoop Try.l6_0 k Try.lc t h) = L
    unfold Try.l6_0
    have e1 : ltI (i : Int) its.length = false := by rw [ltI_eq]; simp; omega
    have hi' : i = its.length := by omega
    subst hi'
    simp only [↓ kq, kq, kb, kv, kx, a.view.length, t0, t10, t11, t12, t9, t1, e1, gets_some]
    exact ⟨rfl, ⟨ay, fy, a⟩, by simp [kq, t10], by simp [kq, t11], by simp [kq, t9], by simp [kq, t1]⟩
  | succ j ih =>
    intro i k t h ay fy hi hk a t0 t10 t11 t12 t9 t1
    obtain ⟨k, rfl⟩ : ∃ m, k = m + 1 := ⟨k - 1, by omega⟩
    rw [loop_succ]
    generalize hL : (fun t h => cLoop Try.l6_0 k Try.lc t h) = L
    unfold Try.l6_0
    have e1 : ltI (i : Int) its.length = true := by rw [ltI_eq]; simp; omega
    have e3 : IntKind.i64.wrap ((i : Int) + 1) = ((i + 1 : Nat) : Int) := by
      rw [Int.natCast_add]; exact wrap_i64 (by omega) (by omega)
    obtain ⟨x, hx⟩ : ∃ x, its[i]? = some x := ⟨its[i]'(by omega), List.getElem?_eq_getElem (by omega)⟩
    have hxf : x.fine := hfine x (List.mem_of_getElem? hx)
    have hsp := enc_split its i x hx
    have htk := enc_take its i x hx
    obtain ⟨g1, g2, g3⟩ := back_ok hxf (enc (its.take i)) (enc (its.drop (i + 1)))
    rw [← hsp] at g1 g2 g3
    obtain ⟨u1, u2⟩ := back_cut hxf (enc (its.take i)) (enc (its.drop (i + 1))) c (by rw [← hsp]; exact hc)
    rw [← hsp] at u1 u2
    obtain ⟨id, o, c1, c2, _, _⟩ := View.item a.view hx
    obtain ⟨h1, k1, x1, f1⟩ := Try.readsOf a.x (enc_bytes its) x
    rw [g1] at k1
    rw [g2, if_pos rfl, g3, ← htk] at x1
    have x1 : Rdr h1 p1 (enc its).length (u8z (enc its)) (enc (its.take (i + 1))).length false b1 := x1
    have v1 := a.view.keep f1 fun q hq e => by have := a.old q hq; have := a.n1; have e : q = p1 := e; omega
    obtain ⟨id', o', c1', c3, _, _⟩ := View.item v1 hx
    rw [c1] at c1'
    cases c1'
    have y1 := a.y.keep f1 (fun e => a.ne (Eq.symm e)) fun q hq e => a.r2 q hq e
    obtain ⟨h2, k2, y2, f2⟩ := Try.readsOf y1 (fun z hz => enc_bytes its z (List.mem_of_mem_take hz)) x
    have x2 := x1.keep f2 a.ne fun q hq e => a.r1 q hq e
    have v2 := v1.keep f2 fun q hq e => by have := a.old q hq; have := a.n2; have e : q = p2 := e; omega
    have a2 : RbAt base p1 p2 items its c (i + 1) h2 b1 b2 (if fit ((enc its).take c) c ay fy x = true then ay + broad ((enc its).take c) ay x else ay) (!fit ((enc its).take c) c ay fy x) := by
      refine ⟨v2, a.old, x2, y2, a.n1, a.n2, a.ne, a.r1, a.r2, fun hf => ?_, fun hf => ?_⟩
      · have hft : fit ((enc its).take c) c ay fy x = true := by simpa using hf
        rw [if_pos hft]
        cases hfy : fy with
        | true => rw [hfy, fit_failed] at hft; cases hft
        | false =>
          rw [hfy] at hft
          have hay := a.tell.1 hfy
          rw [hay] at hft ⊢
          rw [u1 hft, htk]
      · have hft : fit ((enc its).take c) c ay fy x = false := by simpa using hf
        cases hfy : fy with
        | true => exact a.tell.2 hfy
        | false =>
          rw [hfy] at hft
          rw [a.tell.1 hfy] at hft
          exact u2 hft
    simp [↓ kq, kq, kb, kv, kx, a.view.length, v1.length, t0, t10, t11, t12, t9, t1, e1, e3, c1, c2, c3, k1, k2, -bO_of, -bB_true, -bB_false, -Int.natCast_add]
    rw [← hL]
    refine ih (i + 1) k _ h2 _ _ (by omega) (by omega) a2 ?_ ?_ ?_ ?_ ?_ ?_ <;> simp [kq, t0, t10, t11, t9, t1, -Int.natCast_add]
theorem Try.back {h : H} {items : SV} {its : List It} {cut : Int} (w : View h 3 items its.length (itCells its)) (hold : ∀ q, isRow items q → q < h.next) : ∃ v h', Try.lc 6 [items, .int .i64 cut] h = some (v, h') ∧ v = .bool true := by
  obtain ⟨r, h1, k1, f1, hr⟩ := Try.small w
  refine Try.enG (n := its.length + 1) (kf := Try.k6) (by kernel_rfl) Try.k6_eq rfl ?_
  cases r
  · simp [↓ kq, kq, kb, kv, kx, k1, Try.awake, gets_some, kresL, kres, oneS, -bO_of, -bB_true, -bB_false]
  have ht := hr rfl
  have hln := total_length its
  have f2 : Fr (fun _ => False) (fun _ => False) h1 (h1.push (.cells [.nilslice, .bool false] .fixed)) := .push
  have hg : (h1.push (.cells [.nilslice, .bool false] .fixed)).get h1.next = some (.cells [.nilslice, .bool false] .fixed) := by rw [H.get_push, if_pos rfl]
  have hw : Wr (h1.push (.cells [.nilslice, .bool false] .fixed)) h1.next false 0 [] := ⟨.nilslice, hg, ⟨rfl, .inl ⟨rfl, rfl⟩⟩, fun q hq => hq.elim⟩
  have a : BwAt h1.next h1.next items its 0 (h1.push (.cells [.nilslice, .bool false] .fixed)) :=
    ⟨(w.keep f1 fun _ _ k => k).keep f2 fun _ _ k => k, fun q hq => Nat.lt_of_lt_of_le (hold q hq) f1.next, hw, fun q hq => by
      rcases hq with rfl | ⟨b, c, e1, e2⟩
      · exact Nat.le_refl _
      · rw [hg] at e1; cases e1; exact e2.elim, fun x hx => by simp at hx, Nat.zero_le _, Nat.le_succ _⟩
  simp [↓ kq, kq, kb, kv, kx, k1, -bO_of, -bB_true, -bB_false]
  refine gets_next (gets_leave (Gets.mono (Try.back_write (cut := .int .i64 cut) ht (by omega) its.length 0 (its.length + 1) _ _ (by omega) (by omega) a ?_ ?_ ?_ ?_) fun fl t' h2 b1 => ?_))
  · simp [kq]
  · simp [kq]
  · simp [kq]
  · simp [kq]
  rcases b1 with ⟨rfl, t4⟩ | ⟨rfl, a2, t0, t1, t5⟩
  · simp [gets_some, kresL, kres, oneS, t4]
  have hle := a2.le
  have hwr := a2.wr
  rw [List.take_length] at hle hwr
  obtain ⟨v, h3, k3, v3, f3, n3⟩ := Try.bytes hwr (by omega)
  have v3 : View h3 1 v (enc its).length (u8z (enc its)) := v3
  obtain ⟨p1, h4, b1, k4, r4, f4, q4, s4⟩ := Try.newReader v3 (by omega)
  have v4 := v3.keep f4 fun _ _ k => k
  have e5 : IntKind.i64.wrap (((enc its).length : Int) + 1) = (((enc its).length + 1 : Nat) : Int) := by
    rw [Int.natCast_add]; exact wrap_i64 (by omega) (by omega)
  have hround := Try.round cut ((enc its).length + 1) (by omega)
  obtain ⟨c, hc1, hc2⟩ := rnd_lt cut ((enc its).length + 1) (by omega) (by omega)
  rw [hc1] at hround
  obtain ⟨v', k5, v5, _⟩ := View.to v4 c (by omega)
  have v5 : View h4 1 v' c (u8z ((enc its).take c)) := by simpa [u8z, List.map_take] using v5
  obtain ⟨p2, h5, b2, k6, r6, f6, q6, s6⟩ := Try.newReader v5 (by omega)
  have hp1 : p1 < h4.next := H.get_lt r4.row
  have hb1 : ∀ q, isRow b1 q → q < h4.next := fun q hq => by
    obtain ⟨_, ⟨rfl, _⟩ | ⟨id, off, cap, all, rfl, e, _⟩⟩ := r4.view
    · exact hq.elim
    · rw [show q = id from hq]; exact rowCells_lt e
  have hlen5 : (u8z (enc its)).length = (enc its).length := by simp [u8z]
  have s : RbAt h1.next p1 p2 items its c 0 h5 b1 b2 0 false :=
    ⟨((a2.view.keep f3 fun _ _ k => k).keep f4 fun _ _ k => k).keep f6 fun _ _ k => k, a2.old, r4.keep f6 (fun k => k) fun _ _ k => k, r6, Nat.le_trans a2.nx (Nat.le_trans f3.next q4), Nat.le_trans a2.nx (Nat.le_trans f3.next (Nat.le_trans f4.next q6)), by omega,
      fun q hq e => by have := hb1 q hq; omega, fun q hq e => by have := s6 q hq; omega, fun _ => rfl, fun e => by cases e⟩
  simp [↓ kq, kq, kb, kv, kx, t0, t1, t5, k3, k4, v3.length, v4.length, e5, hround, k5, k6, -bO_of, -bB_true, -bB_false, -Int.natCast_add]
  refine gets_next (gets_leave (Gets.mono (Try.back_read (w := v) (cut := .int .i64 cut) (by omega) (by omega) (fun x hx => a2.fine x (by rw [List.take_length]; exact hx)) its.length 0 (its.length + 1) _ _ _ _ (by omega) (by omega) s ?_ ?_ ?_ ?_ ?_ ?_) fun fl t2 h6 ⟨e6, ⟨ay, fy, s6'⟩, t10, t11, t9, t1'⟩ => ?_))
  · simp [kq, t0]
  · simp [kq]
  · simp [kq]
  · simp [kq]
  · simp [kq]
  · simp [kq, t1]
  subst e6
  have rx := s6'.x
  rw [List.take_length] at rx
  have ry := s6'.y
  have m1 := Try.err rx
  have m2 := Try.err ry
  have m3 := Rdr.left rx
  have m4 := Try.at rx
  have hlast := s6'.tell
  rw [List.take_length] at hlast
  have hhere := ry.here
  cases hfy : fy
  · rw [hfy] at m2
    have h7 := hlast.1 hfy
    have e7 : ltI (c : Int) (enc its).length = false := by rw [ltI_eq]; simp; omega
    simp [↓ kq, kq, kb, kv, kx, t10, t11, t9, t1', m1, m2, m3, m4, v3.length, eqI_eq, e5, hround, e7, Try.awake, gets_some, kresL, kres, oneS, -bO_of, -bB_true, -bB_false, -Int.natCast_add]
  · rw [hfy] at m2
    have h7 := hlast.2 hfy
    have e7 : ltI (c : Int) (enc its).length = true := by rw [ltI_eq]; simp; omega
    simp [↓ kq, kq, kb, kv, kx, t10, t11, t9, t1', m1, m2, m3, m4, v3.length, eqI_eq, e5, hround, e7, Try.awake, gets_some, kresL, kres, oneS, -bO_of, -bB_true, -bB_false, -Int.natCast_add]
end
end Go.Proofs
namespace Go.Proofs.Ytfcdldibfdoljaa
open Go.Sh Go.ChangeShapes Go.WideShapes Go.ChangeAt Go.RowKit
set_option maxRecDepth 100000
attribute [local instance] heldNone
theorem Try.walk6 {Hd : Type} {enc : TypeId × Value → Hd} {W : World} {args : Array Value} {ds : List (DataW Hd)} {ps : List MemPlace} {b : Nat} (hA : DataW.TrodAll enc Try.prog W 0 (fun _ => true) true [22, 3] args.toList ds ps) (hval : ∀ (j : Nat) t v, ([22, 3] : List TypeId)[j]? = some t → args.toList[j]? = some v → Value.okWide Try.prog W .any b t v) :
    Calls Try.prog 6 args W fun en w' => en = .returned (.bool true) ∧ Below W.heap.size W w' := by
  obtain ⟨ι, h, xs, s1, _, l1, r1⟩ := args_outer (n := 8) [22, 3] args.toList ds ps none0 H.empty (fun t ht => by simp at ht; rcases ht with rfl | rfl <;> kernel_rfl) hA hval (outer_empty (heldNone_at _ W))
  obtain ⟨c, hc⟩ : ∃ c, Try.f6.body = some c := Option.isSome_iff_exists.1 (by kernel_rfl)
  obtain ⟨d1, _, x1, _, cs1, rfl, rfl, k1, i1, r1⟩ := argsRep_cons r1
  obtain ⟨d2, _, x2, _, cs2, rfl, rfl, k2, i2, r1⟩ := argsRep_cons r1
  obtain ⟨rfl, rfl⟩ := argsRep_nil r1
  rw [argIs_slice Try.underlying22 i1] at k1
  rw [argIs_int Try.underlying3 i2] at k2
  obtain ⟨z, _, e⟩ := Rep.oneInt Try.underlying3 _ _ k2
  obtain rfl : x2 = .int .i64 z := by simpa using e
  obtain ⟨its, w, hold⟩ := Try.items k1
  obtain ⟨v, h', k3, rfl⟩ := Try.back (cut := z) w hold
  refine (outer_lim Try.good Try.X_ok k3 s1 l1 Try.func6 hc).mono fun en w' ⟨v', ι', e1, e2, e3⟩ => ?_
  simp only [VRel] at e2
  subst e2
  exact ⟨e1, e3⟩
theorem back_lifted (os : Os) (started : os.Started) (H : Type) (enc : TypeId × Value → H) :
    ReturnsInHanded {} Try.checked os 6 .any (Rows.bytesBackSpec.pre6 enc Try.prog Try.f6 Rows.bytesBackRow.domain false) (Rows.bytesBackSpec.post enc Try.prog Try.f6 false true false false) := by
  refine returnsInHanded_of_change (C := Try.checked) Try.own started (by kernel_rfl) Try.func6
    (ChangeSpec.witness6 (enc := enc) (C := Try.checked) false ⟨#[], #[.slice none 0 0, .int .i64 0], []⟩ 8 (by kernel_rfl) (by kernel_rfl) (by kernel_rfl) (by kernel_rfl)) ?_
  intro W base args ds gs before hval0 hW hcnd _
  have hval : ∀ (j : Nat) t v, Try.f6.params[j]? = some t → args[j]? = some v → Value.okWide Try.prog W .any base t v := hval0
  have hW' := hW
  obtain ⟨p, q, hA0, hV, rfl, hfz, hnd⟩ := hW
  have hA : DataW.TrodAll enc Try.prog W 0 (fun _ => true) true Try.f6.params.toList args.toList ds p := hA0
  rw [Try.params6] at hA hval
  refine (Try.walk6 hA (fun j t v e1 e2 => hval j t v (by simpa using e1) (by simpa using e2))).mono fun e W' ⟨he, hw⟩ => ?_
  subst he
  refine ⟨_, rfl, law_post Try.laidOut Try.underlying4 (by kernel_rfl) ?_ hW' rfl ?_ hw⟩
  · intro t ht
    rw [Try.params6] at ht
    simp at ht
    rcases ht with rfl | rfl
    · exact ⟨by kernel_rfl, of_decide_eq_true (by kernel_rfl)⟩
    · exact ⟨by kernel_rfl, of_decide_eq_true (by kernel_rfl)⟩
  · obtain ⟨v0, v1, d0, d1, p0, p1, _, rfl, _⟩ := trodAll_two hA
    rfl
theorem back_holds : Rows.BytesBackSaid :=
  OpenClaim.holds_of_wide 6 Try.f6 rfl rfl rfl rfl rfl rfl rfl ⟨rfl, rfl, rfl, rfl, rfl⟩ rfl rfl rfl rfl rfl (by kernel_rfl) Try.func6 (by kernel_rfl)
    (of_decide_eq_true (by kernel_rfl)) (by unfold Func.isWrapper; first | (rw [if_pos (by decide +kernel)]; kernel_rfl) | (rw [if_neg (by decide +kernel)]; exact ⟨rfl, rfl⟩))
    (fun os started H enc _ => back_lifted os started H enc)
#print axioms back_holds
end Go.Proofs.Ytfcdldibfdoljaa
