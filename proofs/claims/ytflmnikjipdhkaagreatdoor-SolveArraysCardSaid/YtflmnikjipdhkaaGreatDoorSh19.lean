/- General laws of the proof: a shadow machine of the form, its soundness, and a compiled form of it. -/
import Derived.Test.YtflmnikjipdhkaaGreatDoorSh12
import Derived.Test.YtflmnikjipdhkaaGreatDoorSh16
import Derived.Shelf.SlIterI.Nil
set_option linter.unusedVariables false
set_option linter.unusedSimpArgs false
set_option linter.unusedSectionVars false
section
/- The shadow machine: oracles: slices.Sorted of what maps.Keys handed back, the keys being numbers of 64 bits (after ShZG). -/
namespace Go.Sh
open Go.Proofs Go.RowKit Go.Maps Go.Sort Go.Shelf
section
noncomputable def keysOfI : List (SV × SV × Nat) → Option (List Int)
  | [] => some []
  | e :: l => match e.1 with
    | .int .i64 s => (match keysOfI l with
      | some r => some (s :: r)
      | none => none)
    | _ => none
noncomputable def insI (x : Int) : List Int → List Int
  | [] => [x]
  | y :: l => bB (ltI y x) (y :: insI x l) (x :: y :: l)
noncomputable def sortI : List Int → List Int
  | [] => []
  | x :: l => insI x (sortI l)
noncomputable def upI : List Int → Bool
  | x :: y :: l => ltI x y && upI (y :: l)
  | _ => true
noncomputable def shortI : List Int → Bool
  | [] => true
  | x :: l => ltI (-1048577) x && ltI x 1048577 && shortI l
theorem insI_perm (x : Int) : ∀ l, (insI x l).Perm (x :: l)
  | [] => .refl _
  | y :: l => by
    unfold insI
    cases ltI y x
    · exact .refl _
    · exact ((insI_perm x l).cons y).trans (.swap x y l)
theorem sortI_perm : ∀ l, (sortI l).Perm l
  | [] => .refl _
  | x :: l => (insI_perm x _).trans ((sortI_perm l).cons x)
theorem upI_pairwise : ∀ l, upI l = true → l.Pairwise (fun a b => a < b)
  | [], _ => .nil
  | [x], _ => by simp
  | x :: y :: l, h => by
    simp only [upI, Bool.and_eq_true, ltI_eq, decide_eq_true_eq] at h
    have ih := upI_pairwise (y :: l) h.2
    refine List.pairwise_cons.2 ⟨fun z hz => ?_, ih⟩
    rcases List.mem_cons.1 hz with rfl | hz
    · exact h.1
    · exact Int.lt_trans h.1 ((List.pairwise_cons.1 ih).1 z hz)
theorem sortI_merge {l : List Int} (h : upI (sortI l) = true) : sortI l = l.mergeSort leI := by
  have hp := upI_pairwise _ h
  have tr : ∀ a b c : Int, leI a b = true → leI b c = true → leI a c = true := fun a b c h1 h2 => by simp only [leI, decide_eq_true_eq] at *; exact Int.le_trans h1 h2
  have to : ∀ a b : Int, (leI a b || leI b a) = true := fun a b => by simp only [leI, Bool.or_eq_true, decide_eq_true_eq]; exact Int.le_total a b
  refine List.Perm.eq_of_pairwise (le := fun a b => leI a b = true) (fun a b _ _ h1 h2 => ?_) (hp.imp fun h => ?_) (List.pairwise_mergeSort tr to l) ((sortI_perm l).trans (List.mergeSort_perm l leI).symm)
  · simp only [leI, decide_eq_true_eq] at h1 h2
    exact Int.le_antisymm h1 h2
  · simp only [leI, decide_eq_true_eq]; exact Int.le_of_lt h
theorem keysOfI_rel {ι : Inj} : ∀ {es : List (SV × SV × Nat)} {ys : List MapEntry} {ks : List Int}, ERel ι es ys → keysOfI es = some ks → ys.map (·.key) = ks.map encZ ∧ ys.map (·.born) = es.map (·.2.2)
  | [], _, _, h, h' => by cases h; cases h'; exact ⟨rfl, rfl⟩
  | (k, v, b) :: es, _, ks, ⟨e, r, rfl, hk, _, hb, hr⟩, h' => by
    simp only [keysOfI] at h'
    split at h'
    · rename_i s
      cases hq : keysOfI es with
      | none => rw [hq] at h'; cases h'
      | some r' =>
        rw [hq] at h'; cases h'
        obtain ⟨h1, h2⟩ := keysOfI_rel hr hq
        simp only [VRel] at hk
        exact ⟨by simp [h1, hk], by simp [h2, hb]⟩
    · cases h'
theorem shortI_ok : ∀ {l : List Int}, shortI l = true → ∀ x ∈ l, -1048577 < x ∧ x < 1048577
  | [], _, x, hx => by cases hx
  | y :: l, h, x, hx => by
    simp only [shortI, Bool.and_eq_true, ltI_eq, decide_eq_true_eq] at h
    rcases List.mem_cons.1 hx with rfl | hx
    · exact h.1
    · exact shortI_ok h.2 x hx
end
end Go.Sh
namespace Go.Sh
open Go.Proofs Go.RowKit Go.Maps Go.Sort Go.Shelf
section
variable [Held] {P : Program} {fs fk : FuncId} {kt : TypeId}
structure SortsKeysI (P : Program) (fs fk : FuncId) (kt : TypeId) : Prop where
  key : P.underlying kt = some (.int .i64)
  enter : ∀ us w, (callFunc fs us).run P w = .ok (.enter fs us) w
  full : ∀ (Bm b nn : Nat) (D0 : DataW Unit) (R : Value → Option (DataW Unit × List MemPlace)) (w : World), Bm < w.heap.size → w.cell? ⟨Bm, 0, none⟩ = some (.map (some b)) → w.ownsMap P kt R b nn D0 → Maps.size D0 ≤ maxLen → Maps.size D0 * 8 ≤ 140737488355328 →
    Calls P fs #[.func (.func fk) #[] #[.pointer (some ⟨Bm, 0, none⟩)]] w fun e w' => ∃ (v : Value) (ss : List Int), e = .returned v ∧ ss.Perm (intKeys D0) ∧ w'.ownsRow w.heap.size kt 1 v ss.length ((ss.mergeSort leI).map encZ) ∧ (v = .slice none 0 0 ↔ ss = []) ∧ RowKit.Below w.heap.size w w'
  nilm : ∀ (Bm : Nat) (w : World), Bm < w.heap.size → w.cell? ⟨Bm, 0, none⟩ = some (.map none) →
    Calls P fs #[.func (.func fk) #[] #[.pointer (some ⟨Bm, 0, none⟩)]] w fun e w' => e = .returned (.slice none 0 0) ∧ RowKit.Below w.heap.size w w'
noncomputable def sortedRowI (h : H) (s : List Int) : SV × H := match s with
  | [] => (.nilslice, h)
  | x :: l => (.slice h.next 0 (x :: l).length 1 none, h.push (.cells ((x :: l).map (SV.int .i64)) (.grown none)))
noncomputable def xSortedI (fk : FuncId) : List SV → H → Option (SV × H)
  | [.func f [.ptr b 0]], h => bB (Nat.beq f fk) (match h.get b with
    | some (.cells [.map id] .fixed) => (match h.get id with
      | some (.map es c) => bO (keysOfI es) fun ks => bB (upI (sortI ks) && bornB 0 es c && shortI (sortI ks) && Nat.ble es.length 1048576) (some (sortedRowI h (sortI ks))) none
      | _ => none)
    | some (.cells [.nilmap] .fixed) => some (.nilslice, h)
    | _ => none) none
  | _, _ => none
theorem ints_rel {ι : Inj} : ∀ (l : List Int), LRel ι (l.map (SV.int .i64)) (l.map encZ) ∧ (l.map (SV.int .i64)).all SV.isCell = true
  | [] => ⟨rfl, rfl⟩
  | x :: l => ⟨.cons rfl (ints_rel l).1, by simp [SV.isCell]⟩
theorem xSortedI_ok (S : SortsKeysI P fs fk kt) :
    ∀ args h v h', xSortedI fk args h = some (v, h') → ∀ B ι w (us : Array Value), St B ι h w → LRel ι args us.toList → Answers P fs us w fun v' w' => ∃ ι', VRel ι' v v' ∧ Moves B ι h w ι' h' w' := by
  intro args h v h' hx B ι w us hs hl
  unfold xSortedI at hx
  split at hx
  · rename_i f b
    obtain ⟨hf, hx1⟩ := bB_some hx
    clear hx
    have hx := hx1
    clear hx1
    have hf := Nat.eq_of_beq_eq_true hf
    subst hf
    obtain ⟨u, r, e1, ⟨vs, hu, x, r', e2, ⟨bb, o, s, hb, hxv⟩, e3⟩, e4⟩ := hl
    have hvs : vs = #[x] := by apply Array.ext'; rw [e2, e3]
    subst hvs
    have hus : us = #[u] := by apply Array.ext'; rw [e1, e4]
    subst hus hu hxv
    have box : ∀ c, h.get b = some (.cells [c] .fixed) → ∃ y, o = 0 ∧ w.cell? ⟨bb, 0, none⟩ = some y ∧ VRel ι c y := by
      intro c hc
      obtain ⟨rc, el, fz, c1, c2, c3, c4, c5, c6, c7⟩ := cells_real hs.sim hb hc (by simp)
      obtain ⟨ho, _, _⟩ := c7 rfl
      subst ho
      obtain ⟨vs, hl', hall, hle', hcell⟩ := row_real hs.sim hb (show rowCells h.get b = some [c] by simp [rowCells, hc])
      obtain ⟨y, r, e, hy, _⟩ := hl'
      refine ⟨y, rfl, ?_, hy⟩
      have := hcell 0 y (by rw [e]; rfl)
      simpa using this
    have hbs := hs.sim.size hb
    split at hx
    · rename_i id hc
      obtain ⟨y, ho, hcell, mb, o2, s2, hid, hy⟩ := box _ hc
      subst ho hy
      split at hx
      · rename_i es c hm
        obtain ⟨ks, hk, hx⟩ := bO_some hx
        obtain ⟨hchk, hx⟩ := bB_some hx
        simp only [Bool.and_eq_true] at hchk
        obtain ⟨⟨⟨k1, k2⟩, k3⟩, k4⟩ := hchk
        have k4 := Nat.le_of_ble_eq_true k4
        have hx : sortedRowI h (sortI ks) = (v, h') := by simpa using hx
        obtain ⟨es', hh, her⟩ := map_real hs.sim hid hm
        obtain ⟨q1, q2⟩ := keysOfI_rel her hk
        obtain ⟨q3, q4⟩ := bornB_ok k2
        have hlen : es'.size = es.length := by have := congrArg List.length q2; simpa using this
        have hklen : ks.length = es.length := by have := congrArg List.length q1; simp at this; omega
        have hshort : ∀ x ∈ ks, -1048577 < x ∧ x < 1048577 := fun x hx => shortI_ok k3 x ((sortI_perm ks).mem_iff.2 hx)
        have hnd : ks.Nodup := (sortI_perm ks).nodup_iff.1 ((upI_pairwise _ k1).imp fun h e => by subst e; exact absurd h (Int.lt_irrefl _))
        let R : Value → Option (DataW Unit × List MemPlace) := fun _ => some (.nil, [])
        have hrd : ∀ x ∈ es'.toList, ∃ z : Int, z ∈ ks ∧ x.key = encZ z ∧ WideElems.rd P kt R x = some (.int .i64 z, .nil) := by
          intro x hx
          have : x.key ∈ es'.toList.map (·.key) := List.mem_map.2 ⟨x, hx, rfl⟩
          rw [q1] at this
          obtain ⟨z, hz, hzk⟩ := List.mem_map.1 this
          refine ⟨z, hz, hzk.symm, ?_⟩
          have hzl := hshort z hz
          have hky : keyOf P kt x.key = some (.int .i64 z) := by
            rw [← hzk]
            have : (Lit.int .i64 z).wf = true := by
              have e1 : IntKind.min .i64 = -9223372036854775808 := by decide
              have e2 : IntKind.max .i64 = 9223372036854775807 := by decide
              simp only [Lit.wf, e1, e2, Bool.and_eq_true, decide_eq_true_eq]
              omega
            simp [keyOf, S.key, mapKey, this]
          unfold WideElems.rd
          rw [hky]; rfl
        have hown : w.ownsMap P kt R mb es'.size (.map ((es'.toList.map (WideElems.rg P kt R)).foldr DataW.insert [])) := by
          refine ⟨es', c, hh, ⟨by unfold maxLen; omega, ⟨fun x hx => ?_, by rw [q2]; exact q4, ?_⟩, fun x hx => ?_⟩, Nat.le_refl _, rfl⟩
          · have : x.born ∈ es'.toList.map (·.born) := List.mem_map.2 ⟨x, hx, rfl⟩
            rw [q2] at this
            obtain ⟨z, hz, hzk⟩ := List.mem_map.1 this
            rw [← hzk]; exact (q3 z hz).2
          · rw [q1]
            exact List.pairwise_map.2 (hnd.imp fun h e => h (by simpa using e))
          · obtain ⟨z, _, _, h3⟩ := hrd x hx
            exact ⟨_, h3⟩
        have hperm : (intKeys (.map ((es'.toList.map (WideElems.rg P kt R)).foldr DataW.insert []))).Perm ks := by
          have e0 : ks = es'.toList.map fun x => _root_.Go.intOf (WideElems.rg P kt R x).1 := by
            have : ks.map (encZ) = (es'.toList.map fun x => _root_.Go.intOf (WideElems.rg P kt R x).1).map (encZ) := by
              rw [← q1, List.map_map]
              refine List.map_congr_left fun x hx => ?_
              obtain ⟨z, _, h2, h3⟩ := hrd x hx
              simp only [Function.comp, WideElems.rg_of h3, _root_.Go.intOf, h2]
            have inj : ∀ a b : List Int, a.map (encZ) = b.map (encZ) → a = b := by
              intro a
              induction a with
              | nil => intro b h; cases b <;> simp at h ⊢
              | cons x a ih =>
                intro b h
                cases b with
                | nil => simp at h
                | cons y b => simp at h; rw [h.1, ih b h.2]
            exact inj _ _ this
          rw [e0]
          show ((((es'.toList.map (WideElems.rg P kt R)).foldr DataW.insert []).map fun p => _root_.Go.intOf p.1)).Perm _
          have := (Go.WideShapes.sorted_perm (es'.toList.map (WideElems.rg P kt R))).map (fun p => _root_.Go.intOf p.1)
          rw [List.map_map] at this
          exact this
        have hsize : Maps.size (DataW.map ((es'.toList.map (WideElems.rg P kt R)).foldr DataW.insert [])) = es'.size := by
          rw [Maps.size_eq, DataW.length_sorted]; simp
        refine .inl ⟨S.enter _ _, (S.full bb mb _ _ R w hbs hcell hown (by rw [hsize]; unfold maxLen; omega) (by rw [hsize]; omega)).mono fun e w' ⟨v', ss, h1, h2, h3, h4, h5⟩ => ⟨v', h1, ?_⟩⟩
        have hsort : ss.mergeSort leI = sortI ks := by rw [mergeSort_of_perm_i (h2.trans hperm), sortI_merge k1]
        have hsl : (sortI ks).length = ss.length := by rw [← hsort]; exact List.length_mergeSort ..
        rw [hsort] at h3
        cases hss : sortI ks with
        | nil =>
          rw [hss] at hsl
          have : ss = [] := List.eq_nil_of_length_eq_zero hsl.symm
          have hv := h4.2 this
          rw [hss] at hx
          cases hx
          exact ⟨ι, by rw [hv]; rfl, .below hs h5⟩
        | cons a l =>
          rw [hss] at hsl h3
          have hne : ss ≠ [] := fun e => by rw [e] at hsl; simp at hsl
          rcases h3.2 with ⟨hv, _⟩ | ⟨g, cap, cur, hv, hg, hcell', hn, hcap, hcs, htk⟩
          · exact absurd (h4.1 hv) hne
          · have hrow := ints_rel (ι := ι) (a :: l)
            rw [← hsl] at hv hn htk
            rw [Nat.mul_one] at hcs htk
            rw [hss] at hx
            cases hx
            refine ⟨_, ⟨g, 0, cur.size, cap, upd_same, fun k e => by simp at e, hn, by omega, .inl hv⟩, .row hs h5 hg hcell' ?_ hrow.2 (by rw [List.length_map, hcs]; exact hn)⟩
            rw [List.length_map, htk]
            exact hrow.1
      · cases hx
    · rename_i hc
      obtain ⟨y, ho, hcell, hy⟩ := box _ hc
      subst ho
      simp only [VRel] at hy
      subst hy
      cases hx
      refine .inl ⟨S.enter _ _, (S.nilm bb w hbs hcell).mono fun e w' ⟨h1, h2⟩ => ⟨_, h1, ι, rfl, .below hs h2⟩⟩
    · cases hx
  · cases hx
end
end Go.Sh
end
