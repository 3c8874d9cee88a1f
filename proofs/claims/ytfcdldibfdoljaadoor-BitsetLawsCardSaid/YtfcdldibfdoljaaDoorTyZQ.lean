/- Bitset: any two lists of numbers. -/
import Derived.Test.YtfcdldibfdoljaaDoorTyZP
set_option linter.unusedVariables false
set_option linter.unusedSimpArgs false
set_option linter.unusedSectionVars false
namespace Go.Proofs
open Go.Sh
set_option linter.unusedVariables false
attribute [local instance] tabHeld
noncomputable section
theorem keq_bool (g : Nat → Option SObj) (w : Bool) : keq g .bool (.bool w) (.bool w) = some true := by cases w <;> rfl
theorem Tryd.glue1 {h : H} {A : SV} {aa : List Int} (wA : IntsAt h A aa) (hl : aa.length ≤ 200) (n : Int) :
    ∃ v9 g9 v11 g11, appendV 8 1 (h.push (.cells [] .fixed)) (.slice h.next 0 0 1 (some 0)) A = some (v9, g9) ∧ appendV 8 1 (g9.push (.cells [.int .i64 n] .fixed)) v9 (.slice g9.next 0 1 1 (some 1)) = some (v11, g11) ∧ IntsAt g11 v11 (aa ++ [n]) ∧ Fr (fun _ => False) (fun _ => False) h g11 := by
  have f1 : Fr (fun _ => False) (fun _ => False) h (h.push (.cells [] .fixed)) := .push
  have a0 : Ap (h.push (.cells [] .fixed)) (.slice h.next 0 0 1 (some 0)) 0 [] := .inr ⟨rfl, rfl, h.next, rfl, rowCells_push⟩
  obtain ⟨v9, g9, k9, a9, f9, r9⟩ := a0.append (wA.keep f1 fun _ _ k => k) (by omega)
  have f2 : Fr (fun _ => False) (fun _ => False) g9 (g9.push (.cells [.int .i64 n] .fixed)) := .push
  have a9' : Ap (g9.push (.cells [.int .i64 n] .fixed)) v9 (0 + aa.length) ([] ++ i64s aa) := by
    rcases a9 with a | ⟨e1, e2, id, e3, e4⟩
    · exact .inl (a.keep f2 fun _ _ k => k)
    · exact .inr ⟨e1, e2, id, e3, (rowCells_keep f2 (rowCells_lt e4) (fun k => k)).trans e4⟩
  obtain ⟨v11, g11, k11, a11, f11, r11⟩ := a9'.append (view_row rowCells_push rfl : View (g9.push (.cells [.int .i64 n] .fixed)) 1 (.slice g9.next 0 1 1 (some 1)) 1 [.int .i64 n]) (by omega)
  refine ⟨v9, g9, v11, g11, k9, k11, ?_, ?_⟩
  · have := a11.view
    simp only [Nat.zero_add, List.nil_append] at this
    rw [IntsAt, i64s_append, List.length_append, List.length_singleton]
    exact this
  · have n1 : (h.push (.cells [] .fixed)).next = h.next + 1 := rfl
    have hr9 : ∀ q, isRow v9 q → h.next ≤ q := fun q hq => by
      rcases r9 q hq with e | e
      · rw [show q = h.next from e]; exact Nat.le_refl _
      · omega
    exact Fr.new ((Fr.new f1 f9 (fun q e => by rw [show q = h.next from e]; exact Nat.le_refl _) (fun q e => e.elim)).trans f2) f11 hr9 (fun q e => e.elim)
theorem Tryd.glue2 {h : H} {A B : SV} {aa bb : List Int} (wA : IntsAt h A aa) (wB : IntsAt h B bb) (hl : aa.length ≤ 200) (hl2 : bb.length ≤ 200) :
    ∃ v9 g9 v11 g11, appendV 8 1 (h.push (.cells [] .fixed)) (.slice h.next 0 0 1 (some 0)) A = some (v9, g9) ∧ appendV 8 1 g9 v9 B = some (v11, g11) ∧ IntsAt g11 v11 (aa ++ bb) ∧ Fr (fun _ => False) (fun _ => False) h g11 := by
  have f1 : Fr (fun _ => False) (fun _ => False) h (h.push (.cells [] .fixed)) := .push
  have a0 : Ap (h.push (.cells [] .fixed)) (.slice h.next 0 0 1 (some 0)) 0 [] := .inr ⟨rfl, rfl, h.next, rfl, rowCells_push⟩
  obtain ⟨v9, g9, k9, a9, f9, r9⟩ := a0.append (wA.keep f1 fun _ _ k => k) (by omega)
  have n1 : (h.push (.cells [] .fixed)).next = h.next + 1 := rfl
  have F9 : Fr (fun _ => False) (fun _ => False) h g9 := Fr.new f1 f9 (fun q e => by rw [show q = h.next from e]; exact Nat.le_refl _) (fun q e => e.elim)
  obtain ⟨v11, g11, k11, a11, f11, r11⟩ := a9.append (wB.keep F9 fun _ _ k => k) (by omega)
  refine ⟨v9, g9, v11, g11, k9, k11, ?_, ?_⟩
  · have := a11.view
    rw [IntsAt, i64s_append, List.length_append]
    simpa using this
  · have hr9 : ∀ q, isRow v9 q → h.next ≤ q := fun q hq => by
      rcases r9 q hq with e | e
      · rw [show q = h.next from e]; exact Nat.le_refl _
      · omega
    exact Fr.new F9 f11 hr9 (fun q e => e.elim)
/-- What stands throughout. -/
structure BA (h : H) (p7 p8 : Nat) (A B s t x y mi an : SV) (aa bb : List Int) : Prop where
  c7 : h.get p7 = some (.cells [s] .fixed)
  c8 : h.get p8 = some (.cells [t] .fixed)
  sS : IsSet h s (ofW aa)
  sT : IsSet h t (ofW bb)
  vA : IntsAt h A aa
  vB : IntsAt h B bb
  vx : ListAt h x (mayN aa)
  vy : ListAt h y (mayN bb)
  vm : ListAt h mi (outOf (mayN bb) (mayN aa))
  va : ListAt h an (inOf (mayN bb) (mayN aa))
theorem BA.calm {h h' : H} {p7 p8 : Nat} {A B s t x y mi an : SV} {aa bb : List Int} (b : BA h p7 p8 A B s t x y mi an aa bb) (f : Fr (fun _ => False) (fun _ => False) h h') : BA h' p7 p8 A B s t x y mi an aa bb :=
  ⟨f.get b.c7 (fun k => k), f.get b.c8 (fun k => k), b.sS.calm f, b.sT.calm f, b.vA.keep f fun _ _ k => k, b.vB.keep f fun _ _ k => k, b.vx.keep f fun _ _ k => k, b.vy.keep f fun _ _ k => k, b.vm.keep f fun _ _ k => k, b.va.keep f fun _ _ k => k⟩
theorem ListRes.at {h h' : H} {l : List Nat} {r : SV} (k : ListRes h (ni l) r h') : ListAt h' r l := k.1
theorem len_small (l : List Nat) (h : l.length ≤ 65536) : eqI ((l.length : Nat) : Int) 0 = decide (l = []) := by
  rw [eqI_eq]
  apply decide_eq_decide.2
  constructor
  · intro e; exact List.eq_nil_of_length_eq_zero (by omega)
  · rintro rfl; rfl
set_option maxRecDepth 20000 in
set_option maxHeartbeats 4000000 in
theorem Tryd.asks_tail {h : H} {p7 p8 : Nat} {A B s u x y mi an : SV} {aa bb : List Int} {n : Int} (hn : n < 9223372036854775808) (la : aa.length ≤ 200) (lb : bb.length ≤ 200) (B0 : BA h p7 p8 A B s u x y mi an aa bb) {t : T} (k : Nat)
    (t0 : getP (way 0) t = some A) (t1 : getP (way 1) t = some B) (t2 : getP (way 2) t = some (.int .i64 n)) (t7 : getP (way 7) t = some (.ptr p7 0)) (t8 : getP (way 8) t = some (.ptr p8 0)) (t9 : getP (way 9) t = some x) (t10 : getP (way 10) t = some y) (t11 : getP (way 11) t = some mi) (t12 : getP (way 12) t = some an) (t13 : getP (way 13) t = some (.bool (decide (outOf (mayN bb) (mayN aa) = [])))) :
    Gets (((cSeq (cOps (oLet (sL (lLoad (some 1) (xW 7))) fun v58 => oLet (sC 10 [(xC v58)]) fun v59 => oLet (sV ((xW 9))) fun v60 => oLet (sC 9 [(xC v59), (xC v60)]) fun v61 => oLet (sG (xC v61) true (sL (lLoad (some 1) (xW 7)))) fun v63 => oLet (sG (xC v61) true (sC 11 [(xC v63)])) fun v64 => oLet (sG (xC v61) true (sV ((xC v60)))) fun v65 => oLet (sG (xC v61) true (sV (vLen (xC v65)))) fun v66 => oLet (sG (xC v61) true (sV (vEq .i64 (xC v64) (xC v66)))) fun v67 => oLet (sV (vPick (xC v61) (xC v67) (xC (.bool false)))) fun v68 => oLet (sG (xC v68) true (sL (lLoad (some 1) (xW 7)))) fun v70 => oLet (sG (xC v68) true (sC 12 [(xC v70)])) fun v71 => oLet (sG (xC v68) true (sV ((xC v60)))) fun v72 => oLet (sG (xC v68) true (sV (vLen (xC v72)))) fun v73 => oLet (sG (xC v68) true (sV (vEq .i64 (xC v73) (xC (.int .i64 0))))) fun v74 => oLet (sG (xC v68) true (sL (lEq .bool (xC v71) (xC v74)))) fun v75 => oLet (sV (vPick (xC v68) (xC v75) (xC (.bool false)))) fun v76 => oLet (sG (xC v76) true (sL (lLoad (some 1) (xW 7)))) fun v78 => oLet (sG (xC v76) true (sV ((xW 2)))) fun v79 => oLet (sG (xC v76) true (sC 13 [(xC v78), (xC v79)])) fun v80 => oLet (sG (xC v76) true (sV ((xC v60)))) fun v81 => oLet (sG (xC v76) true (sV ((xW 2)))) fun v82 => oLet (sG (xC v76) true (sC 8 [(xC v81), (xC v82)])) fun v83 => oLet (sG (xC v76) true (sL (lEq .bool (xC v80) (xC v83)))) fun v84 => oLet (sV (vPick (xC v76) (xC v84) (xC (.bool false)))) fun v85 => oLet (sG (xC v85) true (sL (lLoad (some 1) (xW 7)))) fun v87 => oLet (sG (xC v85) true (sV ((xW 2)))) fun v88 => oLet (sG (xC v85) true (sC 14 [(xC v87), (xC v88)])) fun v89 => oLet (sG (xC v85) true (sC 10 [(xC v89)])) fun v90 => oLet (sG (xC v85) true (sN (aRow 0 1 [] []))) fun v91 => oLet (sG (xC v85) true (sV ((xW 0)))) fun v92 => oLet (sG (xC v85) true (sM (tAppend 8 1 (xC v91) (xC v92)))) fun v93 => oLet (sG (xC v85) true (sV ((xW 2)))) fun v94 => oLet (sG (xC v85) true (sN (aRow 1 1 [1] [(xC v94)]))) fun v95 => oLet (sG (xC v85) true (sM (tAppend 8 1 (xC v93) (xC v95)))) fun v96 => oLet (sG (xC v85) true (sC 7 [(xC v96)])) fun v97 => oLet (sG (xC v85) true (sC 9 [(xC v90), (xC v97)])) fun v98 => oLet (sV (vPick (xC v85) (xC v98) (xC (.bool false)))) fun v99 => oLet (sG (xC v99) true (sL (lLoad (some 1) (xW 7)))) fun v101 => oLet (sG (xC v99) true (sL (lLoad (some 1) (xW 8)))) fun v102 => oLet (sG (xC v99) true (sC 15 [(xC v101), (xC v102)])) fun v103 => oLet (sG (xC v99) true (sC 10 [(xC v103)])) fun v104 => oLet (sG (xC v99) true (sN (aRow 0 1 [] []))) fun v105 => oLet (sG (xC v99) true (sV ((xW 0)))) fun v106 => oLet (sG (xC v99) true (sM (tAppend 8 1 (xC v105) (xC v106)))) fun v107 => oLet (sG (xC v99) true (sV ((xW 1)))) fun v108 => oLet (sG (xC v99) true (sM (tAppend 8 1 (xC v107) (xC v108)))) fun v109 => oLet (sG (xC v99) true (sC 7 [(xC v109)])) fun v110 => oLet (sG (xC v99) true (sC 9 [(xC v104), (xC v110)])) fun v111 => oLet (sV (vPick (xC v99) (xC v111) (xC (.bool false)))) fun v112 => oLet (sG (xC v112) true (sL (lLoad (some 1) (xW 7)))) fun v114 => oLet (sG (xC v112) true (sL (lLoad (some 1) (xW 8)))) fun v115 => oLet (sG (xC v112) true (sC 16 [(xC v114), (xC v115)])) fun v116 => oLet (sG (xC v112) true (sC 10 [(xC v116)])) fun v117 => oLet (sG (xC v112) true (sV ((xW 11)))) fun v118 => oLet (sG (xC v112) true (sC 9 [(xC v117), (xC v118)])) fun v119 => oLet (sV (vPick (xC v112) (xC v119) (xC (.bool false)))) fun v120 => oLet (sG (xC v120) true (sL (lLoad (some 1) (xW 7)))) fun v122 => oLet (sG (xC v120) true (sL (lLoad (some 1) (xW 8)))) fun v123 => oLet (sG (xC v120) true (sC 17 [(xC v122), (xC v123)])) fun v124 => oLet (sG (xC v120) true (sC 10 [(xC v124)])) fun v125 => oLet (sG (xC v120) true (sV ((xW 12)))) fun v126 => oLet (sG (xC v120) true (sC 9 [(xC v125), (xC v126)])) fun v127 => oLet (sV (vPick (xC v120) (xC v127) (xC (.bool false)))) fun v128 => oLet (sG (xC v128) true (sL (lLoad (some 1) (xW 7)))) fun v130 => oLet (sG (xC v128) true (sL (lLoad (some 1) (xW 8)))) fun v131 => oLet (sG (xC v128) true (sC 18 [(xC v130), (xC v131)])) fun v132 => oLet (sG (xC v128) true (sV ((xW 13)))) fun v133 => oLet (sG (xC v128) true (sL (lEq .bool (xC v132) (xC v133)))) fun v134 => oLet (sV (vPick (xC v128) (xC v134) (xC (.bool false)))) fun v135 => oLet (sG (xC v135) true (sL (lLoad (some 1) (xW 7)))) fun v137 => oLet (sG (xC v135) true (sL (lLoad (some 1) (xW 8)))) fun v138 => oLet (sG (xC v135) true (sC 19 [(xC v137), (xC v138)])) fun v139 => oLet (sG (xC v135) true (sV ((xC v60)))) fun v140 => oLet (sG (xC v135) true (sV ((xW 10)))) fun v141 => oLet (sG (xC v135) true (sC 9 [(xC v140), (xC v141)])) fun v142 => oLet (sG (xC v135) true (sL (lEq .bool (xC v139) (xC v142)))) fun v143 => oLet (sV (vPick (xC v135) (xC v143) (xC (.bool false)))) fun v144 => oLet (sG (xC v144) true (sC 5 [])) fun v146 => oLet (sV (vPick (xC v144) (xC v146) (xC (.bool false)))) fun v147 => oSet 6 (sV ((xC v147))) fun v6 => oEnd))
 cRet)) k Tryd.lc t h) fun fl t' h' => fl = .ret ∧ getP (way 6) t' = some (.bool true) := by
  have kcat0 : kcat [] [] = some [] := rfl
  have hx := mayN_len aa
  have hy := mayN_len bb
  have l1 := loadV_agg (rowCells_fixed B0.c7)
  obtain ⟨r1, g1, k1, R1⟩ := Tryd.list B0.sS
  have L1 := R1.at
  rw [nums_of] at L1
  have B1 := B0.calm R1.2.1
  have k2 := Tryd.intsN L1 B1.vx hx
  rw [decide_eq_true rfl] at k2
  have l3 := loadV_agg (rowCells_fixed B1.c7)
  obtain ⟨r3, g3, k3, rfl, f3⟩ := Tryd.len B1.sS
  rw [nums_of] at k3
  have B3 := B1.calm f3
  have e3 := eqI_self (((mayN aa).length : Nat) : Int)
  have n3 := B3.vx.length
  rw [ni_len] at n3
  have l4 := loadV_agg (rowCells_fixed B3.c7)
  obtain ⟨g4, k4, f4⟩ := Tryd.empty B3.sS
  rw [len_zero (of_neat aa), nums_of] at k4
  have B4 := B3.calm f4
  have e4 := len_small (mayN aa) hx
  have n4 := B4.vx.length
  rw [ni_len] at n4
  have l5 := loadV_agg (rowCells_fixed B4.c7)
  obtain ⟨g5, k5, f5⟩ := Tryd.has B4.sS n hn
  rw [has_of] at k5
  have B5 := B4.calm f5
  have k6 := Tryd.hasN B5.vx hx n
  have l6 := loadV_agg (rowCells_fixed B5.c7)
  obtain ⟨r6, g6, k7, v6, rfl, s6, f6, _⟩ := Tryd.withN B5.sS n
  rw [with_of] at s6
  have B6 := B5.calm f6
  obtain ⟨r7, g7, k8, R7⟩ := Tryd.list s6
  have L7 := R7.at
  rw [nums_of] at L7
  have B7 := B6.calm R7.2.1
  obtain ⟨v8, g8, v9, g9, k9, k10, w9, f9⟩ := Tryd.glue1 B7.vA la n
  obtain ⟨r10, g10, k11, R10⟩ := Tryd.may w9 (by simp; omega)
  have f10 := f9.trans R10.2.1
  have B10 := B7.calm f10
  have k12 := Tryd.intsN (L7.keep f10 fun _ _ k => k) R10.at (mayN_len _)
  rw [decide_eq_true rfl] at k12
  generalize hp1 : g7.push (.cells [] .fixed) = q1 at k9
  generalize hp2 : g8.push (.cells [.int .i64 n] .fixed) = q2 at k10
  have l11 := loadV_agg (rowCells_fixed B10.c7)
  have l11' := loadV_agg (rowCells_fixed B10.c8)
  obtain ⟨r11, g11, k13, v11, rfl, s11, f11, _⟩ := Tryd.union B10.sS B10.sT
  have B11 := B10.calm f11
  obtain ⟨r12, g12, k14, R12⟩ := Tryd.list s11
  have L12 := R12.at
  rw [nums_union] at L12
  have B12 := B11.calm R12.2.1
  obtain ⟨v13, g13, v14, g14, k15, k16, w14, f14⟩ := Tryd.glue2 B12.vA B12.vB la lb
  obtain ⟨r15, g15, k17, R15⟩ := Tryd.may w14 (by simp; omega)
  have f15 := f14.trans R15.2.1
  have B15 := B12.calm f15
  have k18 := Tryd.intsN (L12.keep f15 fun _ _ k => k) R15.at (mayN_len _)
  rw [decide_eq_true rfl] at k18
  generalize hp3 : g12.push (.cells [] .fixed) = q3 at k15
  have l16 := loadV_agg (rowCells_fixed B15.c7)
  have l16' := loadV_agg (rowCells_fixed B15.c8)
  obtain ⟨r16, g16, k19, v16, rfl, s16, f16, _⟩ := Tryd.take B15.sS B15.sT
  have B16 := B15.calm f16
  obtain ⟨r17, g17, k20, R17⟩ := Tryd.list s16
  have L17 : ListAt g17 r17 (outOf (mayN bb) (mayN aa)) := by have := R17.at; rw [nums_take] at this; exact this
  have B17 := B16.calm R17.2.1
  have ho : (outOf (mayN bb) (mayN aa)).length ≤ 65536 := Nat.le_trans (List.length_filter_le _ _) hx
  have hi : (inOf (mayN bb) (mayN aa)).length ≤ 65536 := Nat.le_trans (List.length_filter_le _ _) hx
  have k21 := Tryd.intsN L17 B17.vm ho
  rw [decide_eq_true rfl] at k21
  have l18 := loadV_agg (rowCells_fixed B17.c7)
  have l18' := loadV_agg (rowCells_fixed B17.c8)
  obtain ⟨r18, g18, k22, v18, rfl, s18, f18, _⟩ := Tryd.both B17.sS B17.sT
  have B18 := B17.calm f18
  obtain ⟨r19, g19, k23, R19⟩ := Tryd.list s18
  have L19 : ListAt g19 r19 (inOf (mayN bb) (mayN aa)) := by have := R19.at; rw [nums_both] at this; exact this
  have B19 := B18.calm R19.2.1
  have k24 := Tryd.intsN L19 B19.va hi
  rw [decide_eq_true rfl] at k24
  have l20 := loadV_agg (rowCells_fixed B19.c7)
  have l20' := loadV_agg (rowCells_fixed B19.c8)
  obtain ⟨g20, k25, f20⟩ := Tryd.within B19.sS B19.sT
  rw [len_zero (take_neat (of_neat aa) (of_neat bb)), nums_take] at k25
  have k25 : Tryd.lc 18 [.agg [s], .agg [u]] g19 = some (.bool (decide (outOf (mayN bb) (mayN aa) = [])), g20) := k25
  have B20 := B19.calm f20
  have l21 := loadV_agg (rowCells_fixed B20.c7)
  have l21' := loadV_agg (rowCells_fixed B20.c8)
  obtain ⟨g21, k26, f21⟩ := Tryd.same B20.sS B20.sT
  rw [same_of] at k26
  have B21 := B20.calm f21
  have k27 := Tryd.intsN B21.vx B21.vy hx
  have k28 := Tryd.awake g21
  generalize (mayN aa).length = m1 at *
  generalize decide (mayN aa = []) = w1 at *
  generalize decide (n ∈ (mayN aa).map fun (k : Nat) => (k : Int)) = w2 at *
  generalize decide (outOf (mayN bb) (mayN aa) = []) = w3 at *
  generalize decide (mayN aa = mayN bb) = w4 at *
  clear B0 B1 B3 B4 B5 B6 B7 B10 B11 B12 B15 B16 B17 B18 B19 B20 B21 R1 L1 R7 L7 R10 R12 L12 R15 R17 L17 R19 L19 s6 s11 s16 s18 w9 w14
  simp [↓ kq, kq, ↓ ko, ko, ↓ kt, kb, kv, kt, kx, t0, t1, t2, t7, t8, t9, t10, t11, t12, t13, l1, k1, k2, l3, k3, e3, n3, l4, k4, e4, n4, l5, k5, k6, l6, k7, k8, k9, k10, k11, k12, hp1, hp2, l11, l11', k13, k14, k15, k16, k17, k18, hp3, l16, l16', k19, k20, k21, l18, l18', k22, k23, k24, l20, l20', k25, l21, l21', k26, k27, k28, keq_bool, kcat0, gets_some, -bO_of, -bB_true, -bB_false, -H.next_push, -Int.natCast_add]
end
end Go.Proofs
