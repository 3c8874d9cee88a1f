/- Bitset: BitsetLaws answers true. -/
import Derived.Test.YtfcdldibfdoljaaDoorTyZT
set_option linter.unusedVariables false
set_option linter.unusedSimpArgs false
set_option linter.unusedSectionVars false
namespace Go.Proofs
open Go.Sh
set_option linter.unusedVariables false
attribute [local instance] tabHeld
noncomputable section
theorem zeroSet (h : H) : IsSet h .nilslice [] := ⟨⟨rfl, .inl ⟨rfl, rfl⟩⟩, fun _ h => by simp at h, Nat.zero_le _⟩
set_option maxRecDepth 20000 in
theorem Tryd.laws_end {g0 : H} {p7 p8 p9 p13 : Nat} {s r u x : SV} {a b c : List Nat} (ha : Neat a) (B0 : BL g0 p7 p8 p9 s r u x a b c) (c13 : g0.get p13 = some (.cells [.nilslice] .fixed)) {t : T} (k : Nat)
    (t7 : getP (way 7) t = some (.ptr p7 0)) (t10 : getP (way 10) t = some x) (t12 : getP (way 12) t = some (.bool true)) (t13 : getP (way 13) t = some (.ptr p13 0)) :
    Gets ((cSeq (cOps (oLet (sV ((xW 12))) fun v108 => oLet (sG (xC v108) true (sL (lLoad (some 1) (xW 7)))) fun v110 => oCap fun c3 => oLet (sG (xC v108) true (sC 10 [(xC v110)])) fun v111 => oCap fun d3 => oLet (sG (xC v108) true (sV ((xW 10)))) fun v112 => oCap fun c5 => oLet (sG (xC v108) true (sC 9 [(xC v111), (xC v112)])) fun v113 => oCap fun d5 => oLet (sV (vPick (xC v108) (xC v113) (xC (.bool false)))) fun v114 => oLet (sG (xC v114) true (sL (lLoad (some 1) (xW 13)))) fun v116 => oCap fun c9 => oLet (sG (xC v114) true (sC 12 [(xC v116)])) fun v117 => oCap fun d9 => oLet (sV (vPick (xC v114) (xC v117) (xC (.bool false)))) fun v118 => oLet (sG (xC v118) true (sL (lLoad (some 1) (xW 13)))) fun v120 => oLet (sG (xC v118) true (sL (lLoad (some 1) (xW 7)))) fun v121 => oCap fun c14 => oLet (sG (xC v118) true (sC 15 [(xC v120), (xC v121)])) fun v122 => oCap fun d14 => oLet (sG (xC v118) true (sLo [c14] d14.next (lLoad (some 1) (xW 7)))) fun v123 => oCap fun c16 => oLet (sG (xC v118) true (sC 19 [(xC v122), (xC v123)])) fun v124 => oCap fun d16 => oLet (sV (vPick (xC v118) (xC v124) (xC (.bool false)))) fun v125 => oLet (sG (xC v125) true (sL (lLoad (some 1) (xW 13)))) fun v127 => oLet (sG (xC v125) true (sL (lLoad (some 1) (xW 7)))) fun v128 => oCap fun c21 => oLet (sG (xC v125) true (sC 18 [(xC v127), (xC v128)])) fun v129 => oCap fun d21 => oLet (sV (vPick (xC v125) (xC v129) (xC (.bool false)))) fun v130 => oLet (sG (xC v130) true (sL (lLoad (some 1) (xW 13)))) fun v132 => oCap fun c25 => oLet (sG (xC v130) true (sC 11 [(xC v132)])) fun v133 => oCap fun d25 => oLet (sG (xC v130) true (sV (vEq .i64 (xC v133) (xC (.int .i64 0))))) fun v134 => oLet (sV (vPick (xC v130) (xC v134) (xC (.bool false)))) fun v135 => oCap fun c29 => oLet (sG (xC v135) true (sC 5 [])) fun v137 => oCap fun d29 => oLet (sV (vPick (xC v135) (xC v137) (xC (.bool false)))) fun v138 => oSet 6 (sV ((xC v138))) fun v6 => oEnd)) cRet) k Tryd.lc t g0) fun fl t' h' => fl = .ret ∧ getP (way 6) t' = some (.bool true) := by
  have eqs := eqSV_set B0.sS
  have hx : (nums a).length ≤ 65536 := by
    rw [nums_eq ha.len]
    have := List.length_filter_le (mem a) (List.range 65536)
    rw [List.length_range] at this
    exact this
  have l0 := B0.ld7
  obtain ⟨r1, g1, k1, R1⟩ := Tryd.list B0.sS
  have f1 := R1.2.1
  have B1 := B0.calm f1
  have k2 := Tryd.intsN R1.at B1.vx hx
  rw [decide_eq_true rfl] at k2
  have z1 := f1.get c13 (fun k => k)
  have l1 : loadV (some 1) g1.get (.ptr p13 0) = some (.agg [.nilslice]) := loadV_agg (rowCells_fixed z1)
  obtain ⟨g2, k3, f2⟩ := Tryd.empty (zeroSet g1)
  rw [zero_len rfl] at k3
  have B2 := B1.calm f2
  have z2 := f2.get z1 (fun k => k)
  have l2 : loadV (some 1) g2.get (.ptr p13 0) = some (.agg [.nilslice]) := loadV_agg (rowCells_fixed z2)
  have l2' := B2.ld7
  have m2 := B2.mix7
  obtain ⟨_, g3, k4, y1, rfl, s3, f3, _⟩ := Tryd.unionU (zeroSet g2) B2.sS
  rw [law8 ha] at s3
  have B3 := B2.calm f3
  have z3 := f3.get z2 (fun k => k)
  have l3 := B3.ld7
  obtain ⟨g4, k5, f4⟩ := Tryd.same s3 B3.sS
  rw [decide_eq_true rfl] at k5
  have B4 := B3.calm f4
  have z4 := f4.get z3 (fun k => k)
  have l4 : loadV (some 1) g4.get (.ptr p13 0) = some (.agg [.nilslice]) := loadV_agg (rowCells_fixed z4)
  have l4' := B4.ld7
  obtain ⟨g5, k6, f5⟩ := Tryd.withinU (zeroSet g4) B4.sS
  rw [zero_len (law9 ha)] at k6
  have z5 := f5.get z4 (fun k => k)
  have l5 : loadV (some 1) g5.get (.ptr p13 0) = some (.agg [.nilslice]) := loadV_agg (rowCells_fixed z5)
  obtain ⟨r6, g6, k7, rfl, f6⟩ := Tryd.len (zeroSet g5)
  have e7 : eqI (((nums []).length : Nat) : Int) 0 = true := rfl
  generalize (nums []).length = n0 at *
  have k8 := Tryd.awake g6
  clear B0 B1 B2 B3 B4 s3 R1
  simp [↓ kq, kq, ↓ ko, ko, ↓ kt, ↓ kz, kb, kv, kt, kx, t7, t10, t12, t13, eqs, l0, k1, k2, l1, k3, l2, l2', m2, k4, l3, k5, l4, l4', k6, l5, k7, e7, k8, gets_some, -bO_of, -bB_true, -bB_false, -H.next_push, -Int.natCast_add]
theorem Tryd.laws {h : H} {A B C : SV} {aa bb cc : List Int} (wA : IntsAt h A aa) (wB : IntsAt h B bb) (wC : IntsAt h C cc) (la' : aa.length < 9223372036854775808) (lb' : bb.length < 9223372036854775808) (lc' : cc.length < 9223372036854775808) : ∃ v h', Tryd.lc 4 [A, B, C] h = some (v, h') ∧ v = .bool true := by
  have lA := wA.length
  have lB := wB.length
  have lC := wC.length
  have aw := Tryd.awake h
  by_cases la : 200 < aa.length
  · have e1 : ltI 200 (aa.length : Int) = true := by rw [ltI_eq]; exact decide_eq_true (by omega)
    refine Tryd.enG (n := 1) (kf := Tryd.k4) (by kernel_rfl) Tryd.k4_eq rfl ?_
    simp [↓ kq, kq, ↓ ko, ko, ↓ kt, ↓ kz, kb, kv, kt, kx, lA, e1, aw, kc, oneS, gets_some, -bO_of, -bB_true, -bB_false, -H.next_push, -Int.natCast_add]
  have e1 : ltI 200 (aa.length : Int) = false := by rw [ltI_eq]; exact decide_eq_false (by omega)
  by_cases lb : 200 < bb.length
  · have e2 : ltI 200 (bb.length : Int) = true := by rw [ltI_eq]; exact decide_eq_true (by omega)
    refine Tryd.enG (n := 1) (kf := Tryd.k4) (by kernel_rfl) Tryd.k4_eq rfl ?_
    simp [↓ kq, kq, ↓ ko, ko, ↓ kt, ↓ kz, kb, kv, kt, kx, lA, lB, e1, e2, aw, kc, oneS, gets_some, -bO_of, -bB_true, -bB_false, -H.next_push, -Int.natCast_add]
  have e2 : ltI 200 (bb.length : Int) = false := by rw [ltI_eq]; exact decide_eq_false (by omega)
  by_cases lc : 200 < cc.length
  · have e3 : ltI 200 (cc.length : Int) = true := by rw [ltI_eq]; exact decide_eq_true (by omega)
    refine Tryd.enG (n := 1) (kf := Tryd.k4) (by kernel_rfl) Tryd.k4_eq rfl ?_
    simp [↓ kq, kq, ↓ ko, ko, ↓ kt, ↓ kz, kb, kv, kt, kx, lA, lB, lC, e1, e2, e3, aw, kc, oneS, gets_some, -bO_of, -bB_true, -bB_false, -H.next_push, -Int.natCast_add]
  have e3 : ltI 200 (cc.length : Int) = false := by rw [ltI_eq]; exact decide_eq_false (by omega)
  obtain ⟨_, g1, k1, s, rfl, s1, f1, _⟩ := Tryd.of wA (by omega)
  have wB1 : IntsAt g1 B bb := wB.keep f1 fun _ _ k => k
  obtain ⟨_, g2, k2, r, rfl, s2, f2, _⟩ := Tryd.of wB1 (by omega)
  have wC2 : IntsAt g2 C cc := wC.keep (f1.trans f2) fun _ _ k => k
  obtain ⟨_, g3, k3, u, rfl, s3, f3, _⟩ := Tryd.of wC2 (by omega)
  have S1 := (s1.calm f2).calm f3
  have S2 := s2.calm f3
  generalize hh4 : g3.push (.cells [.nilslice] .fixed) = g4
  have f4 : Fr (fun _ => False) (fun _ => False) g3 g4 := by rw [← hh4]; exact .push
  generalize hh5 : g4.push (.cells [.nilslice] .fixed) = g5
  have f5 : Fr (fun _ => False) (fun _ => False) g4 g5 := by rw [← hh5]; exact .push
  generalize hh6 : g5.push (.cells [.nilslice] .fixed) = g6
  have f6 : Fr (fun _ => False) (fun _ => False) g5 g6 := by rw [← hh6]; exact .push
  have n4 : g4.next = g3.next + 1 := by rw [← hh4]; rfl
  have n5 : g5.next = g4.next + 1 := by rw [← hh5]; rfl
  have n6 : g6.next = g5.next + 1 := by rw [← hh6]; rfl
  have c7 : g6.get g3.next = some (.cells [.nilslice] .fixed) := f6.get (f5.get (by rw [← hh4, H.get_push, if_pos rfl]) (fun k => k)) (fun k => k)
  have c8 : g6.get g4.next = some (.cells [.nilslice] .fixed) := f6.get (by rw [← hh5, H.get_push, if_pos rfl]) (fun k => k)
  have c9 : g6.get g5.next = some (.cells [.nilslice] .fixed) := by rw [← hh6, H.get_push, if_pos rfl]
  have st7 := storeV_agg (b := s) c7
  generalize hh7 : g6.put g3.next (.cells [s] .fixed) = g7 at st7
  have f7 : Fr (· = g3.next) (· = g3.next) g6 g7 := by rw [← hh7]; exact Fr.put (H.get_lt c7)
  have c7' : g7.get g3.next = some (.cells [s] .fixed) := by rw [← hh7]; exact get_put_self c7
  have c8' := f7.get c8 (by show ¬ g4.next = g3.next; omega)
  have c9' := f7.get c9 (by show ¬ g5.next = g3.next; omega)
  have st8 := storeV_agg (b := r) c8'
  generalize hh8 : g7.put g4.next (.cells [r] .fixed) = g8 at st8
  have f8 : Fr (· = g4.next) (· = g4.next) g7 g8 := by rw [← hh8]; exact Fr.put (H.get_lt c8')
  have c7'' := f8.get c7' (by show ¬ g3.next = g4.next; omega)
  have c8'' : g8.get g4.next = some (.cells [r] .fixed) := by rw [← hh8]; exact get_put_self c8'
  have c9'' := f8.get c9' (by show ¬ g5.next = g4.next; omega)
  have st9 := storeV_agg (b := u) c9''
  generalize hh9 : g8.put g5.next (.cells [u] .fixed) = g9 at st9
  have f9 : Fr (· = g5.next) (· = g5.next) g8 g9 := by rw [← hh9]; exact Fr.put (H.get_lt c9'')
  have d7 := f9.get c7'' (by show ¬ g3.next = g5.next; omega)
  have d8 := f9.get c8'' (by show ¬ g4.next = g5.next; omega)
  have d9 : g9.get g5.next = some (.cells [u] .fixed) := by rw [← hh9]; exact get_put_self c9''
  have F : Fr (fun q => g3.next ≤ q) (fun q => g3.next ≤ q) g3 g9 :=
    (((((f4.trans f5).trans f6).mono (fun _ _ k => k.elim) fun _ k => k.elim).trans (f7.mono (fun q _ (k : q = _) => by show _ ≤ q; omega) fun q (k : q = _) => .inl (by show _ ≤ q; omega))).trans (f8.mono (fun q _ (k : q = _) => by show _ ≤ q; omega) fun q (k : q = _) => .inl (by show _ ≤ q; omega))).trans (f9.mono (fun q _ (k : q = _) => by show _ ≤ q; omega) fun q (k : q = _) => .inl (by show _ ≤ q; omega))
  have F' : Fr (fun _ => False) (fun _ => True) g3 g9 := ⟨F.next, fun q hq _ => F.keep q hq (by show ¬ _ ≤ q; omega), fun m h1 h2 h3 => F.low m h1 h2 (fun q _ => h3 q trivial)⟩
  obtain ⟨x, g10, k10, R10⟩ := Tryd.list (S1.calm F')
  have f10 := R10.2.1
  have B0 : BL g10 g3.next g4.next g5.next s r u x (ofW aa) (ofW bb) (ofW cc) := ⟨f10.get d7 (fun k => k), f10.get d8 (fun k => k), f10.get d9 (fun k => k), (S1.calm F').calm f10, (S2.calm F').calm f10, (s3.calm F').calm f10, R10.at⟩
  have l9 : loadV (some 1) g9.get (.ptr g3.next 0) = some (.agg [s]) := loadV_agg (rowCells_fixed d7)
  have na := of_neat aa
  have nb := of_neat bb
  have nc := of_neat cc
  refine Tryd.enG (n := 1) (kf := Tryd.k4) (by kernel_rfl) Tryd.k4_eq rfl ?_
  generalize hc1 : (cOps (oLet (sV ((xW 11))) fun v36 => oLet (sL (lLoad (some 1) (xW 7))) fun v37 => oLet (sL (lLoad (some 1) (xW 8))) fun v38 => oCap fun c3 => oLet (sX (xC v36) [(xC v37), (xC v38)]) fun v39 => oCap fun d3 => oLet (sLo [c3] d3.next (lLoad (some 1) (xW 8))) fun v41 => oLet (sLo [c3] d3.next (lLoad (some 1) (xW 7))) fun v42 => oCap fun c7 => oLet (sX (xC v36) [(xC v41), (xC v42)]) fun v43 => oCap fun d7 => oCap fun c8 => oLet (sC 19 [(xC v39), (xC v43)]) fun v44 => oCap fun d8 => oLet (sG (xC v44) true (sV ((xC v36)))) fun v46 => oLet (sG (xC v44) true (sV ((xC v36)))) fun v47 => oLet (sG (xC v44) true (sL (lLoad (some 1) (xW 7)))) fun v48 => oLet (sG (xC v44) true (sL (lLoad (some 1) (xW 8)))) fun v49 => oCap fun c14 => oLet (sG (xC v44) true (sXs (xC v47) [(xC v48), (xC v49)])) fun v50 => oCap fun d14 => oLet (sG (xC v44) true (sLo [c14] d14.next (lLoad (some 1) (xW 9)))) fun v51 => oCap fun c16 => oLet (sG (xC v44) true (sXs (xC v46) [(xC v50), (xC v51)])) fun v52 => oCap fun d16 => oLet (sG (xC v44) true (sV ((xC v36)))) fun v53 => oLet (sG (xC v44) true (sLs (lLoad (some 1) (xW 7)))) fun v54 => oLet (sG (xC v44) true (sV ((xC v36)))) fun v55 => oLet (sG (xC v44) true (sLo [c16, c14] d16.next (lLoad (some 1) (xW 8)))) fun v56 => oLet (sG (xC v44) true (sLo [c16, c14] d16.next (lLoad (some 1) (xW 9)))) fun v57 => oCap fun c22 => oLet (sG (xC v44) true (sXs (xC v55) [(xC v56), (xC v57)])) fun v58 => oCap fun d22 => oCap fun c23 => oLet (sG (xC v44) true (sX (xC v53) [(xC v54), (xC v58)])) fun v59 => oCap fun d23 => oCap fun c24 => oLet (sG (xC v44) true (sC 19 [(xC v52), (xC v59)])) fun v60 => oCap fun d24 => oLet (sV (vPick (xC v44) (xC v60) (xC (.bool false)))) fun v61 => oLet (sG (xC v61) true (sL (lLoad (some 1) (xW 7)))) fun v63 => oLet (sG (xC v61) true (sL (lLoad (some 1) (xW 8)))) fun v64 => oCap fun c29 => oLet (sG (xC v61) true (sC 16 [(xC v63), (xC v64)])) fun v65 => oCap fun d29 => oLet (sG (xC v61) true (sLo [c29] d29.next (lLoad (some 1) (xW 7)))) fun v66 => oLet (sG (xC v61) true (sLo [c29] d29.next (lLoad (some 1) (xW 8)))) fun v67 => oCap fun c32 => oLet (sG (xC v61) true (sC 17 [(xC v66), (xC v67)])) fun v68 => oCap fun d32 => oCap fun c33 => oLet (sG (xC v61) true (sC 15 [(xC v65), (xC v68)])) fun v69 => oCap fun d33 => oLet (sG (xC v61) true (sLo [c33, c32, c29] d33.next (lLoad (some 1) (xW 7)))) fun v70 => oCap fun c35 => oLet (sG (xC v61) true (sC 19 [(xC v69), (xC v70)])) fun v71 => oCap fun d35 => oLet (sV (vPick (xC v61) (xC v71) (xC (.bool false)))) fun v72 => oLet (sG (xC v72) true (sL (lLoad (some 1) (xW 7)))) fun v74 => oLet (sG (xC v72) true (sL (lLoad (some 1) (xW 8)))) fun v75 => oCap fun c40 => oLet (sG (xC v72) true (sC 17 [(xC v74), (xC v75)])) fun v76 => oCap fun d40 => oLet (sG (xC v72) true (sLo [c40] d40.next (lLoad (some 1) (xW 8)))) fun v77 => oCap fun c42 => oLet (sG (xC v72) true (sC 18 [(xC v76), (xC v77)])) fun v78 => oCap fun d42 => oLet (sV (vPick (xC v72) (xC v78) (xC (.bool false)))) fun v79 => oLet (sG (xC v79) true (sLs (lLoad (some 1) (xW 7)))) fun v81 => oLet (sG (xC v79) true (sV ((xC v36)))) fun v82 => oLet (sG (xC v79) true (sL (lLoad (some 1) (xW 7)))) fun v83 => oLet (sG (xC v79) true (sL (lLoad (some 1) (xW 8)))) fun v84 => oCap fun c49 => oLet (sG (xC v79) true (sXs (xC v82) [(xC v83), (xC v84)])) fun v85 => oCap fun d49 => oCap fun c50 => oLet (sG (xC v79) true (sC 18 [(xC v81), (xC v85)])) fun v86 => oCap fun d50 => oLet (sV (vPick (xC v79) (xC v86) (xC (.bool false)))) fun v87 => oLet (sG (xC v87) true (sL (lLoad (some 1) (xW 7)))) fun v89 => oLet (sG (xC v87) true (sL (lLoad (some 1) (xW 8)))) fun v90 => oCap fun c55 => oLet (sG (xC v87) true (sC 16 [(xC v89), (xC v90)])) fun v91 => oCap fun d55 => oLet (sG (xC v87) true (sLo [c55] d55.next (lLoad (some 1) (xW 8)))) fun v92 => oCap fun c57 => oLet (sG (xC v87) true (sC 17 [(xC v91), (xC v92)])) fun v93 => oCap fun d57 => oCap fun c58 => oLet (sG (xC v87) true (sC 12 [(xC v93)])) fun v94 => oCap fun d58 => oLet (sV (vPick (xC v87) (xC v94) (xC (.bool false)))) fun v95 => oLet (sG (xC v95) true (sL (lLoad (some 1) (xW 7)))) fun v97 => oCap fun c62 => oLet (sG (xC v95) true (sCs 14 [(xC v97), (xC (.int .i64 5))])) fun v98 => oCap fun d62 => oLet (sG (xC v95) true (sN (aRow 1 1 [1] [(xC (.int .i64 5))]))) fun v99 => oCap fun c64 => oLet (sG (xC v95) true (sCs 6 [(xC v99)])) fun v100 => oCap fun d64 => oCap fun c65 => oLet (sG (xC v95) true (sCs 16 [(xC v98), (xC v100)])) fun v101 => oCap fun d65 => oLet (sG (xC v95) true (sLs (lLoad (some 1) (xW 7)))) fun v102 => oLet (sG (xC v95) true (sN (aRow 1 1 [1] [(xC (.int .i64 5))]))) fun v103 => oCap fun c68 => oLet (sG (xC v95) true (sCs 6 [(xC v103)])) fun v104 => oCap fun d68 => oCap fun c69 => oLet (sG (xC v95) true (sC 16 [(xC v102), (xC v104)])) fun v105 => oCap fun d69 => oCap fun c70 => oLet (sG (xC v95) true (sC 19 [(xC v101), (xC v105)])) fun v106 => oCap fun d70 => oLet (sV (vPick (xC v95) (xC v106) (xC (.bool false)))) fun v107 => oSet 12 (sV ((xC v107))) fun v12 => oEnd)) = c1
  generalize hc2 : (cSeq (cOps (oLet (sV ((xW 12))) fun v108 => oLet (sG (xC v108) true (sL (lLoad (some 1) (xW 7)))) fun v110 => oCap fun c3 => oLet (sG (xC v108) true (sC 10 [(xC v110)])) fun v111 => oCap fun d3 => oLet (sG (xC v108) true (sV ((xW 10)))) fun v112 => oCap fun c5 => oLet (sG (xC v108) true (sC 9 [(xC v111), (xC v112)])) fun v113 => oCap fun d5 => oLet (sV (vPick (xC v108) (xC v113) (xC (.bool false)))) fun v114 => oLet (sG (xC v114) true (sL (lLoad (some 1) (xW 13)))) fun v116 => oCap fun c9 => oLet (sG (xC v114) true (sC 12 [(xC v116)])) fun v117 => oCap fun d9 => oLet (sV (vPick (xC v114) (xC v117) (xC (.bool false)))) fun v118 => oLet (sG (xC v118) true (sL (lLoad (some 1) (xW 13)))) fun v120 => oLet (sG (xC v118) true (sL (lLoad (some 1) (xW 7)))) fun v121 => oCap fun c14 => oLet (sG (xC v118) true (sC 15 [(xC v120), (xC v121)])) fun v122 => oCap fun d14 => oLet (sG (xC v118) true (sLo [c14] d14.next (lLoad (some 1) (xW 7)))) fun v123 => oCap fun c16 => oLet (sG (xC v118) true (sC 19 [(xC v122), (xC v123)])) fun v124 => oCap fun d16 => oLet (sV (vPick (xC v118) (xC v124) (xC (.bool false)))) fun v125 => oLet (sG (xC v125) true (sL (lLoad (some 1) (xW 13)))) fun v127 => oLet (sG (xC v125) true (sL (lLoad (some 1) (xW 7)))) fun v128 => oCap fun c21 => oLet (sG (xC v125) true (sC 18 [(xC v127), (xC v128)])) fun v129 => oCap fun d21 => oLet (sV (vPick (xC v125) (xC v129) (xC (.bool false)))) fun v130 => oLet (sG (xC v130) true (sL (lLoad (some 1) (xW 13)))) fun v132 => oCap fun c25 => oLet (sG (xC v130) true (sC 11 [(xC v132)])) fun v133 => oCap fun d25 => oLet (sG (xC v130) true (sV (vEq .i64 (xC v133) (xC (.int .i64 0))))) fun v134 => oLet (sV (vPick (xC v130) (xC v134) (xC (.bool false)))) fun v135 => oCap fun c29 => oLet (sG (xC v135) true (sC 5 [])) fun v137 => oCap fun d29 => oLet (sV (vPick (xC v135) (xC v137) (xC (.bool false)))) fun v138 => oSet 6 (sV ((xC v138))) fun v6 => oEnd)) cRet) = c2
  simp [↓ kq, kq, ↓ ko, ko, ↓ kt, ↓ kz, kb, kv, kt, kx, lA, lB, lC, e1, e2, e3, k1, k2, k3, hh4, hh5, hh6, st7, st8, st9, l9, k10, -bO_of, -bB_true, -bB_false, -H.next_push, -Int.natCast_add]
  rw [← hc1]
  refine gets_next (Gets.mono (Tryd.laws_mid na nb nc (H.get_lt B0.c7) B0 1 ?_ ?_ ?_ ?_) fun fl t' h' ⟨b1, b2, b3, b4⟩ => ?_)
  · simp [kq]
  · simp [kq]
  · simp [kq]
  · simp [kq]
  subst b1
  generalize hh11 : h'.push (.cells [.nilslice] .fixed) = g11
  have f11 : Fr (fun _ => False) (fun _ => False) h' g11 := by rw [← hh11]; exact .push
  have c13 : g11.get h'.next = some (.cells [.nilslice] .fixed) := by rw [← hh11, H.get_push, if_pos rfl]
  simp [↓ kq, kq, ↓ ko, ko, ↓ kt, ↓ kz, kb, kv, kt, kx, hh11, -bO_of, -bB_true, -bB_false, -H.next_push, -Int.natCast_add]
  rw [← hc2]
  refine Gets.mono (Tryd.laws_end na (b3.calm f11) c13 1 ?_ ?_ ?_ ?_) fun fl t' h' ⟨b1, b2⟩ => ⟨.inr b1, _, by rw [kc.2.2.2, kc.2.1, b2, kc.2.2.1]; rfl, rfl⟩
  · rw [b2]; simp [kq]
  · rw [b2]; simp [kq]
  · rw [b2]; simp [kq]
  · simp [kq]
end
end Go.Proofs
