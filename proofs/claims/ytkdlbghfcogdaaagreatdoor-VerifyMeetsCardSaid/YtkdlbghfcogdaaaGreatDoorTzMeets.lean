/- VerifyMeets: what it answers, by the kernel, at each remainder of its first two arguments. -/
import Derived.Test.YtkdlbghfcogdaaaGreatDoorTzY
set_option linter.unusedVariables false
set_option linter.unusedSimpArgs false
set_option linter.unusedSectionVars false
namespace Go.Proofs
open Go.Sh
set_option linter.unusedVariables false
set_option maxRecDepth 100000
noncomputable section
theorem _root_.Go.Sh.sV_same {f : XF} {c : CF} {m : Nat} {t : T} {h : H} {k k' : SV → H → FR} (e : ∀ v, f t = some v → k v h = k' v h) : sV f c m t h k = sV f c m t h k' := by
  show bO (f t) _ = bO (f t) _
  cases x : f t with
  | none => rfl
  | some v => exact e v x
theorem _root_.Go.Sh.sLs_same {f : LF} {c : CF} {m : Nat} {t : T} {h : H} {k k' : SV → H → FR} (e : ∀ v, k v h = k' v h) : sLs f c m t h k = sLs f c m t h k' := by
  show bO (f _ t) _ = bO (f _ t) _
  cases x : f (getTo h m) t with
  | none => rfl
  | some v => exact e v
def _root_.Go.Sh.sKeep (v : SV) : SF := fun _ m _ h k => on2 (lower m h.low (some (v, ⟨h.next, m, h.tr⟩))) k
def Tryz.s5_0 : Cd := (cOps (oSet 6 (sV ((xC (.bool false)))) fun v6 => oEnd))
def Tryz.s5_1 : Cd := (cOps (oLet (sV (vFill [.str [], .str [], .bool false, .bool false, .nilslice, .nilslice, .nilslice] [(0, 1), (1, 1)] [(xC (.str [65])), (xC (.str [79, 98, 106, 101, 99, 116]))])) fun v21 => oLet (sV (vFill [.str [], .str [], .bool false, .bool false, .nilslice, .nilslice, .nilslice] [(0, 1), (1, 1)] [(xC (.str [66])), (xC (.str [65]))])) fun v22 => oLet (sV (vFill [.str [], .str [], .bool false, .bool false, .nilslice, .nilslice, .nilslice] [(0, 1), (1, 1)] [(xC (.str [67])), (xC (.str [65]))])) fun v23 => oLet (sN (aRow 3 7 [7, 7, 7] [(xC v21), (xC v22), (xC v23)])) fun v24 => oLet (sC 12 [(xC v24)]) fun v25 => oLet (sV (vExtract 0 (xC v25))) fun v26 => oLet (sV (vExtract 1 (xC v25))) fun v27 => oLet (sV (vExtract 2 (xC v25))) fun v28 => oSet 7 (sV ((xC v26))) fun v7 => oSet 8 (sV ((xC v27))) fun v8 => oEnd))
def Tryz.s5_2 : Cd := (cOps (oLet (sV ((xW 8))) fun v29 => oLet (sV (vNe .i64 (xC v29) (xC (.int .i64 0)))) fun v30 => oLet (sG (xC v30) false (sV ((xW 7)))) fun v32 => oLet (sG (xC v30) false (sL (lEq (.ptr true) (xC v32) (xC (.nilptr))))) fun v33 => oSet 34 (sV (vPick (xC v30) (xC (.bool true)) (xC v33))) fun v34 => oEnd))
def Tryz.s5_3 : Cd := (cCond (xW 34) (cSeq (cOps (oSet 6 (sV ((xC (.bool false)))) fun v6 => oEnd))
 cRet)
 cSkip)
def Tryz.s5_4 : Cd := (cOps (oLet (sV (vFill [.int .i64 0, .int .i64 0, .int .i64 0, .str [], .str [], .str []] [(0, 1)] [(xC (.int .i64 2))])) fun v35 => oLet (sV (vFill [.int .i64 0, .int .i64 0, .int .i64 0, .str [], .str [], .str []] [(0, 1)] [(xC (.int .i64 3))])) fun v36 => oLet (sV (vFill [.int .i64 0, .int .i64 0, .int .i64 0, .str [], .str [], .str []] [(0, 1)] [(xC (.int .i64 4))])) fun v37 => oLet (sV (vFill [.int .i64 0, .int .i64 0, .int .i64 0, .str [], .str [], .str []] [(0, 1)] [(xC (.int .i64 1))])) fun v38 => oLet (sN (aRow 4 6 [6, 6, 6, 6] [(xC v35), (xC v36), (xC v37), (xC v38)])) fun v39 => oSet 10 (sV ((xC v39))) fun v10 => oEnd))
def Tryz.r5 : OF := (oLet (sV ((xW 10))) fun v40 => oLet (sV ((xW 0))) fun v41 => oLet (sC 13 [(xC v41), (xC (.int .i64 4))]) fun v42 => oLet (sV (vIdx 6 (xC v40) (xC v42))) fun v43 => oLet (sLs (lLoad (some 6) (xC v43))) fun v44 => oLet (sV ((xW 1))) fun v46 => oLet (sCs 13 [(xC v46), (xC (.int .i64 4))]) fun v47 => oLet (sV (vIdx 6 (xC v40) (xC v47))) fun v48 => oLet (sLs (lLoad (some 6) (xC v48))) fun v49 => oSet 11 (sN (aAlloc [.int .i64 0, .int .i64 0, .int .i64 0, .str [], .str [], .str []])) fun v11 => oSet 12 (sN (aAlloc [.int .i64 0, .int .i64 0, .int .i64 0, .str [], .str [], .str []])) fun v12 => oDo (sMs (tStore 6 (xC v11) (xC v44))) (oDo (sM (tStore 6 (xC v12) (xC v49))) (oEnd)))
def Tryz.q5 (r s : Int) : OF := (oLet (sV ((xW 10))) fun v40 => oLet (sV ((xW 0))) fun v41 => oLet (sV (xC (.int .i64 r))) fun v42 => oLet (sV (vIdx 6 (xC v40) (xC v42))) fun v43 => oLet (sLs (lLoad (some 6) (xC v43))) fun v44 => oLet (sV ((xW 1))) fun v46 => oLet (sKeep (.int .i64 s)) fun v47 => oLet (sV (vIdx 6 (xC v40) (xC v47))) fun v48 => oLet (sLs (lLoad (some 6) (xC v48))) fun v49 => oSet 11 (sN (aAlloc [.int .i64 0, .int .i64 0, .int .i64 0, .str [], .str [], .str []])) fun v11 => oSet 12 (sN (aAlloc [.int .i64 0, .int .i64 0, .int .i64 0, .str [], .str [], .str []])) fun v12 => oDo (sMs (tStore 6 (xC v11) (xC v44))) (oDo (sM (tStore 6 (xC v12) (xC v49))) (oEnd)))
def Tryz.s5_6 : Cd := (cOps (oLet (sV (vFill [.int .i64 0, .int .i64 0, .int .i64 0, .str [], .str [], .str []] [(0, 1)] [(xC (.int .i64 7))])) fun v50 => oSet 13 (sN (aAlloc [.int .i64 0, .int .i64 0, .int .i64 0, .str [], .str [], .str []])) fun v13 => oDo (sM (tStore 6 (xC v13) (xC v50))) (oEnd)))
def Tryz.s5_7 : Cd := (cOps (oSet 51 (sV ((xW 2))) fun v51 => oEnd))
def Tryz.s5_8 : Cd := (cCond (xW 51) (cOps (oLet (sV (vFill [.int .i64 0, .int .i64 0, .int .i64 0, .str [], .str [], .str []] [(0, 1), (1, 1)] [(xC (.int .i64 18)), (xC (.int .i64 6))])) fun v52 => oDo (sM (tStore 6 (xW 13) (xC v52))) (oEnd)))
 cSkip)
def Tryz.s5_9 : Cd := (cOps (oLet (sV (vFill [.int .i64 0, .int .i64 0, .int .i64 0, .str [], .str [], .str []] [(0, 1), (3, 1), (4, 1), (5, 1)] [(xC (.int .i64 32)), (xC (.str [83, 121, 115])), (xC (.str [112, 105, 99, 107])), (xC (.str [40, 41, 73]))])) fun v53 => oLet (sV (vFill [.int .i64 0, .int .i64 0, .int .i64 0, .str [], .str [], .str []] [(0, 1), (1, 1)] [(xC (.int .i64 18)), (xC (.int .i64 4))])) fun v54 => oLet (sL (lLoad (some 6) (xW 11))) fun v55 => oLet (sV (vFill [.int .i64 0, .int .i64 0, .int .i64 0, .str [], .str [], .str []] [(0, 1), (1, 1)] [(xC (.int .i64 17)), (xC (.int .i64 5))])) fun v56 => oLet (sL (lLoad (some 6) (xW 12))) fun v57 => oLet (sL (lLoad (some 6) (xW 13))) fun v58 => oLet (sV (vFill [.int .i64 0, .int .i64 0, .int .i64 0, .str [], .str [], .str []] [(0, 1)] [(xC (.int .i64 36))])) fun v59 => oLet (sN (aRow 7 6 [6, 6, 6, 6, 6, 6, 6] [(xC v53), (xC v54), (xC v55), (xC v56), (xC v57), (xC v58), (xC v59)])) fun v60 => oSet 14 (sV ((xC v60))) fun v14 => oEnd))
def Tryz.s5_10 : Cd := (cOps (oLet (sV ((xW 7))) fun v62 => oLet (sV ((xW 14))) fun v63 => oLet (sC 15 [(xC (.int .i64 2)), (xC (.int .i64 0)), (xC v63)]) fun v64 => oLet (sC 14 [(xC v62), (xC (.str [65])), (xC v64)]) fun v65 => oLet (sV (vExtract 0 (xC v65))) fun v66 => oLet (sV (vExtract 1 (xC v65))) fun v67 => oLet (sV (vExtract 2 (xC v65))) fun v68 => oLet (sV (vExtract 3 (xC v65))) fun v69 => oSet 18 (sN (aAlloc [.str [], .int .i64 0, .int .i64 0])) fun v18 => oSet 17 (sV ((xC v68))) fun v17 => oDo (sM (tStore 3 (xC v18) (xC v69))) (oEnd)))
def Tryz.s5_11 : Cd := (cOps (oSet 19 (sV ((xC (.func 17 [])))) fun v19 => oEnd))
def Tryz.s5_12 : Cd := (cBlock 0 (cSeq (cOps (oLet (sV ((xW 19))) fun v71 => oLet (sL (lLoad (some 6) (xW 11))) fun v72 => oLet (sXs (xC v71) [(xC v72)]) fun v73 => oLet (sLs (lLoad (some 6) (xW 12))) fun v75 => oLet (sX (xC v71) [(xC v75)]) fun v76 => oLet (sV (vNe .i64 (xC v73) (xC v76))) fun v77 => oSet 70 (sV ((xC v77))) fun v70 => oEnd))
 (cCond (xW 70) (cSeq (cOps (oLet (sV ((xW 17))) fun v78 => oLet (sV (vEq .i64 (xC v78) (xC (.int .i64 9)))) fun v79 => oLet (sG (xC v79) true (sV (vAddr 2 (xW 18)))) fun v81 => oLet (sG (xC v79) true (sL (lLoad none (xC v81)))) fun v82 => oLet (sG (xC v79) true (sV (vEq .i64 (xC v82) (xC (.int .i64 6))))) fun v83 => oLet (sG (xC v79) true (sV ((xC v83)))) fun v84 => oLet (sG (xC v84) false (sV (vAddr 2 (xW 18)))) fun v85 => oLet (sG (xC v84) false (sL (lLoad none (xC v85)))) fun v86 => oLet (sG (xC v84) false (sV (vEq .i64 (xC v86) (xC (.int .i64 1))))) fun v87 => oLet (sG (xC v79) true (sV (vPick (xC v84) (xC (.bool true)) (xC v87)))) fun v88 => oLet (sG (xC v79) true (sV ((xC v88)))) fun v89 => oLet (sG (xC v89) false (sV ((xW 2)))) fun v90 => oLet (sG (xC v89) false (sV ((xC v90)))) fun v91 => oLet (sG (xC v91) true (sV (vAddr 2 (xW 18)))) fun v92 => oLet (sG (xC v91) true (sL (lLoad none (xC v92)))) fun v93 => oLet (sG (xC v91) true (sV (vEq .i64 (xC v93) (xC (.int .i64 2))))) fun v94 => oLet (sG (xC v89) false (sV (vPick (xC v91) (xC v94) (xC (.bool false))))) fun v95 => oLet (sG (xC v79) true (sV (vPick (xC v89) (xC (.bool true)) (xC v95)))) fun v96 => oLet (sV (vPick (xC v79) (xC v96) (xC (.bool false)))) fun v97 => oLet (sG (xC v97) true (sC 16 [])) fun v99 => oLet (sV (vPick (xC v97) (xC v99) (xC (.bool false)))) fun v100 => oSet 6 (sV ((xC v100))) fun v6 => oEnd))
 cRet)
 (cSeq (cOps (oLet (sV ((xW 19))) fun v102 => oLet (sL (lLoad (some 6) (xW 11))) fun v103 => oLet (sX (xC v102) [(xC v103)]) fun v104 => oLet (sV (vEq .i64 (xC v104) (xC (.int .i64 0)))) fun v105 => oSet 101 (sV ((xC v105))) fun v101 => oEnd))
 (cCond (xW 101) (cSeq (cOps (oLet (sV ((xW 17))) fun v106 => oLet (sV (vEq .i64 (xC v106) (xC (.int .i64 9)))) fun v107 => oLet (sG (xC v107) true (sV (vAddr 2 (xW 18)))) fun v109 => oLet (sG (xC v107) true (sL (lLoad none (xC v109)))) fun v110 => oLet (sG (xC v107) true (sV (vEq .i64 (xC v110) (xC (.int .i64 1))))) fun v111 => oLet (sV (vPick (xC v107) (xC v111) (xC (.bool false)))) fun v112 => oLet (sG (xC v112) true (sC 16 [])) fun v114 => oLet (sV (vPick (xC v112) (xC v114) (xC (.bool false)))) fun v115 => oSet 6 (sV ((xC v115))) fun v6 => oEnd))
 cRet)
 (cSeq (cOps (oLet (sV ((xW 2))) fun v117 => oLet (sV (vUn .not (xC v117))) fun v118 => oSet 116 (sV ((xC v118))) fun v116 => oEnd))
 (cCond (xW 116) (cSeq (cOps (oLet (sV ((xW 17))) fun v119 => oLet (sV (vEq .i64 (xC v119) (xC (.int .i64 0)))) fun v120 => oLet (sG (xC v120) true (sC 16 [])) fun v122 => oLet (sV (vPick (xC v120) (xC v122) (xC (.bool false)))) fun v123 => oSet 6 (sV ((xC v123))) fun v6 => oEnd))
 cRet)
 cSkip)))))))
def Tryz.s5_13 : Cd := (cOps (oLet (sV ((xW 17))) fun v124 => oLet (sV (vEq .i64 (xC v124) (xC (.int .i64 0)))) fun v125 => oLet (sV (vAddr 0 (xW 11))) fun v126 => oLet (sL (lLoad none (xC v126))) fun v127 => oLet (sV (vEq .i64 (xC v127) (xC (.int .i64 2)))) fun v128 => oLet (sG (xC v128) true (sV (vAddr 0 (xW 12)))) fun v130 => oLet (sG (xC v128) true (sL (lLoad none (xC v130)))) fun v131 => oLet (sG (xC v128) true (sV (vEq .i64 (xC v131) (xC (.int .i64 2))))) fun v132 => oLet (sV (vPick (xC v128) (xC v132) (xC (.bool false)))) fun v133 => oLet (sL (lEq .bool (xC v125) (xC v133))) fun v134 => oLet (sG (xC v134) true (sV ((xC v124)))) fun v136 => oLet (sG (xC v134) true (sV (vEq .i64 (xC v136) (xC (.int .i64 0))))) fun v137 => oLet (sG (xC v134) true (sV ((xC v137)))) fun v138 => oLet (sG (xC v138) false (sV (vAddr 2 (xW 18)))) fun v139 => oLet (sG (xC v138) false (sL (lLoad none (xC v139)))) fun v140 => oLet (sG (xC v138) false (sV (vEq .i64 (xC v140) (xC (.int .i64 2))))) fun v141 => oLet (sG (xC v134) true (sV (vPick (xC v138) (xC (.bool true)) (xC v141)))) fun v142 => oLet (sV (vPick (xC v134) (xC v142) (xC (.bool false)))) fun v143 => oLet (sG (xC v143) true (sC 16 [])) fun v145 => oLet (sV (vPick (xC v143) (xC v145) (xC (.bool false)))) fun v146 => oSet 6 (sV ((xC v146))) fun v6 => oEnd))
def Tryz.s5_14 : Cd := cRet

def Tryz.a5 : Cd := (cSeq Tryz.s5_0 (cSeq Tryz.s5_1 (cSeq Tryz.s5_2 (cSeq Tryz.s5_3 Tryz.s5_4))))
def Tryz.b5 : Cd := (cSeq Tryz.s5_6 (cSeq Tryz.s5_7 (cSeq Tryz.s5_8 (cSeq Tryz.s5_9 (cSeq Tryz.s5_10 (cSeq Tryz.s5_11 (cSeq Tryz.s5_12 (cSeq Tryz.s5_13 Tryz.s5_14))))))))
theorem Tryz.cut5 : Tryz.k5.body = cSeq Tryz.a5 (cSeq (cOps Tryz.r5) Tryz.b5) := by
  show cSeq Tryz.s5_0 (cSeq Tryz.s5_1 (cSeq (cSeq Tryz.s5_2 Tryz.s5_3) (cSeq Tryz.s5_4 (cSeq (cOps Tryz.r5) (cSeq Tryz.s5_6 (cSeq (cSeq Tryz.s5_7 Tryz.s5_8) (cSeq Tryz.s5_9 (cSeq Tryz.s5_10 (cSeq Tryz.s5_11 (cSeq Tryz.s5_12 (cSeq Tryz.s5_13 (Tryz.s5_14)))))))))))) = _
  simp only [Tryz.a5, Tryz.b5, cSeq_assoc]
theorem _root_.Go.Sh.sV_const (v : SV) (c : CF) (m : Nat) (t : T) (h : H) (k : SV → H → FR) : sV (xC v) c m t h k = k v h := rfl
theorem Tryz.sC_round {a r : Int} (hr : a.emod 4 = r) (n m : Nat) (t : T) (h : H) (k : SV → H → FR) : sC 13 [xC (.int .i64 a), xC (.int .i64 4)] (kcall Tryz.kTab.get Tryz.X2 (n + 1)) m t h k = k (.int .i64 r) h := by
  show on2 (kcall Tryz.kTab.get Tryz.X2 (n + 1) 13 [.int .i64 a, .int .i64 4] h) k = k (.int .i64 r) h
  rw [Tryz.round hr]; rfl
theorem Tryz.sCs_round {a r : Int} (hr : a.emod 4 = r) (n m : Nat) (t : T) (h : H) (k : SV → H → FR) : sCs 13 [xC (.int .i64 a), xC (.int .i64 4)] (kcall Tryz.kTab.get Tryz.X2 (n + 1)) m t h k = sKeep (.int .i64 r) (kcall Tryz.kTab.get Tryz.X2 (n + 1)) m t h k := by
  show on2 (lower m h.low (kcall Tryz.kTab.get Tryz.X2 (n + 1) 13 [.int .i64 a, .int .i64 4] ⟨h.next, m, h.tr⟩)) k = on2 (lower m h.low (some (.int .i64 r, ⟨h.next, m, h.tr⟩))) k
  rw [Tryz.round hr]
def Tryz.in5 (a b : Int) (u : Bool) : T := setP (way 2) (.bool u) (setP (way 1) (.int .i64 b) (setP (way 0) (.int .i64 a) .leaf))
theorem Tryz.mid5 {a b r s : Int} (hr : a.emod 4 = r) (hs : b.emod 4 = s) (n : Nat) (t : T) (h : H) (m : Nat) (K : T → H → FR) (ht : (getP (way 0) t, getP (way 1) t) = (some (.int .i64 a), some (.int .i64 b))) : Tryz.r5 (kcall Tryz.kTab.get Tryz.X2 (n + 1)) m t h K = Tryz.q5 r s (kcall Tryz.kTab.get Tryz.X2 (n + 1)) m t h K := by
  simp only [Prod.mk.injEq] at ht
  obtain ⟨ht, ht'⟩ := ht
  unfold Tryz.r5 Tryz.q5
  simp only [oLet]
  refine sV_same fun v40 _ => sV_same fun v41 e41 => ?_
  obtain rfl : v41 = .int .i64 a := Option.some.inj (e41.symm.trans ht)
  refine (Tryz.sC_round hr n m t h _).trans ?_
  refine Eq.trans ?_ (sV_const _ _ m t h _).symm
  refine sV_same fun v43 _ => sLs_same fun v44 => sV_same fun v46 e46 => ?_
  obtain rfl : v46 = .int .i64 b := Option.some.inj (e46.symm.trans ht')
  exact Tryz.sCs_round hs n m t h _
theorem Tryz.before5 (a b : Int) (u : Bool) : (match Tryz.a5 50001 (kcall Tryz.kTab.get Tryz.X2 50000) (Tryz.in5 a b u) .empty with
  | some (.normal, t, _) => (getP (way 0) t, getP (way 1) t)
  | _ => (none, none)) = (some (.int .i64 a), some (.int .i64 b)) := by kernel_rfl
theorem Tryz.after5_00 (a b : Int) (u : Bool) : (kfin [.tmp (way 6)] (knext (Tryz.a5 50001 (kcall Tryz.kTab.get Tryz.X2 50000) (Tryz.in5 a b u) .empty) fun t h => knext (Tryz.q5 0 0 (kcall Tryz.kTab.get Tryz.X2 50000) h.next t h fun t h => some (.normal, t, h)) (Tryz.b5 50001 (kcall Tryz.kTab.get Tryz.X2 50000)))).map (·.1) = some (.bool true) := by cases u <;> kernel_rfl
theorem Tryz.after5_01 (a b : Int) (u : Bool) : (kfin [.tmp (way 6)] (knext (Tryz.a5 50001 (kcall Tryz.kTab.get Tryz.X2 50000) (Tryz.in5 a b u) .empty) fun t h => knext (Tryz.q5 0 1 (kcall Tryz.kTab.get Tryz.X2 50000) h.next t h fun t h => some (.normal, t, h)) (Tryz.b5 50001 (kcall Tryz.kTab.get Tryz.X2 50000)))).map (·.1) = some (.bool true) := by cases u <;> kernel_rfl
theorem Tryz.after5_02 (a b : Int) (u : Bool) : (kfin [.tmp (way 6)] (knext (Tryz.a5 50001 (kcall Tryz.kTab.get Tryz.X2 50000) (Tryz.in5 a b u) .empty) fun t h => knext (Tryz.q5 0 2 (kcall Tryz.kTab.get Tryz.X2 50000) h.next t h fun t h => some (.normal, t, h)) (Tryz.b5 50001 (kcall Tryz.kTab.get Tryz.X2 50000)))).map (·.1) = some (.bool true) := by cases u <;> kernel_rfl
theorem Tryz.after5_03 (a b : Int) (u : Bool) : (kfin [.tmp (way 6)] (knext (Tryz.a5 50001 (kcall Tryz.kTab.get Tryz.X2 50000) (Tryz.in5 a b u) .empty) fun t h => knext (Tryz.q5 0 3 (kcall Tryz.kTab.get Tryz.X2 50000) h.next t h fun t h => some (.normal, t, h)) (Tryz.b5 50001 (kcall Tryz.kTab.get Tryz.X2 50000)))).map (·.1) = some (.bool true) := by cases u <;> kernel_rfl
theorem Tryz.after5_10 (a b : Int) (u : Bool) : (kfin [.tmp (way 6)] (knext (Tryz.a5 50001 (kcall Tryz.kTab.get Tryz.X2 50000) (Tryz.in5 a b u) .empty) fun t h => knext (Tryz.q5 1 0 (kcall Tryz.kTab.get Tryz.X2 50000) h.next t h fun t h => some (.normal, t, h)) (Tryz.b5 50001 (kcall Tryz.kTab.get Tryz.X2 50000)))).map (·.1) = some (.bool true) := by cases u <;> kernel_rfl
theorem Tryz.after5_11 (a b : Int) (u : Bool) : (kfin [.tmp (way 6)] (knext (Tryz.a5 50001 (kcall Tryz.kTab.get Tryz.X2 50000) (Tryz.in5 a b u) .empty) fun t h => knext (Tryz.q5 1 1 (kcall Tryz.kTab.get Tryz.X2 50000) h.next t h fun t h => some (.normal, t, h)) (Tryz.b5 50001 (kcall Tryz.kTab.get Tryz.X2 50000)))).map (·.1) = some (.bool true) := by cases u <;> kernel_rfl
theorem Tryz.after5_12 (a b : Int) (u : Bool) : (kfin [.tmp (way 6)] (knext (Tryz.a5 50001 (kcall Tryz.kTab.get Tryz.X2 50000) (Tryz.in5 a b u) .empty) fun t h => knext (Tryz.q5 1 2 (kcall Tryz.kTab.get Tryz.X2 50000) h.next t h fun t h => some (.normal, t, h)) (Tryz.b5 50001 (kcall Tryz.kTab.get Tryz.X2 50000)))).map (·.1) = some (.bool true) := by cases u <;> kernel_rfl
theorem Tryz.after5_13 (a b : Int) (u : Bool) : (kfin [.tmp (way 6)] (knext (Tryz.a5 50001 (kcall Tryz.kTab.get Tryz.X2 50000) (Tryz.in5 a b u) .empty) fun t h => knext (Tryz.q5 1 3 (kcall Tryz.kTab.get Tryz.X2 50000) h.next t h fun t h => some (.normal, t, h)) (Tryz.b5 50001 (kcall Tryz.kTab.get Tryz.X2 50000)))).map (·.1) = some (.bool true) := by cases u <;> kernel_rfl
theorem Tryz.after5_20 (a b : Int) (u : Bool) : (kfin [.tmp (way 6)] (knext (Tryz.a5 50001 (kcall Tryz.kTab.get Tryz.X2 50000) (Tryz.in5 a b u) .empty) fun t h => knext (Tryz.q5 2 0 (kcall Tryz.kTab.get Tryz.X2 50000) h.next t h fun t h => some (.normal, t, h)) (Tryz.b5 50001 (kcall Tryz.kTab.get Tryz.X2 50000)))).map (·.1) = some (.bool true) := by cases u <;> kernel_rfl
theorem Tryz.after5_21 (a b : Int) (u : Bool) : (kfin [.tmp (way 6)] (knext (Tryz.a5 50001 (kcall Tryz.kTab.get Tryz.X2 50000) (Tryz.in5 a b u) .empty) fun t h => knext (Tryz.q5 2 1 (kcall Tryz.kTab.get Tryz.X2 50000) h.next t h fun t h => some (.normal, t, h)) (Tryz.b5 50001 (kcall Tryz.kTab.get Tryz.X2 50000)))).map (·.1) = some (.bool true) := by cases u <;> kernel_rfl
theorem Tryz.after5_22 (a b : Int) (u : Bool) : (kfin [.tmp (way 6)] (knext (Tryz.a5 50001 (kcall Tryz.kTab.get Tryz.X2 50000) (Tryz.in5 a b u) .empty) fun t h => knext (Tryz.q5 2 2 (kcall Tryz.kTab.get Tryz.X2 50000) h.next t h fun t h => some (.normal, t, h)) (Tryz.b5 50001 (kcall Tryz.kTab.get Tryz.X2 50000)))).map (·.1) = some (.bool true) := by cases u <;> kernel_rfl
theorem Tryz.after5_23 (a b : Int) (u : Bool) : (kfin [.tmp (way 6)] (knext (Tryz.a5 50001 (kcall Tryz.kTab.get Tryz.X2 50000) (Tryz.in5 a b u) .empty) fun t h => knext (Tryz.q5 2 3 (kcall Tryz.kTab.get Tryz.X2 50000) h.next t h fun t h => some (.normal, t, h)) (Tryz.b5 50001 (kcall Tryz.kTab.get Tryz.X2 50000)))).map (·.1) = some (.bool true) := by cases u <;> kernel_rfl
theorem Tryz.after5_30 (a b : Int) (u : Bool) : (kfin [.tmp (way 6)] (knext (Tryz.a5 50001 (kcall Tryz.kTab.get Tryz.X2 50000) (Tryz.in5 a b u) .empty) fun t h => knext (Tryz.q5 3 0 (kcall Tryz.kTab.get Tryz.X2 50000) h.next t h fun t h => some (.normal, t, h)) (Tryz.b5 50001 (kcall Tryz.kTab.get Tryz.X2 50000)))).map (·.1) = some (.bool true) := by cases u <;> kernel_rfl
theorem Tryz.after5_31 (a b : Int) (u : Bool) : (kfin [.tmp (way 6)] (knext (Tryz.a5 50001 (kcall Tryz.kTab.get Tryz.X2 50000) (Tryz.in5 a b u) .empty) fun t h => knext (Tryz.q5 3 1 (kcall Tryz.kTab.get Tryz.X2 50000) h.next t h fun t h => some (.normal, t, h)) (Tryz.b5 50001 (kcall Tryz.kTab.get Tryz.X2 50000)))).map (·.1) = some (.bool true) := by cases u <;> kernel_rfl
theorem Tryz.after5_32 (a b : Int) (u : Bool) : (kfin [.tmp (way 6)] (knext (Tryz.a5 50001 (kcall Tryz.kTab.get Tryz.X2 50000) (Tryz.in5 a b u) .empty) fun t h => knext (Tryz.q5 3 2 (kcall Tryz.kTab.get Tryz.X2 50000) h.next t h fun t h => some (.normal, t, h)) (Tryz.b5 50001 (kcall Tryz.kTab.get Tryz.X2 50000)))).map (·.1) = some (.bool true) := by cases u <;> kernel_rfl
theorem Tryz.after5_33 (a b : Int) (u : Bool) : (kfin [.tmp (way 6)] (knext (Tryz.a5 50001 (kcall Tryz.kTab.get Tryz.X2 50000) (Tryz.in5 a b u) .empty) fun t h => knext (Tryz.q5 3 3 (kcall Tryz.kTab.get Tryz.X2 50000) h.next t h fun t h => some (.normal, t, h)) (Tryz.b5 50001 (kcall Tryz.kTab.get Tryz.X2 50000)))).map (·.1) = some (.bool true) := by cases u <;> kernel_rfl
theorem Tryz.four (k : Int) : k.emod 4 = 0 ∨ k.emod 4 = 1 ∨ k.emod 4 = 2 ∨ k.emod 4 = 3 := by
  have h5 : 0 ≤ k % 4 := Int.emod_nonneg k (by decide)
  have h6 : k % 4 < 4 := Int.emod_lt_of_pos k (by decide)
  show k % 4 = 0 ∨ k % 4 = 1 ∨ k % 4 = 2 ∨ k % 4 = 3
  omega
theorem Tryz.one5 {a b r s : Int} (u : Bool) (hr : a.emod 4 = r) (hs : b.emod 4 = s)
    (h : (kfin [.tmp (way 6)] (knext (Tryz.a5 50001 (kcall Tryz.kTab.get Tryz.X2 50000) (Tryz.in5 a b u) .empty) fun t h => knext (Tryz.q5 r s (kcall Tryz.kTab.get Tryz.X2 50000) h.next t h fun t h => some (.normal, t, h)) (Tryz.b5 50001 (kcall Tryz.kTab.get Tryz.X2 50000)))).map (·.1) = some (.bool true)) :
    ∃ h', kenter Tryz.k5 50001 (kcall Tryz.kTab.get Tryz.X2 50000) [.int .i64 a, .int .i64 b, .bool u] .empty = some (.bool true, h') :=
  enter_cut (sel := fun t => (getP (way 0) t, getP (way 1) t)) (x := (some (.int .i64 a), some (.int .i64 b))) (dflt := (none, none)) (t0 := Tryz.in5 a b u) (R' := Tryz.q5 r s) Tryz.cut5 rfl (fun t h m K e => Tryz.mid5 hr hs 49999 t h m K e) (Tryz.before5 a b u) (by simp) h
theorem Tryz.run5 (a b : Int) (u : Bool) : ∃ h', kcall Tryz.kTab.get Tryz.X2 50001 5 [.int .i64 a, .int .i64 b, .bool u] .empty = some (.bool true, h') := by
  rw [kcall_run (kf := Tryz.k5) (by kernel_rfl) (by kernel_rfl)]
  rcases Tryz.four a with h7 | h7 | h7 | h7 <;> rcases Tryz.four b with h8 | h8 | h8 | h8
  · exact Tryz.one5 u h7 h8 (Tryz.after5_00 a b u)
  · exact Tryz.one5 u h7 h8 (Tryz.after5_01 a b u)
  · exact Tryz.one5 u h7 h8 (Tryz.after5_02 a b u)
  · exact Tryz.one5 u h7 h8 (Tryz.after5_03 a b u)
  · exact Tryz.one5 u h7 h8 (Tryz.after5_10 a b u)
  · exact Tryz.one5 u h7 h8 (Tryz.after5_11 a b u)
  · exact Tryz.one5 u h7 h8 (Tryz.after5_12 a b u)
  · exact Tryz.one5 u h7 h8 (Tryz.after5_13 a b u)
  · exact Tryz.one5 u h7 h8 (Tryz.after5_20 a b u)
  · exact Tryz.one5 u h7 h8 (Tryz.after5_21 a b u)
  · exact Tryz.one5 u h7 h8 (Tryz.after5_22 a b u)
  · exact Tryz.one5 u h7 h8 (Tryz.after5_23 a b u)
  · exact Tryz.one5 u h7 h8 (Tryz.after5_30 a b u)
  · exact Tryz.one5 u h7 h8 (Tryz.after5_31 a b u)
  · exact Tryz.one5 u h7 h8 (Tryz.after5_32 a b u)
  · exact Tryz.one5 u h7 h8 (Tryz.after5_33 a b u)
end
end Go.Proofs
