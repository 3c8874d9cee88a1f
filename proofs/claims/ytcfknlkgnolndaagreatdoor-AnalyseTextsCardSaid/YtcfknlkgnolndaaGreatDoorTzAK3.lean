/- What functions of the program are compiled to, and that they are. -/
import Derived.Test.YtcfknlkgnolndaaGreatDoorSh11
import Derived.Test.YtcfknlkgnolndaaGreatDoorProg
import Derived.KernelRfl
set_option linter.unusedVariables false
set_option linter.unusedSimpArgs false
set_option linter.unusedSectionVars false
namespace Go.Proofs
open Go.Sh
noncomputable section
set_option linter.unusedVariables false
def Tryz.k279 : KF := ⟨[(way 0)], (cSeq (cSeq (cOps (oLet (sV ((xW 0))) fun v4 => oLet (sV (vNil (xC v4))) fun v5 => oLet (sV (vAddr 0 (xC v5))) fun v6 => oLet (sL (lLoad none (xC v6))) fun v7 => oLet (sV (vNil (xC v7))) fun v8 => oLet (sV (vAddr 0 (xC v8))) fun v9 => oLet (sL (lLoad none (xC v9))) fun v10 => oLet (sV (vNil (xC v4))) fun v12 => oLet (sV (vAddr 11 (xC v12))) fun v13 => oLet (sV (vAddr 4 (xC v13))) fun v14 => oLet (sL (lLoad (some 6) (xC v14))) fun v15 => oLet (sC 212 [(xC v10), (xC v15)]) fun v16 => oSet 2 (sV ((xC v16))) fun v2 => oEnd))
 (cSeq (cOps (oLet (sV ((xW 2))) fun v17 => oSet 18 (sV (vSNe (xC v17) (xC (.str [])))) fun v18 => oEnd))
 (cCond (xW 18) (cOps (oLet (sV ((xW 0))) fun v19 => oLet (sV ((xW 2))) fun v20 => oLet (sC 277 [(xC v19), (xC v20)]) fun v21 => oEnd))
 cSkip)))
 (cSeq (cOps (oLet (sV ((xW 0))) fun v22 => oLet (sV (vNil (xC v22))) fun v23 => oLet (sV (vAddr 11 (xC v23))) fun v24 => oLet (sV (vAddr 0 (xC v24))) fun v25 => oLet (sL (lLoad none (xC v25))) fun v26 => oSet 3 (sV ((xC v26))) fun v3 => oEnd))
 (cBlock 0 (cSeq (cOps (oLet (sV ((xW 3))) fun v28 => oLet (sV (vEq .i64 (xC v28) (xC (.int .i64 5)))) fun v29 => oLet (sG (xC v29) false (sV ((xC v28)))) fun v31 => oLet (sG (xC v29) false (sV (vEq .i64 (xC v31) (xC (.int .i64 6))))) fun v32 => oLet (sV (vPick (xC v29) (xC (.bool true)) (xC v32))) fun v33 => oLet (sG (xC v33) false (sV ((xC v28)))) fun v35 => oLet (sG (xC v33) false (sV (vEq .i64 (xC v35) (xC (.int .i64 8))))) fun v36 => oLet (sV (vPick (xC v33) (xC (.bool true)) (xC v36))) fun v37 => oSet 27 (sV ((xC v37))) fun v27 => oEnd))
 (cCond (xW 27) (cOps (oLet (sV ((xW 0))) fun v38 => oLet (sC 332 [(xC v38), (xC (.int .i64 0))]) fun v40 => oLet (sC 333 [(xC v38)]) fun v42 => oLet (sC 331 [(xC v38), (xC v40), (xC v42)]) fun v43 => oEnd))
 (cSeq (cOps (oLet (sV ((xW 3))) fun v45 => oLet (sV (vEq .i64 (xC v45) (xC (.int .i64 9)))) fun v46 => oSet 44 (sV ((xC v46))) fun v44 => oEnd))
 (cCond (xW 44) (cSeq (cOps (oLet (sV ((xW 0))) fun v47 => oLet (sC 332 [(xC v47), (xC (.int .i64 0))]) fun v49 => oLet (sC 332 [(xC v47), (xC (.int .i64 1))]) fun v51 => oLet (sC 331 [(xC v47), (xC v49), (xC v51)]) fun v52 => oEnd))
 (cOps (oLet (sV ((xW 0))) fun v53 => oLet (sC 332 [(xC v53), (xC (.int .i64 1))]) fun v55 => oLet (sC 332 [(xC v53), (xC (.int .i64 0))]) fun v57 => oLet (sC 331 [(xC v53), (xC v55), (xC v57)]) fun v58 => oEnd)))
 (cSeq (cOps (oLet (sV ((xW 3))) fun v60 => oLet (sV (vEq .i64 (xC v60) (xC (.int .i64 30)))) fun v61 => oSet 59 (sV ((xC v61))) fun v59 => oEnd))
 (cCond (xW 59) (cSeq (cOps (oLet (sV ((xW 0))) fun v62 => oLet (sV (vNil (xC v62))) fun v65 => oLet (sV (vAddr 1 (xC v65))) fun v66 => oLet (sLs (lLoad none (xC v66))) fun v67 => oCap fun c7 => oLet (sCs 332 [(xC v62), (xC (.int .i64 0))]) fun v69 => oCap fun d7 => oCap fun c8 => oLet (sC 281 [(xC v67), (xC v69)]) fun v70 => oCap fun d8 => oLet (sV (vNil (xC v62))) fun v72 => oLet (sV (vAddr 11 (xC v72))) fun v73 => oLet (sV (vAddr 4 (xC v73))) fun v74 => oLet (sV (vAddr 5 (xC v74))) fun v75 => oLet (sLo [c8, c7] d8.next (lLoad none (xC v75))) fun v76 => oCap fun c15 => oLet (sC 324 [(xC v62), (xC v70), (xC v76)]) fun v77 => oCap fun d15 => oCap fun c16 => oLet (sC 334 [(xC v62), (xC v77)]) fun v78 => oCap fun d16 => oEnd))
 (cOps (oLet (sV ((xW 0))) fun v79 => oLet (sN (aRow 1 1 [1] [(xC (.str [67, 97, 115, 116, 69, 120]))])) fun v80 => oLet (sC 323 [(xC v79), (xC v80)]) fun v81 => oEnd)))
 (cSeq (cOps (oLet (sV ((xW 3))) fun v83 => oLet (sV (vEq .i64 (xC v83) (xC (.int .i64 13)))) fun v84 => oSet 82 (sV ((xC v84))) fun v82 => oEnd))
 (cCond (xW 82) (cOps (oLet (sV ((xW 0))) fun v85 => oLet (sN (aRow 1 1 [1] [(xC (.str [65, 114, 105, 116, 104, 69, 120]))])) fun v86 => oLet (sC 323 [(xC v85), (xC v86)]) fun v87 => oEnd))
 (cSeq (cOps (oLet (sV ((xW 3))) fun v89 => oLet (sV (vEq .i64 (xC v89) (xC (.int .i64 21)))) fun v90 => oLet (sG (xC v90) false (sV ((xC v89)))) fun v92 => oLet (sG (xC v90) false (sV (vEq .i64 (xC v92) (xC (.int .i64 26))))) fun v93 => oLet (sV (vPick (xC v90) (xC (.bool true)) (xC v93))) fun v94 => oSet 88 (sV ((xC v94))) fun v88 => oEnd))
 (cCond (xW 88) (cSeq (cOps (oLet (sV ((xW 0))) fun v95 => oLet (sV (vNil (xC v95))) fun v97 => oLet (sV (vAddr 0 (xC v97))) fun v98 => oLet (sLs (lLoad none (xC v98))) fun v99 => oLet (sV (vNil (xC v99))) fun v100 => oLet (sV (vAddr 3 (xC v100))) fun v101 => oLet (sLs (lLoad none (xC v101))) fun v102 => oLet (sCs 336 [(xC v95)]) fun v104 => oLet (sC 335 [(xC v102), (xC v104)]) fun v105 => oLet (sN (aRow 1 1 [1] [(xC v105)])) fun v106 => oLet (sC 334 [(xC v95), (xC v106)]) fun v107 => oEnd))
 (cSeq (cOps (oLet (sV ((xW 0))) fun v108 => oLet (sN (aRow 1 1 [1] [(xC (.str [77, 101, 109, 69, 120]))])) fun v109 => oLet (sC 323 [(xC v108), (xC v109)]) fun v110 => oEnd))
 (cSeq (cOps (oLet (sV ((xW 3))) fun v111 => oSet 112 (sV (vEq .i64 (xC v111) (xC (.int .i64 26)))) fun v112 => oEnd))
 (cCond (xW 112) (cOps (oLet (sV ((xW 0))) fun v113 => oLet (sN (aRow 1 1 [1] [(xC (.str [66, 111, 117, 110, 100, 115, 69, 120]))])) fun v114 => oLet (sC 323 [(xC v113), (xC v114)]) fun v115 => oEnd))
 cSkip))))
 (cSeq (cOps (oLet (sV ((xW 3))) fun v117 => oLet (sV (vEq .i64 (xC v117) (xC (.int .i64 37)))) fun v118 => oSet 116 (sV ((xC v118))) fun v116 => oEnd))
 (cCond (xW 116) (cOps (oLet (sV ((xW 0))) fun v119 => oCap fun c2 => oLet (sC 332 [(xC v119), (xC (.int .i64 0))]) fun v121 => oCap fun d2 => oLet (sV (vNil (xC v119))) fun v123 => oLet (sV (vAddr 3 (xC v123))) fun v124 => oLet (sLo [c2] d2.next (lLoad none (xC v124))) fun v125 => oCap fun c7 => oLet (sC 337 [(xC v125)]) fun v126 => oCap fun d7 => oCap fun c8 => oLet (sC 331 [(xC v119), (xC v121), (xC v126)]) fun v127 => oCap fun d8 => oEnd))
 (cSeq (cOps (oLet (sV ((xW 3))) fun v129 => oLet (sV (vEq .i64 (xC v129) (xC (.int .i64 38)))) fun v130 => oSet 128 (sV ((xC v130))) fun v128 => oEnd))
 (cCond (xW 128) (cSeq (cOps (oLet (sV ((xW 0))) fun v131 => oLet (sV (vNil (xC v131))) fun v133 => oLet (sV (vAddr 21 (xC v133))) fun v134 => oLet (sLs (lLoad none (xC v134))) fun v135 => oLet (sV (vNil (xC v131))) fun v137 => oLet (sV (vAddr 1 (xC v137))) fun v138 => oLet (sLs (lLoad none (xC v138))) fun v139 => oLet (sCs 332 [(xC v131), (xC (.int .i64 0))]) fun v141 => oLet (sCs 281 [(xC v139), (xC v141)]) fun v142 => oLet (sM (tAppend 8 1 (xC v135) (xC v142))) fun v143 => oLet (sV (vNil (xC v131))) fun v144 => oLet (sV (vAddr 21 (xC v144))) fun v145 => oDo (sM (tStore 1 (xC v145) (xC v143))) (oEnd)))
 (cOps (oLet (sV ((xW 0))) fun v146 => oLet (sN (aRow 1 1 [1] [(xC (.str [78, 117, 108, 108, 69, 120]))])) fun v147 => oLet (sC 323 [(xC v146), (xC v147)]) fun v148 => oEnd)))
 (cSeq (cOps (oLet (sV ((xW 3))) fun v150 => oLet (sV (vGe .i64 (xC v150) (xC (.int .i64 22)))) fun v151 => oLet (sG (xC v151) true (sV ((xC v150)))) fun v153 => oLet (sG (xC v151) true (sV (vLe .i64 (xC v153) (xC (.int .i64 25))))) fun v154 => oLet (sV (vPick (xC v151) (xC v154) (xC (.bool false)))) fun v155 => oSet 149 (sV ((xC v155))) fun v149 => oEnd))
 (cCond (xW 149) (cOps (oLet (sV ((xW 0))) fun v156 => oLet (sC 338 [(xC v156)]) fun v157 => oEnd))
 (cSeq (cOps (oLet (sV ((xW 3))) fun v159 => oLet (sV (vGe .i64 (xC v159) (xC (.int .i64 27)))) fun v160 => oLet (sG (xC v160) true (sV ((xC v159)))) fun v162 => oLet (sG (xC v160) true (sV (vLe .i64 (xC v162) (xC (.int .i64 29))))) fun v163 => oLet (sV (vPick (xC v160) (xC v163) (xC (.bool false)))) fun v164 => oSet 158 (sV ((xC v164))) fun v158 => oEnd))
 (cCond (xW 158) (cOps (oLet (sV ((xW 0))) fun v165 => oLet (sC 339 [(xC v165)]) fun v166 => oEnd))
 (cSeq (cOps (oLet (sV ((xW 3))) fun v168 => oLet (sC 214 [(xC v168)]) fun v169 => oSet 167 (sV ((xC v169))) fun v167 => oEnd))
 (cCond (xW 167) (cOps (oLet (sV ((xW 0))) fun v170 => oLet (sC 340 [(xC v170)]) fun v171 => oEnd))
 cSkip))))))))))))))))))))))), []⟩
theorem Tryz.k279_c : compF Tryz.prog [4, 5, 6, 7, 8, 9, 10, 11, 12, 13, 14, 15, 16, 17, 19, 20, 21, 22, 23, 24, 25, 26, 28, 29, 30, 31, 32, 33, 34, 35, 36, 37, 38, 39, 40, 41, 42, 43, 45, 46, 47, 48, 49, 50, 51, 52, 53, 54, 55, 56, 57, 58, 60, 61, 62, 63, 64, 65, 66, 67, 68, 69, 70, 71, 72, 73, 74, 75, 76, 77, 78, 79, 80, 81, 83, 84, 85, 86, 87, 89, 90, 91, 92, 93, 94, 95, 96, 97, 98, 99, 100, 101, 102, 103, 104, 105, 106, 107, 108, 109, 110, 111, 113, 114, 115, 117, 118, 119, 120, 121, 122, 123, 124, 125, 126, 127, 129, 130, 131, 132, 133, 134, 135, 136, 137, 138, 139, 140, 141, 142, 143, 144, 145, 146, 147, 148, 150, 151, 152, 153, 154, 155, 156, 157, 159, 160, 161, 162, 163, 164, 165, 166, 168, 169, 170, 171] Tryz.f279 = some Tryz.k279 := by kernel_rfl
def Tryz.k280 : KF := ⟨[(way 0)], (cSeq (cOps (oSet 1 (sN (aBox (xW 0))) fun v1 => oSet 2 (sV ((xC (.nilfunc)))) fun v2 => oEnd))
 (cSeq (cOps (oLet (sV (vFunc 341 [(xW 1)])) fun v3 => oSet 2 (sV ((xC v3))) fun v2 => oEnd))
 cRet)), [.tmp (way 2)]⟩
theorem Tryz.k280_c : compF Tryz.prog [3] Tryz.f280 = some Tryz.k280 := by kernel_rfl
def Tryz.k282 : KF := ⟨[(way 0)], (cSeq (cOps (oSet 1 (sN (aBox (xW 0))) fun v1 => oSet 2 (sV ((xC (.nilfunc)))) fun v2 => oEnd))
 (cSeq (cOps (oLet (sV (vFunc 344 [(xW 1)])) fun v3 => oSet 2 (sV ((xC v3))) fun v2 => oEnd))
 cRet)), [.tmp (way 2)]⟩
theorem Tryz.k282_c : compF Tryz.prog [3] Tryz.f282 = some Tryz.k282 := by kernel_rfl
def Tryz.k288 : KF := ⟨[(way 0), (way 1)], (cSeq (cOps (oSet 4 (sV ((xC (.nilslice)))) fun v4 => oEnd))
 (cSeq (cOps (oLet (sV ((xW 0))) fun v5 => oLet (sV ((xW 1))) fun v6 => oLet (sC 139 [(xC v5), (xC v6)]) fun v7 => oSet 4 (sV ((xC v7))) fun v4 => oEnd))
 cRet)), [.tmp (way 4)]⟩
theorem Tryz.k288_c : compF Tryz.prog [5, 6, 7] Tryz.f288 = some Tryz.k288 := by kernel_rfl
def Tryz.k289 : KF := ⟨[(way 0), (way 1), (way 2)], (cSeq (cOps (oSet 5 (sN (aBox (xW 2))) fun v5 => oSet 6 (sV ((xC (.int .i64 0)))) fun v6 => oEnd))
 (cSeq (cSeq (cOps (oLet (sV ((xW 1))) fun v9 => oLet (sV (vLt .i64 (xC v9) (xC (.int .i64 0)))) fun v10 => oLet (sG (xC v10) false (sV ((xC v9)))) fun v12 => oLet (sG (xC v10) false (sV ((xW 0)))) fun v13 => oLet (sG (xC v10) false (sV (vNil (xC v13)))) fun v14 => oLet (sG (xC v10) false (sV (vAddr 2 (xC v14)))) fun v15 => oLet (sG (xC v10) false (sV (vAddr 6 (xC v15)))) fun v16 => oLet (sG (xC v10) false (sL (lLoad none (xC v16)))) fun v17 => oLet (sG (xC v10) false (sV (vLen (xC v17)))) fun v18 => oLet (sG (xC v10) false (sV (vGe .i64 (xC v12) (xC v18)))) fun v19 => oSet 20 (sV (vPick (xC v10) (xC (.bool true)) (xC v19))) fun v20 => oEnd))
 (cCond (xW 20) (cSeq (cOps (oSet 6 (sV ((xC (.int .i64 5)))) fun v6 => oEnd))
 cRet)
 cSkip))
 (cSeq (cSeq (cOps (oLet (sV ((xW 0))) fun v21 => oLet (sV (vNil (xC v21))) fun v22 => oLet (sV (vAddr 11 (xC v22))) fun v23 => oLet (sL (lLoad none (xC v23))) fun v24 => oLet (sV ((xW 1))) fun v25 => oLet (sV (vIdx 1 (xC v24) (xC v25))) fun v26 => oSet 27 (sL (lLoad none (xC v26))) fun v27 => oEnd))
 (cCond (xW 27) (cSeq (cOps (oLet (sV ((xW 0))) fun v29 => oLet (sV (vNil (xC v29))) fun v30 => oLet (sV (vAddr 0 (xC v30))) fun v31 => oLet (sL (lLoad none (xC v31))) fun v32 => oLet (sV (vNil (xC v29))) fun v34 => oLet (sV (vAddr 10 (xC v34))) fun v35 => oLet (sL (lLoad none (xC v35))) fun v36 => oLet (sV ((xW 1))) fun v37 => oLet (sV (vIdx 2 (xC v36) (xC v37))) fun v38 => oLet (sL (lLoad (some 2) (xC v38))) fun v39 => oLet (sL (lLoad (some 2) (xW 5))) fun v40 => oLet (sC 347 [(xC v32), (xC v39), (xC v40)]) fun v41 => oLet (sV (vExtract 0 (xC v41))) fun v42 => oLet (sV (vExtract 1 (xC v41))) fun v43 => oSet 7 (sN (aAlloc [.nilslice, .nilslice])) fun v7 => oDo (sM (tStore 2 (xC v7) (xC v42))) (oSet 8 (sV ((xC v43))) fun v8 => oEnd)))
 (cSeq (cSeq (cOps (oLet (sV ((xW 8))) fun v44 => oSet 45 (sV (vNe .i64 (xC v44) (xC (.int .i64 0)))) fun v45 => oEnd))
 (cCond (xW 45) (cSeq (cOps (oSet 6 (sV ((xC (.int .i64 6)))) fun v6 => oEnd))
 cRet)
 cSkip))
 (cSeq (cSeq (cOps (oLet (sL (lLoad (some 2) (xW 7))) fun v46 => oLet (sV ((xW 0))) fun v47 => oLet (sV (vNil (xC v47))) fun v48 => oLet (sV (vAddr 10 (xC v48))) fun v49 => oLet (sL (lLoad none (xC v49))) fun v50 => oLet (sV ((xW 1))) fun v51 => oLet (sV (vIdx 2 (xC v50) (xC v51))) fun v52 => oLet (sL (lLoad (some 2) (xC v52))) fun v53 => oSet 54 (sC 348 [(xC v46), (xC v53)]) fun v54 => oEnd))
 (cCond (xW 54) (cSeq (cOps (oSet 6 (sV ((xC (.int .i64 0)))) fun v6 => oEnd))
 cRet)
 cSkip))
 (cOps (oLet (sL (lLoad (some 2) (xW 7))) fun v55 => oDo (sM (tStore 2 (xW 5) (xC v55))) (oEnd))))))
 cSkip))
 (cSeq (cOps (oLet (sV ((xW 0))) fun v56 => oLet (sV (vNil (xC v56))) fun v57 => oLet (sV (vAddr 10 (xC v57))) fun v58 => oLet (sL (lLoad none (xC v58))) fun v59 => oLet (sV ((xW 1))) fun v60 => oLet (sV (vNil (xC v56))) fun v62 => oLet (sV (vAddr 11 (xC v62))) fun v63 => oLet (sL (lLoad none (xC v63))) fun v64 => oLet (sL (lLoad (some 2) (xW 5))) fun v66 => oLet (sV (vIdx 2 (xC v59) (xC v60))) fun v67 => oDo (sM (tStore 2 (xC v67) (xC v66))) (oLet (sV (vIdx 1 (xC v64) (xC v60))) fun v68 => oDo (sM (tStore 1 (xC v68) (xC (.bool true)))) (oEnd))))
 (cSeq (cOps (oLet (sV ((xW 0))) fun v69 => oLet (sV (vNil (xC v69))) fun v71 => oLet (sV (vAddr 12 (xC v71))) fun v72 => oLet (sL (lLoad none (xC v72))) fun v73 => oLet (sV ((xW 1))) fun v74 => oLet (sN (aRow 1 1 [1] [(xC v74)])) fun v75 => oLet (sM (tAppend 8 1 (xC v73) (xC v75))) fun v76 => oLet (sV (vNil (xC v69))) fun v77 => oLet (sV (vAddr 12 (xC v77))) fun v78 => oDo (sM (tStore 1 (xC v78) (xC v76))) (oEnd)))
 (cSeq (cOps (oSet 6 (sV ((xC (.int .i64 0)))) fun v6 => oEnd))
 cRet)))))), [.tmp (way 6)]⟩
theorem Tryz.k289_c : compF Tryz.prog [9, 10, 11, 12, 13, 14, 15, 16, 17, 18, 19, 21, 22, 23, 24, 25, 26, 29, 30, 31, 32, 33, 34, 35, 36, 37, 38, 39, 40, 41, 28, 42, 43, 44, 46, 47, 48, 49, 50, 51, 52, 53, 55, 56, 57, 58, 59, 60, 61, 62, 63, 64, 65, 66, 67, 68, 69, 70, 71, 72, 73, 74, 75, 76, 77, 78] Tryz.f289 = some Tryz.k289 := by kernel_rfl
def Tryz.k290 : KF := ⟨[(way 0), (way 1), (way 2)], (cSeq (cOps (oSet 5 (sN (aBox (xW 2))) fun v5 => oSet 6 (sN (aAlloc [.nilslice, .nilslice])) fun v6 => oEnd))
 (cSeq (cOps (oLet (sV (vAddr 1 (xW 5))) fun v11 => oLet (sL (lLoad none (xC v11))) fun v12 => oLet (sC 249 [(xC v12)]) fun v13 => oLet (sV (vExtract 0 (xC v13))) fun v14 => oLet (sV (vExtract 1 (xC v13))) fun v15 => oLet (sV (vExtract 2 (xC v13))) fun v16 => oSet 7 (sV ((xC v14))) fun v7 => oSet 9 (sV ((xC v16))) fun v9 => oEnd))
 (cSeq (cSeq (cOps (oLet (sV (vAddr 2 (xW 5))) fun v17 => oLet (sL (lLoad none (xC v17))) fun v18 => oSet 19 (sV (vUn .not (xC v18))) fun v19 => oEnd))
 (cCond (xW 19) (cOps (oLet (sV (vAddr 0 (xW 6))) fun v20 => oLet (sLs (lLoad none (xC v20))) fun v21 => oLet (sV ((xW 1))) fun v22 => oLet (sCs 227 [(xC v22)]) fun v23 => oLet (sN (aRow 1 1 [1] [(xC v23)])) fun v24 => oLet (sM (tAppend 16 1 (xC v21) (xC v24))) fun v25 => oLet (sV (vAddr 0 (xW 6))) fun v26 => oDo (sM (tStore 1 (xC v26) (xC v25))) (oEnd)))
 cSkip))
 (cSeq (cOps (oLet (sV (vAddr 0 (xW 6))) fun v27 => oLet (sL (lLoad none (xC v27))) fun v28 => oLet (sV ((xW 7))) fun v29 => oLet (sM (tAppend 16 1 (xC v28) (xC v29))) fun v30 => oLet (sV (vAddr 0 (xW 6))) fun v31 => oDo (sM (tStore 1 (xC v31) (xC v30))) (oEnd)))
 (cSeq (cSeq (cOps (oLet (sV ((xW 9))) fun v32 => oLet (sV (vNe .i64 (xC v32) (xC (.int .i64 0)))) fun v33 => oLet (sG (xC v33) false (sV (vAddr 0 (xW 6)))) fun v35 => oLet (sG (xC v33) false (sL (lLoad none (xC v35)))) fun v36 => oLet (sG (xC v33) false (sV (vLen (xC v36)))) fun v37 => oLet (sG (xC v33) false (sV (vAddr 5 (xW 5)))) fun v38 => oLet (sG (xC v33) false (sL (lLoad none (xC v38)))) fun v39 => oLet (sG (xC v33) false (sV (vGt .i64 (xC v37) (xC v39)))) fun v40 => oSet 41 (sV (vPick (xC v33) (xC (.bool true)) (xC v40))) fun v41 => oEnd))
 (cCond (xW 41) (cSeq (cOps (oLet (sV (vFill [.nilslice, .nilslice] [] [])) fun v42 => oDo (sM (tStore 2 (xW 6) (xC v42))) (oEnd)))
 cRet)
 cSkip))
 (cSeq (cBlock 0 (cLoop (cSeq (cSeq (cOps (oLet (sV (vAddr 0 (xW 6))) fun v43 => oLet (sL (lLoad none (xC v43))) fun v44 => oLet (sV (vLen (xC v44))) fun v45 => oLet (sV (vAddr 5 (xW 5))) fun v46 => oLet (sL (lLoad none (xC v46))) fun v47 => oSet 48 (sV (vLt .i64 (xC v45) (xC v47))) fun v48 => oEnd))
 (cCond (xW 48) cSkip
 (cExit 0)))
 (cBlock 1 (cOps (oLet (sV (vAddr 0 (xW 6))) fun v49 => oLet (sL (lLoad none (xC v49))) fun v50 => oLet (sN (aRow 1 1 [1] [(xC (.str [84]))])) fun v51 => oLet (sM (tAppend 16 1 (xC v50) (xC v51))) fun v52 => oLet (sV (vAddr 0 (xW 6))) fun v53 => oDo (sM (tStore 1 (xC v53) (xC v52))) (oEnd)))))))
 (cSeq (cOps (oLet (sL (lLoad (some 2) (xW 6))) fun v54 => oDo (sM (tStore 2 (xW 6) (xC v54))) (oEnd)))
 cRet))))))), [.cell (way 6) (some 2)]⟩
theorem Tryz.k290_c : compF Tryz.prog [11, 12, 13, 10, 14, 15, 16, 8, 17, 18, 20, 21, 22, 23, 24, 25, 26, 27, 28, 29, 30, 31, 32, 33, 34, 35, 36, 37, 38, 39, 40, 42, 43, 44, 45, 46, 47, 49, 50, 51, 52, 53, 54] Tryz.f290 = some Tryz.k290 := by kernel_rfl
def Tryz.k291 : KF := ⟨[(way 0), (way 1)], (cSeq (cOps (oSet 4 (sV ((xC (.int .i64 0)))) fun v4 => oSet 5 (sV ((xC (.int .i64 0)))) fun v5 => oEnd))
 (cSeq (cOps (oLet (sV ((xW 0))) fun v8 => oLet (sV (vNil (xC v8))) fun v9 => oLet (sV (vAddr 2 (xC v9))) fun v10 => oLet (sV (vAddr 6 (xC v10))) fun v11 => oLet (sL (lLoad none (xC v11))) fun v12 => oLet (sV ((xW 1))) fun v13 => oLet (sV (vIdx 6 (xC v12) (xC v13))) fun v14 => oLet (sL (lLoad (some 6) (xC v14))) fun v15 => oSet 6 (sN (aAlloc [.int .i64 0, .int .i64 0, .int .i64 0, .str [], .str [], .str []])) fun v6 => oDo (sM (tStore 6 (xC v6) (xC v15))) (oEnd)))
 (cSeq (cOps (oLet (sV ((xW 0))) fun v17 => oLet (sV (vNil (xC v17))) fun v18 => oLet (sV (vAddr 0 (xC v18))) fun v19 => oLet (sL (lLoad none (xC v19))) fun v20 => oLet (sV (vNil (xC v17))) fun v22 => oLet (sV (vAddr 1 (xC v22))) fun v23 => oLet (sL (lLoad none (xC v23))) fun v24 => oLet (sV (vNil (xC v17))) fun v26 => oLet (sV (vAddr 2 (xC v26))) fun v27 => oLet (sL (lLoad (some 8) (xC v27))) fun v28 => oLet (sV ((xW 1))) fun v29 => oLet (sV (vNil (xC v17))) fun v31 => oLet (sV (vAddr 10 (xC v31))) fun v32 => oLet (sL (lLoad none (xC v32))) fun v33 => oLet (sV (vIdx 2 (xC v33) (xC v29))) fun v35 => oLet (sL (lLoad (some 2) (xC v35))) fun v36 => oLet (sC 349 [(xC v20), (xC v24), (xC v28), (xC v29), (xC v36)]) fun v37 => oLet (sV (vExtract 0 (xC v37))) fun v38 => oLet (sV (vExtract 1 (xC v37))) fun v39 => oSet 7 (sN (aAlloc [.nilslice, .nilslice])) fun v7 => oDo (sM (tStore 2 (xC v7) (xC v38))) (oSet 5 (sV ((xC v39))) fun v5 => oEnd)))
 (cSeq (cSeq (cOps (oLet (sV ((xW 5))) fun v40 => oSet 41 (sV (vNe .i64 (xC v40) (xC (.int .i64 0)))) fun v41 => oEnd))
 (cCond (xW 41) (cSeq (cOps (oLet (sV ((xW 1))) fun v42 => oLet (sV ((xW 5))) fun v43 => oSet 4 (sV ((xC v42))) fun v4 => oSet 5 (sV ((xC v43))) fun v5 => oEnd))
 cRet)
 cSkip))
 (cSeq (cSeq (cOps (oLet (sV ((xW 0))) fun v45 => oLet (sV ((xW 1))) fun v46 => oLet (sC 350 [(xC v45), (xC v46)]) fun v47 => oLet (sV (vExtract 0 (xC v47))) fun v48 => oLet (sV (vExtract 1 (xC v47))) fun v49 => oSet 4 (sV ((xC v48))) fun v4 => oSet 5 (sV ((xC v49))) fun v5 => oEnd))
 (cSeq (cOps (oLet (sV ((xW 5))) fun v50 => oSet 51 (sV (vNe .i64 (xC v50) (xC (.int .i64 0)))) fun v51 => oEnd))
 (cCond (xW 51) (cSeq (cOps (oLet (sV ((xW 4))) fun v52 => oLet (sV ((xW 5))) fun v53 => oSet 4 (sV ((xC v52))) fun v4 => oSet 5 (sV ((xC v53))) fun v5 => oEnd))
 cRet)
 cSkip)))
 (cSeq (cSeq (cOps (oLet (sV (vAddr 0 (xW 6))) fun v54 => oLet (sL (lLoad none (xC v54))) fun v55 => oSet 56 (sC 255 [(xC v55)]) fun v56 => oEnd))
 (cCond (xW 56) (cSeq (cOps (oLet (sV ((xW 0))) fun v57 => oLet (sV (vAddr 1 (xW 6))) fun v58 => oLet (sL (lLoad none (xC v58))) fun v59 => oLet (sL (lLoad (some 2) (xW 7))) fun v60 => oLet (sC 289 [(xC v57), (xC v59), (xC v60)]) fun v61 => oSet 5 (sV ((xC v61))) fun v5 => oEnd))
 (cSeq (cOps (oLet (sV ((xW 5))) fun v62 => oSet 63 (sV (vNe .i64 (xC v62) (xC (.int .i64 0)))) fun v63 => oEnd))
 (cCond (xW 63) (cSeq (cOps (oLet (sV (vAddr 1 (xW 6))) fun v64 => oLet (sL (lLoad none (xC v64))) fun v65 => oLet (sV ((xW 5))) fun v66 => oSet 4 (sV ((xC v65))) fun v4 => oSet 5 (sV ((xC v66))) fun v5 => oEnd))
 cRet)
 cSkip)))
 cSkip))
 (cSeq (cSeq (cOps (oLet (sV (vAddr 0 (xW 6))) fun v67 => oLet (sL (lLoad none (xC v67))) fun v68 => oLet (sC 351 [(xC v68)]) fun v69 => oLet (sV (vUn .not (xC v69))) fun v70 => oLet (sG (xC v70) true (sV ((xW 0)))) fun v72 => oLet (sG (xC v70) true (sV ((xW 1)))) fun v73 => oLet (sG (xC v70) true (sC 352 [(xC v72), (xC v73)])) fun v74 => oLet (sG (xC v70) true (sV (vUn .not (xC v74)))) fun v75 => oSet 76 (sV (vPick (xC v70) (xC v75) (xC (.bool false)))) fun v76 => oEnd))
 (cCond (xW 76) (cSeq (cOps (oLet (sV ((xW 1))) fun v77 => oLet (sV ((xW 0))) fun v78 => oLet (sV (vAdd .i64 (xC v77) (xC (.int .i64 1)))) fun v80 => oLet (sV (vAddr 0 (xW 7))) fun v81 => oLet (sL (lLoad none (xC v81))) fun v82 => oCap fun c6 => oLet (sC 129 [(xC v82)]) fun v83 => oCap fun d6 => oLet (sV (vAddr 1 (xW 7))) fun v84 => oLet (sLo [c6] d6.next (lLoad none (xC v84))) fun v85 => oCap fun c9 => oLet (sC 129 [(xC v85)]) fun v86 => oCap fun d9 => oLet (sV (vCat [1, 1] [(xC v83), (xC v86)])) fun v87 => oCap fun c11 => oLet (sC 289 [(xC v78), (xC v80), (xC v87)]) fun v88 => oCap fun d11 => oSet 4 (sV ((xC v77))) fun v4 => oSet 5 (sV ((xC v88))) fun v5 => oEnd))
 cRet)
 cSkip))
 (cSeq (cOps (oLet (sV ((xW 1))) fun v89 => oSet 4 (sV ((xC v89))) fun v4 => oSet 5 (sV ((xC (.int .i64 0)))) fun v5 => oEnd))
 cRet)))))))), [.tmp (way 4), .tmp (way 5)]⟩
theorem Tryz.k291_c : compF Tryz.prog [8, 9, 10, 11, 12, 13, 14, 15, 17, 18, 19, 20, 21, 22, 23, 24, 25, 26, 27, 28, 29, 30, 31, 32, 33, 34, 35, 36, 37, 16, 38, 39, 40, 42, 43, 45, 46, 47, 44, 48, 49, 50, 52, 53, 54, 55, 57, 58, 59, 60, 61, 62, 64, 65, 66, 67, 68, 69, 70, 71, 72, 73, 74, 75, 77, 78, 79, 80, 81, 82, 83, 84, 85, 86, 87, 88, 89] Tryz.f291 = some Tryz.k291 := by kernel_rfl
def Tryz.k293 : KF := ⟨[(way 0)], (cSeq (cOps (oSet 2 (sN (aAlloc [.str [], .bool false, .bool false, .bool false, .bool false, .bool false, .int .i64 0, .int .i64 0])) fun v2 => oSet 3 (sV ((xC (.bool false)))) fun v3 => oEnd))
 (cSeq (cSeq (cOps (oLet (sV ((xW 0))) fun v4 => oLet (sV (vLt .i64 (xC v4) (xC (.int .i64 1)))) fun v5 => oLet (sG (xC v5) false (sV ((xC v4)))) fun v7 => oLet (sG (xC v5) false (sV (vGt .i64 (xC v7) (xC (.int .i64 38))))) fun v8 => oSet 9 (sV (vPick (xC v5) (xC (.bool true)) (xC v8))) fun v9 => oEnd))
 (cCond (xW 9) (cSeq (cOps (oLet (sV (vFill [.str [], .bool false, .bool false, .bool false, .bool false, .bool false, .int .i64 0, .int .i64 0] [] [])) fun v10 => oDo (sM (tStore 8 (xW 2) (xC v10))) (oSet 3 (sV ((xC (.bool false)))) fun v3 => oEnd)))
 cRet)
 cSkip))
 (cSeq (cOps (oLet (sC 353 []) fun v11 => oLet (sV ((xW 0))) fun v12 => oLet (sV (vIdxA 39 8 (some 8) (xC v11) (xC v12))) fun v13 => oDo (sM (tStore 8 (xW 2) (xC v13))) (oSet 3 (sV ((xC (.bool true)))) fun v3 => oEnd)))
 cRet))), [.cell (way 2) (some 8), .tmp (way 3)]⟩
theorem Tryz.k293_c : compF Tryz.prog [4, 5, 6, 7, 8, 10, 11, 12, 13] Tryz.f293 = some Tryz.k293 := by kernel_rfl
def Tryz.k294 : KF := ⟨[(way 0), (way 1)], (cSeq (cOps (oSet 4 (sV ((xC (.int .i64 0)))) fun v4 => oEnd))
 (cSeq (cOps (oLet (sV ((xW 0))) fun v5 => oLet (sV ((xW 1))) fun v6 => oLet (sC 354 [(xC v5), (xC v6)]) fun v7 => oSet 4 (sV ((xC v7))) fun v4 => oEnd))
 cRet)), [.tmp (way 4)]⟩
theorem Tryz.k294_c : compF Tryz.prog [5, 6, 7] Tryz.f294 = some Tryz.k294 := by kernel_rfl
def Tryz.k295 : KF := ⟨[(way 0), (way 1)], (cSeq (cOps (oSet 4 (sV ((xC (.str [])))) fun v4 => oSet 5 (sV ((xC (.bool false)))) fun v5 => oEnd))
 (cSeq (cOps (oLet (sV ((xW 0))) fun v6 => oLet (sV ((xW 1))) fun v7 => oLet (sC 355 [(xC v6), (xC v7)]) fun v8 => oLet (sV (vExtract 0 (xC v8))) fun v9 => oLet (sV (vExtract 1 (xC v8))) fun v10 => oSet 4 (sV ((xC v9))) fun v4 => oSet 5 (sV ((xC v10))) fun v5 => oEnd))
 cRet)), [.tmp (way 4), .tmp (way 5)]⟩
theorem Tryz.k295_c : compF Tryz.prog [6, 7, 8, 9, 10] Tryz.f295 = some Tryz.k295 := by kernel_rfl
def Tryz.k296 : KF := ⟨[(way 0)], (cSeq (cOps (oSet 2 (sV ((xC (.bool false)))) fun v2 => oEnd))
 (cSeq (cOps (oLet (sV ((xW 0))) fun v3 => oLet (sV (vGe .i64 (xC v3) (xC (.int .i64 22)))) fun v4 => oLet (sG (xC v4) true (sV ((xC v3)))) fun v6 => oLet (sG (xC v4) true (sV (vLe .i64 (xC v6) (xC (.int .i64 25))))) fun v7 => oLet (sV (vPick (xC v4) (xC v7) (xC (.bool false)))) fun v8 => oSet 2 (sV ((xC v8))) fun v2 => oEnd))
 cRet)), [.tmp (way 2)]⟩
theorem Tryz.k296_c : compF Tryz.prog [3, 4, 5, 6, 7, 8] Tryz.f296 = some Tryz.k296 := by kernel_rfl
def Tryz.k298 : KF := ⟨[(way 0), (way 1), (way 2), (way 3), (way 4)], (cSeq (cOps (oSet 10 (sV ((xC (.int .i64 0)))) fun v10 => oSet 11 (sV ((xC (.int .i64 0)))) fun v11 => oEnd))
 (cSeq (cSeq (cOps (oLet (sV ((xW 4))) fun v12 => oLet (sV ((xW 0))) fun v13 => oLet (sV ((xW 2))) fun v14 => oLet (sV (vIdx 7 (xC v13) (xC v14))) fun v15 => oLet (sL (lLoad (some 7) (xC v15))) fun v16 => oLet (sV ((xW 1))) fun v18 => oLet (sV (vIdx 7 (xC v13) (xC v18))) fun v19 => oLet (sL (lLoad (some 7) (xC v19))) fun v20 => oLet (sX (xC v12) [(xC v16), (xC v20)]) fun v21 => oSet 22 (sV (vLt .i64 (xC v21) (xC (.int .i64 0)))) fun v22 => oEnd))
 (cCond (xW 22) (cSeq (cOps (oLet (sV ((xW 3))) fun v23 => oLet (sV (vNil (xC v23))) fun v24 => oLet (sL (lLoad none (xC v24))) fun v25 => oLet (sV (vAdd .i64 (xC v25) (xC (.int .i64 1)))) fun v26 => oLet (sV (vNil (xC v23))) fun v27 => oDo (sM (tStore 1 (xC v27) (xC v26))) (oEnd)))
 (cSeq (cOps (oLet (sV ((xW 2))) fun v28 => oLet (sV ((xW 1))) fun v29 => oSet 10 (sV ((xC v28))) fun v10 => oSet 11 (sV ((xC v29))) fun v11 => oEnd))
 cRet))
 cSkip))
 (cSeq (cOps (oLet (sV ((xW 1))) fun v30 => oLet (sV ((xW 2))) fun v31 => oSet 10 (sV ((xC v30))) fun v10 => oSet 11 (sV ((xC v31))) fun v11 => oEnd))
 cRet))), [.tmp (way 10), .tmp (way 11)]⟩
theorem Tryz.k298_c : compF Tryz.prog [12, 13, 14, 15, 16, 17, 18, 19, 20, 21, 23, 24, 25, 26, 27, 28, 29, 30, 31] Tryz.f298 = some Tryz.k298 := by kernel_rfl
def Tryz.k300 : KF := ⟨[(way 0)], (cSeq (cOps (oSet 1 (sN (aBox (xW 0))) fun v1 => oSet 2 (sN (aAlloc [.int .i64 0, .int .i64 0, .int .i64 0, .str [], .str [], .str []])) fun v2 => oEnd))
 (cSeq (cOps (oLet (sV (vAddr 0 (xW 1))) fun v6 => oLet (sL (lLoad none (xC v6))) fun v7 => oLet (sC 246 [(xC v7)]) fun v8 => oLet (sV (vExtract 0 (xC v8))) fun v9 => oLet (sV (vExtract 1 (xC v8))) fun v10 => oSet 3 (sN (aAlloc [.bool false, .bool false, .bool false, .bool false, .bool false])) fun v3 => oDo (sM (tStore 5 (xC v3) (xC v9))) (oEnd)))
 (cSeq (cSeq (cOps (oLet (sV (vAddr 0 (xW 3))) fun v11 => oLet (sL (lLoad none (xC v11))) fun v12 => oSet 13 (sV (vUn .not (xC v12))) fun v13 => oEnd))
 (cCond (xW 13) (cOps (oLet (sV (vAddr 1 (xW 1))) fun v14 => oDo (sM (tStore 1 (xC v14) (xC (.int .i64 0)))) (oEnd)))
 cSkip))
 (cSeq (cSeq (cOps (oLet (sV (vAddr 1 (xW 3))) fun v15 => oLet (sL (lLoad none (xC v15))) fun v16 => oSet 17 (sV (vUn .not (xC v16))) fun v17 => oEnd))
 (cCond (xW 17) (cOps (oLet (sV (vAddr 2 (xW 1))) fun v18 => oDo (sM (tStore 1 (xC v18) (xC (.int .i64 0)))) (oEnd)))
 cSkip))
 (cSeq (cSeq (cOps (oLet (sV (vAddr 2 (xW 3))) fun v19 => oLet (sL (lLoad none (xC v19))) fun v20 => oSet 21 (sV (vUn .not (xC v20))) fun v21 => oEnd))
 (cCond (xW 21) (cOps (oLet (sV (vAddr 3 (xW 1))) fun v22 => oDo (sM (tStore 1 (xC v22) (xC (.str [])))) (oEnd)))
 cSkip))
 (cSeq (cSeq (cOps (oLet (sV (vAddr 3 (xW 3))) fun v23 => oLet (sL (lLoad none (xC v23))) fun v24 => oSet 25 (sV (vUn .not (xC v24))) fun v25 => oEnd))
 (cCond (xW 25) (cOps (oLet (sV (vAddr 4 (xW 1))) fun v26 => oDo (sM (tStore 1 (xC v26) (xC (.str [])))) (oEnd)))
 cSkip))
 (cSeq (cSeq (cOps (oLet (sV (vAddr 4 (xW 3))) fun v27 => oLet (sL (lLoad none (xC v27))) fun v28 => oSet 29 (sV (vUn .not (xC v28))) fun v29 => oEnd))
 (cCond (xW 29) (cOps (oLet (sV (vAddr 5 (xW 1))) fun v30 => oDo (sM (tStore 1 (xC v30) (xC (.str [])))) (oEnd)))
 cSkip))
 (cSeq (cOps (oLet (sL (lLoad (some 6) (xW 1))) fun v31 => oDo (sM (tStore 6 (xW 2) (xC v31))) (oEnd)))
 cRet)))))))), [.cell (way 2) (some 6)]⟩
theorem Tryz.k300_c : compF Tryz.prog [6, 7, 8, 5, 9, 10, 4, 11, 12, 14, 15, 16, 18, 19, 20, 22, 23, 24, 26, 27, 28, 30, 31] Tryz.f300 = some Tryz.k300 := by kernel_rfl
def Tryz.k301 : KF := ⟨[(way 0), (way 1), (way 2)], (cSeq (cOps (oSet 3 (sN (aBox (xW 0))) fun v3 => oSet 6 (sV ((xC (.nilslice)))) fun v6 => oSet 7 (sV ((xC (.int .i64 0)))) fun v7 => oEnd))
 (cSeq (cOps (oLet (sL (lLoad (some 6) (xW 3))) fun v13 => oLet (sC 356 [(xC v13)]) fun v14 => oLet (sV (vExtract 0 (xC v14))) fun v15 => oLet (sV (vExtract 1 (xC v14))) fun v16 => oLet (sV (vExtract 2 (xC v14))) fun v17 => oSet 8 (sV ((xC v15))) fun v8 => oSet 9 (sV ((xC v16))) fun v9 => oEnd))
 (cSeq (cSeq (cOps (oLet (sV ((xW 2))) fun v18 => oLet (sV ((xW 8))) fun v19 => oLet (sV (vSub .i64 (xC v18) (xC v19))) fun v20 => oSet 11 (sV ((xC v20))) fun v11 => oEnd))
 (cBlock 0 (cLoop (cSeq (cSeq (cOps (oLet (sV ((xW 11))) fun v21 => oLet (sV ((xW 2))) fun v22 => oSet 23 (sV (vLt .i64 (xC v21) (xC v22))) fun v23 => oEnd))
 (cCond (xW 23) cSkip
 (cExit 0)))
 (cSeq (cBlock 1 (cOps (oLet (sV ((xW 6))) fun v26 => oLet (sV ((xW 1))) fun v27 => oLet (sV ((xW 11))) fun v28 => oLet (sV (vAdd .i64 (xC v27) (xC v28))) fun v29 => oLet (sN (aRow 1 1 [1] [(xC v29)])) fun v30 => oLet (sM (tAppend 8 1 (xC v26) (xC v30))) fun v31 => oSet 6 (sV ((xC v31))) fun v6 => oEnd)))
 (cOps (oLet (sV ((xW 11))) fun v24 => oLet (sV (vAdd .i64 (xC v24) (xC (.int .i64 1)))) fun v25 => oSet 11 (sV ((xC v25))) fun v11 => oEnd)))))))
 (cSeq (cOps (oSet 7 (sV ((xC (.int .i64 (-1))))) fun v7 => oEnd))
 (cSeq (cSeq (cOps (oLet (sV ((xW 9))) fun v32 => oSet 33 (sV (vGt .i64 (xC v32) (xC (.int .i64 0)))) fun v33 => oEnd))
 (cCond (xW 33) (cOps (oLet (sV ((xW 1))) fun v34 => oLet (sV ((xW 2))) fun v35 => oLet (sV (vAdd .i64 (xC v34) (xC v35))) fun v36 => oLet (sV ((xW 8))) fun v37 => oLet (sV (vSub .i64 (xC v36) (xC v37))) fun v38 => oSet 7 (sV ((xC v38))) fun v7 => oEnd))
 cSkip))
 (cSeq (cSeq (cOps (oLet (sV (vAddr 0 (xW 3))) fun v39 => oSet 40 (sL (lLoad none (xC v39))) fun v40 => oEnd))
 (cBlock 2 (cSeq (cOps (oLet (sV (vEq .i64 (xW 40) (xC (.int .i64 5)))) fun v42 => oSet 41 (sV ((xC v42))) fun v41 => oEnd))
 (cCond (xW 41) (cOps (oLet (sV (vAddr 1 (xW 3))) fun v43 => oLet (sL (lLoad none (xC v43))) fun v44 => oLet (sN (aRow 1 1 [1] [(xC v44)])) fun v45 => oSet 6 (sV ((xC v45))) fun v6 => oEnd))
 (cSeq (cOps (oLet (sV (vEq .i64 (xW 40) (xC (.int .i64 6)))) fun v47 => oSet 46 (sV ((xC v47))) fun v46 => oEnd))
 (cCond (xW 46) (cOps (oLet (sV (vAddr 1 (xW 3))) fun v48 => oLet (sL (lLoad none (xC v48))) fun v49 => oSet 7 (sV ((xC v49))) fun v7 => oEnd))
 (cSeq (cOps (oLet (sV (vEq .i64 (xW 40) (xC (.int .i64 8)))) fun v51 => oSet 50 (sV ((xC v51))) fun v50 => oEnd))
 (cCond (xW 50) (cOps (oLet (sV ((xW 1))) fun v52 => oLet (sV ((xW 2))) fun v53 => oLet (sV (vAdd .i64 (xC v52) (xC v53))) fun v54 => oSet 7 (sV ((xC v54))) fun v7 => oEnd))
 (cSeq (cOps (oLet (sV (vEq .i64 (xW 40) (xC (.int .i64 9)))) fun v56 => oSet 55 (sV ((xC v56))) fun v55 => oEnd))
 (cCond (xW 55) (cOps (oSet 7 (sV ((xC (.int .i64 (-1))))) fun v7 => oEnd))
 cSkip))))))))))
 (cSeq (cOps (oLet (sV ((xW 6))) fun v57 => oLet (sV ((xW 7))) fun v58 => oSet 6 (sV ((xC v57))) fun v6 => oSet 7 (sV ((xC v58))) fun v7 => oEnd))
 cRet))))))), [.tmp (way 6), .tmp (way 7)]⟩
theorem Tryz.k301_c : compF Tryz.prog [13, 14, 12, 15, 16, 17, 10, 18, 19, 20, 21, 22, 26, 27, 28, 29, 30, 31, 24, 25, 32, 34, 35, 36, 37, 38, 39, 42, 43, 44, 45, 47, 48, 49, 51, 52, 53, 54, 56, 57, 58] Tryz.f301 = some Tryz.k301 := by kernel_rfl
def Tryz.k302 : KF := ⟨[(way 0), (way 1)], (cSeq (cOps (oSet 4 (sV ((xC (.bool false)))) fun v4 => oEnd))
 (cSeq (cOps (oLet (sV ((xW 0))) fun v8 => oLet (sV ((xW 1))) fun v9 => oLet (sC 207 [(xC v8), (xC v9), (xC (.str [60, 99, 108, 105, 110, 105, 116, 62])), (xC (.str [40, 41, 86]))]) fun v10 => oLet (sV (vExtract 0 (xC v10))) fun v11 => oLet (sV (vExtract 1 (xC v10))) fun v12 => oLet (sN (aAlloc [.str [], .str [], .bool false, .bool false, .int .i64 0, .int .i64 0, .nilslice, .nilslice])) fun v5 => oDo (sM (tStore 8 (xC v5) (xC v11))) (oSet 6 (sV ((xC v12))) fun v6 => oEnd)))
 (cSeq (cOps (oLet (sV ((xW 6))) fun v13 => oSet 4 (sV ((xC v13))) fun v4 => oEnd))
 cRet))), [.tmp (way 4)]⟩
theorem Tryz.k302_c : compF Tryz.prog [8, 9, 10, 7, 11, 12, 5, 13] Tryz.f302 = some Tryz.k302 := by kernel_rfl
def Tryz.k304 : KF := ⟨[(way 0), (way 1)], (cSeq (cOps (oLet (sV ((xW 0))) fun v5 => oLet (sV (vLen (xC v5))) fun v6 => oSet 4 (sV ((xC v6))) fun v4 => oEnd))
 (cOps (oLet (sV ((xW 0))) fun v7 => oLet (sV ((xW 4))) fun v8 => oLet (sV (vToI .u64 (xC v8))) fun v10 => oLet (sC 134 [(xC v10)]) fun v11 => oLet (sV ((xW 1))) fun v12 => oLet (sC 358 [(xC v7), (xC (.int .i64 0)), (xC v8), (xC v11), (xC v12)]) fun v13 => oEnd))), []⟩
theorem Tryz.k304_c : compF Tryz.prog [5, 6, 7, 8, 9, 10, 11, 12, 13] Tryz.f304 = some Tryz.k304 := by kernel_rfl
def Tryz.k308 : KF := ⟨[(way 0), (way 1), (way 2)], (cSeq (cOps (oLet (sV ((xW 1))) fun v8 => oLet (sV (vAdd .i64 (xC v8) (xC (.int .i64 1)))) fun v9 => oSet 6 (sV ((xC v9))) fun v6 => oEnd))
 (cBlock 0 (cLoop (cSeq (cSeq (cOps (oLet (sV ((xW 6))) fun v10 => oLet (sV ((xW 2))) fun v11 => oSet 12 (sV (vLt .i64 (xC v10) (xC v11))) fun v12 => oEnd))
 (cCond (xW 12) cSkip
 (cExit 0)))
 (cSeq (cBlock 1 (cSeq (cOps (oLet (sV ((xW 6))) fun v15 => oSet 7 (sV ((xC v15))) fun v7 => oEnd))
 (cBlock 2 (cLoop (cSeq (cSeq (cOps (oLet (sV ((xW 7))) fun v16 => oLet (sV ((xW 1))) fun v17 => oLet (sV (vGt .i64 (xC v16) (xC v17))) fun v18 => oLet (sG (xC v18) true (sV ((xW 0)))) fun v20 => oLet (sG (xC v18) true (sV ((xC v16)))) fun v21 => oLet (sG (xC v18) true (sV (vIdx 1 (xC v20) (xC v21)))) fun v22 => oLet (sG (xC v18) true (sL (lLoad none (xC v22)))) fun v23 => oLet (sG (xC v18) true (sV ((xW 0)))) fun v24 => oLet (sG (xC v18) true (sV ((xC v16)))) fun v25 => oLet (sG (xC v18) true (sV (vSub .i64 (xC v25) (xC (.int .i64 1))))) fun v26 => oLet (sG (xC v18) true (sV (vIdx 1 (xC v24) (xC v26)))) fun v27 => oLet (sG (xC v18) true (sL (lLoad none (xC v27)))) fun v28 => oLet (sG (xC v18) true (sC 314 [(xC v23), (xC v28)])) fun v29 => oSet 30 (sV (vPick (xC v18) (xC v29) (xC (.bool false)))) fun v30 => oEnd))
 (cCond (xW 30) cSkip
 (cExit 2)))
 (cSeq (cBlock 3 (cOps (oLet (sV ((xW 0))) fun v33 => oLet (sV ((xW 7))) fun v34 => oLet (sV (vSub .i64 (xC v34) (xC (.int .i64 1)))) fun v37 => oLet (sV (vSub .i64 (xC v34) (xC (.int .i64 1)))) fun v40 => oLet (sV (vIdx 1 (xC v33) (xC v40))) fun v41 => oLet (sL (lLoad none (xC v41))) fun v42 => oLet (sV (vIdx 1 (xC v33) (xC v34))) fun v45 => oLet (sL (lLoad none (xC v45))) fun v46 => oLet (sV (vIdx 1 (xC v33) (xC v34))) fun v47 => oDo (sM (tStore 1 (xC v47) (xC v42))) (oLet (sV (vIdx 1 (xC v33) (xC v37))) fun v48 => oDo (sM (tStore 1 (xC v48) (xC v46))) (oEnd)))))
 (cOps (oLet (sV ((xW 7))) fun v31 => oLet (sV (vSub .i64 (xC v31) (xC (.int .i64 1)))) fun v32 => oSet 7 (sV ((xC v32))) fun v7 => oEnd))))))))
 (cOps (oLet (sV ((xW 6))) fun v13 => oLet (sV (vAdd .i64 (xC v13) (xC (.int .i64 1)))) fun v14 => oSet 6 (sV ((xC v14))) fun v6 => oEnd))))))), []⟩
theorem Tryz.k308_c : compF Tryz.prog [8, 9, 10, 11, 15, 16, 17, 18, 19, 20, 21, 22, 23, 24, 25, 26, 27, 28, 29, 33, 34, 35, 36, 37, 38, 39, 40, 41, 42, 43, 44, 45, 46, 47, 48, 31, 32, 13, 14] Tryz.f308 = some Tryz.k308 := by kernel_rfl
def Tryz.k319 : KF := ⟨[(way 0), (way 1)], (cSeq (cOps (oSet 4 (sV ((xC (.nilslice)))) fun v4 => oEnd))
 (cSeq (cOps (oLet (sV ((xW 0))) fun v5 => oLet (sV (vNil (xC v5))) fun v6 => oLet (sV (vAddr 0 (xC v6))) fun v7 => oLet (sL (lLoad none (xC v7))) fun v8 => oLet (sV ((xW 1))) fun v9 => oLet (sC 265 [(xC v8), (xC v9)]) fun v10 => oSet 4 (sV ((xC v10))) fun v4 => oEnd))
 cRet)), [.tmp (way 4)]⟩
theorem Tryz.k319_c : compF Tryz.prog [5, 6, 7, 8, 9, 10] Tryz.f319 = some Tryz.k319 := by kernel_rfl
def Tryz.k322 : KF := ⟨[(way 0)], (cSeq (cOps (oSet 2 (sV ((xC (.str [])))) fun v2 => oEnd))
 (cSeq (cOps (oLet (sV ((xW 0))) fun v3 => oLet (sV (vStr .add (xC v3) (xC (.str [35, 101, 120, 99])))) fun v4 => oSet 2 (sV ((xC v4))) fun v2 => oEnd))
 cRet)), [.tmp (way 2)]⟩
theorem Tryz.k322_c : compF Tryz.prog [3, 4] Tryz.f322 = some Tryz.k322 := by kernel_rfl
def Tryz.k325 : KF := ⟨[(way 0), (way 1), (way 2)], (cSeq (cOps (oSet 8 (sV ((xW 2))) fun v8 => oSet 9 (sV (vLen (xC v8))) fun v9 => oSet 10 (sV ((xC (.int .i64 0)))) fun v10 => oEnd))
 (cBlock 0 (cLoop (cSeq (cOps (oSet 11 (sV (vLt .i64 (xW 10) (xW 9))) fun v11 => oEnd))
 (cSeq (cCond (xW 11) cSkip
 (cExit 0))
 (cSeq (cBlock 1 (cSeq (cOps (oLet (sV (vIdx 1 (xW 8) (xW 10))) fun v12 => oLet (sL (lLoad none (xC v12))) fun v13 => oSet 7 (sV ((xC v13))) fun v7 => oEnd))
 (cSeq (cSeq (cOps (oLet (sV ((xW 0))) fun v14 => oLet (sV (vNil (xC v14))) fun v15 => oLet (sV (vAddr 0 (xC v15))) fun v16 => oLet (sL (lLoad none (xC v16))) fun v17 => oLet (sV ((xW 1))) fun v18 => oLet (sL (lLookup (.one .str) (some (.nilmap)) false (xC v17) (xC v18))) fun v19 => oSet 20 (sL (lEq .map (xC v19) (xC (.nilmap)))) fun v20 => oEnd))
 (cCond (xW 20) (cOps (oLet (sV ((xW 0))) fun v21 => oLet (sV (vNil (xC v21))) fun v22 => oLet (sV (vAddr 0 (xC v22))) fun v23 => oLet (sL (lLoad none (xC v23))) fun v24 => oLet (sV ((xW 1))) fun v25 => oLet (sN (aNewMap)) fun v26 => oDo (sM (tMapPut (.one .str) (xC v24) (xC v25) (xC v26))) (oEnd)))
 cSkip))
 (cSeq (cOps (oLet (sV ((xW 0))) fun v27 => oLet (sV (vNil (xC v27))) fun v28 => oLet (sV (vAddr 0 (xC v28))) fun v29 => oLet (sL (lLoad none (xC v29))) fun v30 => oLet (sV ((xW 1))) fun v31 => oLet (sL (lLookup (.one .str) (some (.nilmap)) false (xC v30) (xC v31))) fun v32 => oLet (sV ((xW 7))) fun v33 => oLet (sL (lLookup (.one .int) (some (.int .i64 0)) false (xC v32) (xC v33))) fun v34 => oSet 35 (sV (vEq .i64 (xC v34) (xC (.int .i64 0)))) fun v35 => oEnd))
 (cCond (xW 35) (cSeq (cOps (oLet (sV ((xW 0))) fun v36 => oLet (sV (vNil (xC v36))) fun v37 => oLet (sV (vAddr 0 (xC v37))) fun v38 => oLet (sL (lLoad none (xC v38))) fun v39 => oLet (sV ((xW 1))) fun v40 => oLet (sL (lLookup (.one .str) (some (.nilmap)) false (xC v39) (xC v40))) fun v41 => oLet (sV ((xW 7))) fun v42 => oLet (sL (lLookup (.one .int) (some (.int .i64 0)) false (xC v41) (xC v42))) fun v43 => oLet (sV (vAdd .i64 (xC v43) (xC (.int .i64 1)))) fun v44 => oDo (sM (tMapPut (.one .int) (xC v41) (xC v42) (xC v44))) (oEnd)))
 (cOps (oLet (sV ((xW 0))) fun v45 => oLet (sV (vNil (xC v45))) fun v46 => oLet (sV (vAddr 4 (xC v46))) fun v47 => oLet (sL (lLoad none (xC v47))) fun v48 => oLet (sV (vAdd .i64 (xC v48) (xC (.int .i64 1)))) fun v49 => oLet (sV (vNil (xC v45))) fun v50 => oLet (sV (vAddr 4 (xC v50))) fun v51 => oDo (sM (tStore 1 (xC v51) (xC v49))) (oEnd))))
 cSkip)))))
 (cOps (oLet (sV (vAdd .i64 (xW 10) (xC (.int .i64 1)))) fun v52 => oSet 10 (sV ((xC v52))) fun v10 => oEnd)))))))), []⟩
theorem Tryz.k325_c : compF Tryz.prog [12, 13, 14, 15, 16, 17, 18, 19, 21, 22, 23, 24, 25, 26, 27, 28, 29, 30, 31, 32, 33, 34, 36, 37, 38, 39, 40, 41, 42, 43, 44, 45, 46, 47, 48, 49, 50, 51, 52] Tryz.f325 = some Tryz.k325 := by kernel_rfl
def Tryz.k349 : KF := ⟨[(way 0), (way 1), (way 2), (way 3), (way 4)], (cSeq (cOps (oSet 7 (sN (aBox (xW 2))) fun v7 => oSet 9 (sN (aBox (xW 4))) fun v9 => oSet 10 (sN (aAlloc [.nilslice, .nilslice])) fun v10 => oSet 11 (sV ((xC (.int .i64 0)))) fun v11 => oEnd))
 (cScope (cSeq (cOps (oSet 12 (sN (aAlloc [.nilptr, .str [], .int .i64 0, .int .i64 0, .int .i64 0, .str [], .str [], .str [], .int .i64 0, .nilslice, .nilslice, .str []])) fun v12 => oEnd))
 (cSeq (cOps (oSet 13 (sV ((xC (.int .i64 0)))) fun v13 => oSet 14 (sV ((xC (.int .i64 0)))) fun v14 => oSet 15 (sV ((xC (.int .i64 0)))) fun v15 => oEnd))
 (cSeq (cOps (oLet (sV ((xW 0))) fun v22 => oLet (sV ((xW 1))) fun v23 => oLet (sC 241 [(xC v22), (xC v23)]) fun v24 => oLet (sV (vExtract 0 (xC v24))) fun v25 => oLet (sV (vExtract 1 (xC v24))) fun v26 => oLet (sN (aAlloc [.str [], .str [], .bool false, .bool false, .nilslice, .nilslice, .nilslice])) fun v16 => oDo (sM (tStore 7 (xC v16) (xC v25))) (oSet 17 (sV ((xC v26))) fun v17 => oEnd)))
 (cSeq (cOps (oLet (sV (vAddr 1 (xW 7))) fun v28 => oLet (sL (lLoad none (xC v28))) fun v29 => oLet (sC 249 [(xC v29)]) fun v30 => oLet (sV (vExtract 0 (xC v30))) fun v31 => oLet (sV (vExtract 1 (xC v30))) fun v32 => oLet (sV (vExtract 2 (xC v30))) fun v33 => oSet 19 (sV ((xC v32))) fun v19 => oSet 20 (sV ((xC v33))) fun v20 => oEnd))
 (cSeq (cOps (oSet 11 (sV ((xC (.int .i64 3)))) fun v11 => oEnd))
 (cSeq (cSeq (cOps (oLet (sV ((xW 17))) fun v34 => oLet (sV (vUn .not (xC v34))) fun v35 => oLet (sG (xC v35) false (sV ((xW 20)))) fun v37 => oLet (sG (xC v35) false (sV (vNe .i64 (xC v37) (xC (.int .i64 0))))) fun v38 => oLet (sV (vPick (xC v35) (xC (.bool true)) (xC v38))) fun v39 => oLet (sG (xC v39) false (sV ((xW 3)))) fun v41 => oLet (sG (xC v39) false (sV (vLt .i64 (xC v41) (xC (.int .i64 0))))) fun v42 => oLet (sV (vPick (xC v39) (xC (.bool true)) (xC v42))) fun v43 => oLet (sG (xC v43) false (sV ((xW 3)))) fun v45 => oLet (sG (xC v43) false (sV (vAddr 6 (xW 7)))) fun v46 => oLet (sG (xC v43) false (sL (lLoad none (xC v46)))) fun v47 => oLet (sG (xC v43) false (sV (vLen (xC v47)))) fun v48 => oLet (sG (xC v43) false (sV (vGe .i64 (xC v45) (xC v48)))) fun v49 => oLet (sV (vPick (xC v43) (xC (.bool true)) (xC v49))) fun v50 => oLet (sG (xC v50) false (sV (vAddr 0 (xW 9)))) fun v52 => oLet (sG (xC v50) false (sL (lLoad none (xC v52)))) fun v53 => oLet (sG (xC v50) false (sV (vLen (xC v53)))) fun v54 => oLet (sG (xC v50) false (sV (vAddr 5 (xW 7)))) fun v55 => oLet (sG (xC v50) false (sL (lLoad none (xC v55)))) fun v56 => oLet (sG (xC v50) false (sV (vNe .i64 (xC v54) (xC v56)))) fun v57 => oSet 58 (sV (vPick (xC v50) (xC (.bool true)) (xC v57))) fun v58 => oEnd))
 (cCond (xW 58) (cGoto 0)
 cSkip))
 (cSeq (cOps (oLet (sV ((xW 0))) fun v59 => oLet (sV ((xW 19))) fun v60 => oLet (sV (vAddr 6 (xW 7))) fun v61 => oLet (sL (lLoad none (xC v61))) fun v62 => oLet (sV ((xW 3))) fun v63 => oLet (sV (vIdx 6 (xC v62) (xC v63))) fun v64 => oLet (sL (lLoad (some 6) (xC v64))) fun v65 => oCap fun c7 => oLet (sC 300 [(xC v65)]) fun v66 => oCap fun d7 => oLet (sV (vAddr 0 (xW 9))) fun v68 => oLet (sLo [c7] d7.next (lLoad none (xC v68))) fun v69 => oLet (sV (vFill [.nilptr, .str [], .int .i64 0, .int .i64 0, .int .i64 0, .str [], .str [], .str [], .int .i64 0, .nilslice, .nilslice, .str []] [(0, 1), (1, 1), (2, 6), (8, 1), (9, 1)] [(xC v59), (xC v60), (xC v66), (xC v63), (xC v69)])) fun v70 => oCap fun c12 => oDo (sM (tStore 12 (xW 12) (xC v70))) (oCap fun d12 => oEnd)))
 (cSeq (cSeq (cOps (oLet (sV (vAddr 2 (xW 12))) fun v71 => oLet (sL (lLoad (some 6) (xC v71))) fun v72 => oLet (sV (vAddr 6 (xW 7))) fun v73 => oLet (sL (lLoad none (xC v73))) fun v74 => oLet (sV (vLen (xC v74))) fun v75 => oLet (sV (vAddr 5 (xW 7))) fun v76 => oLet (sL (lLoad none (xC v76))) fun v77 => oLet (sC 182 [(xC v72), (xC v75), (xC v77)]) fun v78 => oLet (sV (vNe .i64 (xC v78) (xC (.int .i64 0)))) fun v79 => oLet (sG (xC v79) false (sV ((xW 0)))) fun v81 => oLet (sG (xC v79) false (sV (vAddr 1 (xW 7)))) fun v82 => oLet (sG (xC v79) false (sL (lLoad none (xC v82)))) fun v83 => oLet (sG (xC v79) false (sC 380 [(xC v81), (xC v83)])) fun v84 => oLet (sG (xC v79) false (sV (vUn .not (xC v84)))) fun v85 => oLet (sV (vPick (xC v79) (xC (.bool true)) (xC v85))) fun v86 => oLet (sG (xC v86) false (sC 381 [(xW 12)])) fun v88 => oLet (sG (xC v86) false (sV (vUn .not (xC v88)))) fun v89 => oSet 90 (sV (vPick (xC v86) (xC (.bool true)) (xC v89))) fun v90 => oEnd))
 (cCond (xW 90) (cGoto 0)
 cSkip))
 (cSeq (cOps (oSet 11 (sV ((xC (.int .i64 1)))) fun v11 => oEnd))
 (cSeq (cOps (oLet (sV (vAddr 2 (xW 12))) fun v92 => oLet (sL (lLoad (some 6) (xC v92))) fun v93 => oLet (sC 356 [(xC v93)]) fun v94 => oLet (sV (vExtract 0 (xC v94))) fun v95 => oLet (sV (vExtract 1 (xC v94))) fun v96 => oLet (sV (vExtract 2 (xC v94))) fun v97 => oSet 13 (sV ((xC v95))) fun v13 => oSet 14 (sV ((xC v96))) fun v14 => oEnd))
 (cSeq (cSeq (cOps (oLet (sV (vAddr 1 (xW 9))) fun v98 => oLet (sL (lLoad none (xC v98))) fun v99 => oLet (sV (vLen (xC v99))) fun v100 => oLet (sV ((xW 13))) fun v101 => oLet (sV (vSub .i64 (xC v100) (xC v101))) fun v102 => oSet 15 (sV ((xC v102))) fun v15 => oEnd))
 (cSeq (cOps (oLet (sV ((xW 15))) fun v103 => oSet 104 (sV (vLt .i64 (xC v103) (xC (.int .i64 0)))) fun v104 => oEnd))
 (cCond (xW 104) (cGoto 0)
 cSkip)))
 (cSeq (cOps (oSet 11 (sV ((xC (.int .i64 2)))) fun v11 => oEnd))
 (cSeq (cSeq (cOps (oLet (sV (vAddr 1 (xW 9))) fun v105 => oLet (sL (lLoad none (xC v105))) fun v106 => oLet (sV ((xW 15))) fun v107 => oLet (sV (vSlice 1 (xC v106) [(xC v107)] [] [])) fun v108 => oLet (sV (vAddr 10 (xW 12))) fun v109 => oDo (sM (tStore 1 (xC v109) (xC v108))) (oEnd)))
 (cSeq (cOps (oLet (sC 382 [(xW 12)]) fun v110 => oSet 111 (sV (vUn .not (xC v110))) fun v111 => oEnd))
 (cCond (xW 111) (cGoto 0)
 cSkip)))
 (cSeq (cOps (oSet 11 (sV ((xC (.int .i64 4)))) fun v11 => oEnd))
 (cSeq (cSeq (cOps (oLet (sV ((xW 15))) fun v112 => oLet (sV ((xW 14))) fun v113 => oLet (sV (vAdd .i64 (xC v112) (xC v113))) fun v114 => oLet (sV (vAddr 4 (xW 7))) fun v115 => oLet (sL (lLoad none (xC v115))) fun v116 => oSet 117 (sV (vGt .i64 (xC v114) (xC v116))) fun v117 => oEnd))
 (cCond (xW 117) (cGoto 0)
 cSkip))
 (cSeq (cSeq (cOps (oLet (sV (vAddr 1 (xW 9))) fun v118 => oLet (sL (lLoad none (xC v118))) fun v119 => oLet (sV ((xW 15))) fun v120 => oLet (sV (vSlice 1 (xC v119) [] [(xC v120)] [])) fun v121 => oLet (sC 129 [(xC v121)]) fun v122 => oLet (sV ((xW 14))) fun v123 => oLet (sC 383 [(xW 12), (xC v122), (xC v123)]) fun v124 => oDo (sM (tStore 2 (xW 10) (xC v124))) (oSet 11 (sV ((xC (.int .i64 0)))) fun v11 => oEnd)))
 cRet)
 (cSeq cSkip
 (cSeq (cOps (oLet (sV (vFill [.nilslice, .nilslice] [] [])) fun v125 => oLet (sV ((xW 11))) fun v126 => oDo (sM (tStore 2 (xW 10) (xC v125))) (oSet 11 (sV ((xC v126))) fun v11 => oEnd)))
 cRet)))))))))))))))))) [(0, (cSeq cSkip
 (cSeq (cOps (oLet (sV (vFill [.nilslice, .nilslice] [] [])) fun v125 => oLet (sV ((xW 11))) fun v126 => oDo (sM (tStore 2 (xW 10) (xC v125))) (oSet 11 (sV ((xC v126))) fun v11 => oEnd)))
 cRet)))])), [.cell (way 10) (some 2), .tmp (way 11)]⟩
theorem Tryz.k349_c : compF Tryz.prog [22, 23, 24, 21, 25, 26, 16, 28, 29, 30, 27, 31, 32, 33, 18, 34, 35, 36, 37, 38, 39, 40, 41, 42, 43, 44, 45, 46, 47, 48, 49, 50, 51, 52, 53, 54, 55, 56, 57, 59, 60, 61, 62, 63, 64, 65, 66, 67, 68, 69, 70, 71, 72, 73, 74, 75, 76, 77, 78, 79, 80, 81, 82, 83, 84, 85, 86, 87, 88, 89, 92, 93, 94, 91, 95, 96, 97, 98, 99, 100, 101, 102, 103, 105, 106, 107, 108, 109, 110, 112, 113, 114, 115, 116, 118, 119, 120, 121, 122, 123, 124, 125, 126] Tryz.f349 = some Tryz.k349 := by kernel_rfl
def Tryz.k350 : KF := ⟨[(way 0), (way 1)], (cSeq (cOps (oSet 4 (sV ((xC (.int .i64 0)))) fun v4 => oSet 5 (sV ((xC (.int .i64 0)))) fun v5 => oEnd))
 (cSeq (cSeq (cOps (oLet (sV ((xW 0))) fun v9 => oLet (sV (vNil (xC v9))) fun v10 => oLet (sV (vAddr 2 (xC v10))) fun v11 => oLet (sV (vAddr 7 (xC v11))) fun v12 => oSet 13 (sL (lLoad none (xC v12))) fun v13 => oSet 14 (sV (vLen (xC v13))) fun v14 => oSet 15 (sV ((xC (.int .i64 0)))) fun v15 => oEnd))
 (cBlock 0 (cLoop (cSeq (cOps (oSet 16 (sV (vLt .i64 (xW 15) (xW 14))) fun v16 => oEnd))
 (cSeq (cCond (xW 16) cSkip
 (cExit 0))
 (cSeq (cBlock 1 (cSeq (cOps (oLet (sV (vIdx 4 (xW 13) (xW 15))) fun v17 => oLet (sL (lLoad (some 4) (xC v17))) fun v18 => oSet 7 (sN (aAlloc [.int .i64 0, .int .i64 0, .int .i64 0, .str []])) fun v7 => oDo (sM (tStore 4 (xC v7) (xC v18))) (oEnd)))
 (cSeq (cSeq (cOps (oLet (sV ((xW 1))) fun v19 => oLet (sV (vAddr 0 (xW 7))) fun v20 => oLet (sL (lLoad none (xC v20))) fun v21 => oLet (sV (vLt .i64 (xC v19) (xC v21))) fun v22 => oLet (sG (xC v22) false (sV ((xC v19)))) fun v24 => oLet (sG (xC v22) false (sV (vAddr 1 (xW 7)))) fun v25 => oLet (sG (xC v22) false (sL (lLoad none (xC v25)))) fun v26 => oLet (sG (xC v22) false (sV (vGe .i64 (xC v24) (xC v26)))) fun v27 => oSet 28 (sV (vPick (xC v22) (xC (.bool true)) (xC v27))) fun v28 => oEnd))
 (cCond (xW 28) (cExit 1)
 cSkip))
 (cSeq (cOps (oLet (sV (vAddr 3 (xW 7))) fun v29 => oLet (sL (lLoad none (xC v29))) fun v30 => oSet 8 (sV ((xC v30))) fun v8 => oEnd))
 (cSeq (cSeq (cOps (oLet (sV ((xW 8))) fun v31 => oSet 32 (sV (vSEq (xC v31) (xC (.str [])))) fun v32 => oEnd))
 (cCond (xW 32) (cOps (oSet 8 (sV ((xC (.str [84, 104, 114, 111, 119, 97, 98, 108, 101])))) fun v8 => oEnd))
 cSkip))
 (cSeq (cOps (oLet (sV ((xW 0))) fun v33 => oLet (sV (vAddr 2 (xW 7))) fun v34 => oLet (sLs (lLoad none (xC v34))) fun v35 => oLet (sV (vNil (xC v33))) fun v37 => oLet (sV (vAddr 10 (xC v37))) fun v38 => oLet (sL (lLoad none (xC v38))) fun v39 => oLet (sV ((xW 1))) fun v40 => oLet (sV (vIdx 2 (xC v39) (xC v40))) fun v41 => oLet (sV (vAddr 0 (xC v41))) fun v42 => oLet (sL (lLoad none (xC v42))) fun v43 => oLet (sCs 129 [(xC v43)]) fun v44 => oLet (sV ((xW 8))) fun v45 => oLet (sCs 227 [(xC v45)]) fun v46 => oLet (sN (aRow 1 1 [1] [(xC v46)])) fun v47 => oLet (sV (vCat [1, 1] [(xC v44), (xC v47)])) fun v48 => oLet (sC 289 [(xC v33), (xC v35), (xC v48)]) fun v49 => oSet 5 (sV ((xC v49))) fun v5 => oEnd))
 (cSeq (cSeq (cOps (oLet (sV ((xW 0))) fun v50 => oLet (sV (vNil (xC v50))) fun v51 => oLet (sV (vAddr 2 (xC v51))) fun v52 => oLet (sV (vAddr 4 (xC v52))) fun v53 => oLet (sL (lLoad none (xC v53))) fun v54 => oSet 55 (sV (vEq .i64 (xC v54) (xC (.int .i64 0)))) fun v55 => oEnd))
 (cCond (xW 55) (cOps (oSet 5 (sV ((xC (.int .i64 4)))) fun v5 => oEnd))
 cSkip))
 (cSeq (cOps (oLet (sV ((xW 5))) fun v56 => oSet 57 (sV (vNe .i64 (xC v56) (xC (.int .i64 0)))) fun v57 => oEnd))
 (cCond (xW 57) (cSeq (cOps (oLet (sV (vAddr 2 (xW 7))) fun v58 => oLet (sL (lLoad none (xC v58))) fun v59 => oLet (sV ((xW 5))) fun v60 => oSet 4 (sV ((xC v59))) fun v4 => oSet 5 (sV ((xC v60))) fun v5 => oEnd))
 cRet)
 cSkip)))))))))
 (cOps (oLet (sV (vAdd .i64 (xW 15) (xC (.int .i64 1)))) fun v61 => oSet 15 (sV ((xC v61))) fun v15 => oEnd))))))))
 (cSeq (cOps (oSet 4 (sV ((xC (.int .i64 0)))) fun v4 => oSet 5 (sV ((xC (.int .i64 0)))) fun v5 => oEnd))
 cRet))), [.tmp (way 4), .tmp (way 5)]⟩
theorem Tryz.k350_c : compF Tryz.prog [9, 10, 11, 12, 17, 18, 19, 20, 21, 22, 23, 24, 25, 26, 27, 29, 30, 31, 33, 34, 35, 36, 37, 38, 39, 40, 41, 42, 43, 44, 45, 46, 47, 48, 49, 50, 51, 52, 53, 54, 56, 58, 59, 60, 61] Tryz.f350 = some Tryz.k350 := by kernel_rfl
def Tryz.k351 : KF := ⟨[(way 0)], (cSeq (cOps (oSet 2 (sV ((xC (.bool false)))) fun v2 => oEnd))
 (cSeq (cOps (oLet (sV ((xW 0))) fun v3 => oLet (sV (vEq .i64 (xC v3) (xC (.int .i64 17)))) fun v4 => oLet (sG (xC v4) false (sV ((xC v3)))) fun v6 => oLet (sG (xC v4) false (sV (vEq .i64 (xC v6) (xC (.int .i64 36))))) fun v7 => oLet (sV (vPick (xC v4) (xC (.bool true)) (xC v7))) fun v8 => oLet (sG (xC v8) false (sV ((xC v3)))) fun v10 => oLet (sG (xC v8) false (sV (vEq .i64 (xC v10) (xC (.int .i64 37))))) fun v11 => oLet (sV (vPick (xC v8) (xC (.bool true)) (xC v11))) fun v12 => oLet (sG (xC v12) false (sV ((xC v3)))) fun v14 => oLet (sG (xC v12) false (sV (vEq .i64 (xC v14) (xC (.int .i64 38))))) fun v15 => oLet (sV (vPick (xC v12) (xC (.bool true)) (xC v15))) fun v16 => oSet 2 (sV ((xC v16))) fun v2 => oEnd))
 cRet)), [.tmp (way 2)]⟩
theorem Tryz.k351_c : compF Tryz.prog [3, 4, 5, 6, 7, 8, 9, 10, 11, 12, 13, 14, 15, 16] Tryz.f351 = some Tryz.k351 := by kernel_rfl
def Tryz.k353 : KF := ⟨[], (cSeq (cOps (oSet 0 (sN (aAlloc [.str [], .bool false, .bool false, .bool false, .bool false, .bool false, .int .i64 0, .int .i64 0, .str [], .bool false, .bool false, .bool false, .bool false, .bool false, .int .i64 0, .int .i64 0, .str [], .bool false, .bool false, .bool false, .bool false, .bool false, .int .i64 0, .int .i64 0, .str [], .bool false, .bool false, .bool false, .bool false, .bool false, .int .i64 0, .int .i64 0, .str [], .bool false, .bool false, .bool false, .bool false, .bool false, .int .i64 0, .int .i64 0, .str [], .bool false, .bool false, .bool false, .bool false, .bool false, .int .i64 0, .int .i64 0, .str [], .bool false, .bool false, .bool false, .bool false, .bool false, .int .i64 0, .int .i64 0, .str [], .bool false, .bool false, .bool false, .bool false, .bool false, .int .i64 0, .int .i64 0, .str [], .bool false, .bool false, .bool false, .bool false, .bool false, .int .i64 0, .int .i64 0, .str [], .bool false, .bool false, .bool false, .bool false, .bool false, .int .i64 0, .int .i64 0, .str [], .bool false, .bool false, .bool false, .bool false, .bool false, .int .i64 0, .int .i64 0, .str [], .bool false, .bool false, .bool false, .bool false, .bool false, .int .i64 0, .int .i64 0, .str [], .bool false, .bool false, .bool false, .bool false, .bool false, .int .i64 0, .int .i64 0, .str [], .bool false, .bool false, .bool false, .bool false, .bool false, .int .i64 0, .int .i64 0, .str [], .bool false, .bool false, .bool false, .bool false, .bool false, .int .i64 0, .int .i64 0, .str [], .bool false, .bool false, .bool false, .bool false, .bool false, .int .i64 0, .int .i64 0, .str [], .bool false, .bool false, .bool false, .bool false, .bool false, .int .i64 0, .int .i64 0, .str [], .bool false, .bool false, .bool false, .bool false, .bool false, .int .i64 0, .int .i64 0, .str [], .bool false, .bool false, .bool false, .bool false, .bool false, .int .i64 0, .int .i64 0, .str [], .bool false, .bool false, .bool false, .bool false, .bool false, .int .i64 0, .int .i64 0, .str [], .bool false, .bool false, .bool false, .bool false, .bool false, .int .i64 0, .int .i64 0, .str [], .bool false, .bool false, .bool false, .bool false, .bool false, .int .i64 0, .int .i64 0, .str [], .bool false, .bool false, .bool false, .bool false, .bool false, .int .i64 0, .int .i64 0, .str [], .bool false, .bool false, .bool false, .bool false, .bool false, .int .i64 0, .int .i64 0, .str [], .bool false, .bool false, .bool false, .bool false, .bool false, .int .i64 0, .int .i64 0, .str [], .bool false, .bool false, .bool false, .bool false, .bool false, .int .i64 0, .int .i64 0, .str [], .bool false, .bool false, .bool false, .bool false, .bool false, .int .i64 0, .int .i64 0, .str [], .bool false, .bool false, .bool false, .bool false, .bool false, .int .i64 0, .int .i64 0, .str [], .bool false, .bool false, .bool false, .bool false, .bool false, .int .i64 0, .int .i64 0, .str [], .bool false, .bool false, .bool false, .bool false, .bool false, .int .i64 0, .int .i64 0, .str [], .bool false, .bool false, .bool false, .bool false, .bool false, .int .i64 0, .int .i64 0, .str [], .bool false, .bool false, .bool false, .bool false, .bool false, .int .i64 0, .int .i64 0, .str [], .bool false, .bool false, .bool false, .bool false, .bool false, .int .i64 0, .int .i64 0, .str [], .bool false, .bool false, .bool false, .bool false, .bool false, .int .i64 0, .int .i64 0, .str [], .bool false, .bool false, .bool false, .bool false, .bool false, .int .i64 0, .int .i64 0, .str [], .bool false, .bool false, .bool false, .bool false, .bool false, .int .i64 0, .int .i64 0, .str [], .bool false, .bool false, .bool false, .bool false, .bool false, .int .i64 0, .int .i64 0, .str [], .bool false, .bool false, .bool false, .bool false, .bool false, .int .i64 0, .int .i64 0, .str [], .bool false, .bool false, .bool false, .bool false, .bool false, .int .i64 0, .int .i64 0])) fun v0 => oEnd))
 (cSeq (cOps (oLet (sV (vFill [.bool false, .bool false, .bool false, .bool false, .bool false] [] [])) fun v5 => oLet (sV (vFill [.bool false, .bool false, .bool false, .bool false, .bool false] [(0, 1)] [(xC (.bool true))])) fun v6 => oLet (sV (vFill [.bool false, .bool false, .bool false, .bool false, .bool false] [(4, 1)] [(xC (.bool true))])) fun v7 => oSet 1 (sN (aAlloc [.bool false, .bool false, .bool false, .bool false, .bool false])) fun v1 => oSet 2 (sN (aAlloc [.bool false, .bool false, .bool false, .bool false, .bool false])) fun v2 => oSet 3 (sN (aAlloc [.bool false, .bool false, .bool false, .bool false, .bool false])) fun v3 => oDo (sM (tStore 5 (xC v1) (xC v5))) (oDo (sM (tStore 5 (xC v2) (xC v6))) (oDo (sM (tStore 5 (xC v3) (xC v7))) (oEnd)))))
 (cSeq (cOps (oLet (sV (vFill [.bool false, .bool false, .bool false, .bool false, .bool false] [(2, 1), (3, 1), (4, 1)] [(xC (.bool true)), (xC (.bool true)), (xC (.bool true))])) fun v8 => oSet 4 (sN (aAlloc [.bool false, .bool false, .bool false, .bool false, .bool false])) fun v4 => oDo (sM (tStore 5 (xC v4) (xC v8))) (oEnd)))
 (cSeq (cOps (oLet (sL (lLoad (some 5) (xW 1))) fun v9 => oLet (sV (vCat [1, 5, 1, 1] [(xC (.str [110, 111, 112])), (xC v9), (xC (.int .i64 0)), (xC (.int .i64 0))])) fun v10 => oLet (sL (lLoad (some 5) (xW 2))) fun v11 => oLet (sV (vCat [1, 5, 1, 1] [(xC (.str [105, 99, 111, 110, 115, 116])), (xC v11), (xC (.int .i64 0)), (xC (.int .i64 1))])) fun v12 => oLet (sV (vFill [.bool false, .bool false, .bool false, .bool false, .bool false] [(0, 1), (1, 1)] [(xC (.bool true)), (xC (.bool true))])) fun v13 => oLet (sV (vCat [1, 5, 1, 1] [(xC (.str [99, 99, 111, 110, 115, 116])), (xC v13), (xC (.int .i64 0)), (xC (.int .i64 1))])) fun v14 => oLet (sL (lLoad (some 5) (xW 1))) fun v15 => oLet (sV (vCat [1, 5, 1, 1] [(xC (.str [110, 117, 108, 108])), (xC v15), (xC (.int .i64 0)), (xC (.int .i64 1))])) fun v16 => oLet (sL (lLoad (some 5) (xW 2))) fun v17 => oLet (sV (vCat [1, 5, 1, 1] [(xC (.str [108, 111, 97, 100])), (xC v17), (xC (.int .i64 0)), (xC (.int .i64 1))])) fun v18 => oLet (sL (lLoad (some 5) (xW 2))) fun v19 => oLet (sV (vCat [1, 5, 1, 1] [(xC (.str [115, 116, 111, 114, 101])), (xC v19), (xC (.int .i64 1)), (xC (.int .i64 0))])) fun v20 => oLet (sL (lLoad (some 5) (xW 1))) fun v21 => oLet (sV (vCat [1, 5, 1, 1] [(xC (.str [112, 111, 112])), (xC v21), (xC (.int .i64 1)), (xC (.int .i64 0))])) fun v22 => oLet (sL (lLoad (some 5) (xW 1))) fun v23 => oLet (sV (vCat [1, 5, 1, 1] [(xC (.str [100, 117, 112])), (xC v23), (xC (.int .i64 1)), (xC (.int .i64 2))])) fun v24 => oLet (sL (lLoad (some 5) (xW 1))) fun v25 => oLet (sV (vCat [1, 5, 1, 1] [(xC (.str [115, 119, 97, 112])), (xC v25), (xC (.int .i64 2)), (xC (.int .i64 2))])) fun v26 => oLet (sL (lLoad (some 5) (xW 1))) fun v27 => oLet (sV (vCat [1, 5, 1, 1] [(xC (.str [105, 97, 100, 100])), (xC v27), (xC (.int .i64 2)), (xC (.int .i64 1))])) fun v28 => oLet (sL (lLoad (some 5) (xW 1))) fun v29 => oLet (sV (vCat [1, 5, 1, 1] [(xC (.str [105, 115, 117, 98])), (xC v29), (xC (.int .i64 2)), (xC (.int .i64 1))])) fun v30 => oLet (sL (lLoad (some 5) (xW 1))) fun v31 => oLet (sV (vCat [1, 5, 1, 1] [(xC (.str [105, 109, 117, 108])), (xC v31), (xC (.int .i64 2)), (xC (.int .i64 1))])) fun v32 => oLet (sL (lLoad (some 5) (xW 1))) fun v33 => oLet (sV (vCat [1, 5, 1, 1] [(xC (.str [105, 100, 105, 118])), (xC v33), (xC (.int .i64 2)), (xC (.int .i64 1))])) fun v34 => oLet (sL (lLoad (some 5) (xW 1))) fun v35 => oLet (sV (vCat [1, 5, 1, 1] [(xC (.str [99, 97, 100, 100])), (xC v35), (xC (.int .i64 2)), (xC (.int .i64 1))])) fun v36 => oLet (sL (lLoad (some 5) (xW 1))) fun v37 => oLet (sV (vCat [1, 5, 1, 1] [(xC (.str [99, 109, 117, 108])), (xC v37), (xC (.int .i64 2)), (xC (.int .i64 1))])) fun v38 => oLet (sL (lLoad (some 5) (xW 1))) fun v39 => oLet (sV (vCat [1, 5, 1, 1] [(xC (.str [99, 114, 101])), (xC v39), (xC (.int .i64 1)), (xC (.int .i64 1))])) fun v40 => oLet (sL (lLoad (some 5) (xW 2))) fun v41 => oLet (sV (vCat [1, 5, 1, 1] [(xC (.str [103, 111, 116, 111])), (xC v41), (xC (.int .i64 0)), (xC (.int .i64 0))])) fun v42 => oLet (sL (lLoad (some 5) (xW 2))) fun v43 => oLet (sV (vCat [1, 5, 1, 1] [(xC (.str [105, 102, 122, 101, 114, 111])), (xC v43), (xC (.int .i64 1)), (xC (.int .i64 0))])) fun v44 => oLet (sL (lLoad (some 5) (xW 2))) fun v45 => oLet (sV (vCat [1, 5, 1, 1] [(xC (.str [105, 102, 110, 117, 108, 108])), (xC v45), (xC (.int .i64 1)), (xC (.int .i64 0))])) fun v46 => oLet (sL (lLoad (some 5) (xW 2))) fun v47 => oLet (sV (vCat [1, 5, 1, 1] [(xC (.str [105, 102, 115, 97, 109, 101])), (xC v47), (xC (.int .i64 2)), (xC (.int .i64 0))])) fun v48 => oLet (sV (vFill [.bool false, .bool false, .bool false, .bool false, .bool false] [(2, 1)] [(xC (.bool true))])) fun v49 => oLet (sV (vCat [1, 5, 1, 1] [(xC (.str [110, 101, 119])), (xC v49), (xC (.int .i64 0)), (xC (.int .i64 1))])) fun v50 => oLet (sL (lLoad (some 5) (xW 4))) fun v51 => oLet (sV (vCat [1, 5, 1, 1] [(xC (.str [103, 101, 116, 102, 105, 101, 108, 100])), (xC v51), (xC (.int .i64 1)), (xC (.int .i64 1))])) fun v52 => oLet (sL (lLoad (some 5) (xW 4))) fun v53 => oLet (sV (vCat [1, 5, 1, 1] [(xC (.str [112, 117, 116, 102, 105, 101, 108, 100])), (xC v53), (xC (.int .i64 2)), (xC (.int .i64 0))])) fun v54 => oLet (sL (lLoad (some 5) (xW 4))) fun v55 => oLet (sV (vCat [1, 5, 1, 1] [(xC (.str [103, 101, 116, 115, 116, 97, 116, 105, 99])), (xC v55), (xC (.int .i64 0)), (xC (.int .i64 1))])) fun v56 => oLet (sL (lLoad (some 5) (xW 4))) fun v57 => oLet (sV (vCat [1, 5, 1, 1] [(xC (.str [112, 117, 116, 115, 116, 97, 116, 105, 99])), (xC v57), (xC (.int .i64 1)), (xC (.int .i64 0))])) fun v58 => oLet (sL (lLoad (some 5) (xW 3))) fun v59 => oLet (sV (vCat [1, 5, 1, 1] [(xC (.str [110, 101, 119, 97, 114, 114, 97, 121])), (xC v59), (xC (.int .i64 1)), (xC (.int .i64 1))])) fun v60 => oLet (sL (lLoad (some 5) (xW 1))) fun v61 => oLet (sV (vCat [1, 5, 1, 1] [(xC (.str [97, 108, 111, 97, 100])), (xC v61), (xC (.int .i64 2)), (xC (.int .i64 1))])) fun v62 => oLet (sL (lLoad (some 5) (xW 1))) fun v63 => oLet (sV (vCat [1, 5, 1, 1] [(xC (.str [97, 115, 116, 111, 114, 101])), (xC v63), (xC (.int .i64 3)), (xC (.int .i64 0))])) fun v64 => oLet (sL (lLoad (some 5) (xW 1))) fun v65 => oLet (sV (vCat [1, 5, 1, 1] [(xC (.str [97, 108, 101, 110])), (xC v65), (xC (.int .i64 1)), (xC (.int .i64 1))])) fun v66 => oLet (sL (lLoad (some 5) (xW 3))) fun v67 => oLet (sV (vCat [1, 5, 1, 1] [(xC (.str [99, 97, 115, 116])), (xC v67), (xC (.int .i64 1)), (xC (.int .i64 1))])) fun v68 => oLet (sL (lLoad (some 5) (xW 3))) fun v69 => oLet (sV (vCat [1, 5, 1, 1] [(xC (.str [105, 115, 105, 110, 115, 116])), (xC v69), (xC (.int .i64 1)), (xC (.int .i64 1))])) fun v70 => oLet (sL (lLoad (some 5) (xW 4))) fun v71 => oLet (sV (vCat [1, 5, 1, 1] [(xC (.str [99, 97, 108, 108, 115, 116, 97, 116, 105, 99])), (xC v71), (xC (.int .i64 0)), (xC (.int .i64 0))])) fun v72 => oLet (sL (lLoad (some 5) (xW 4))) fun v73 => oLet (sV (vCat [1, 5, 1, 1] [(xC (.str [99, 97, 108, 108, 115, 112, 101, 99, 105, 97, 108])), (xC v73), (xC (.int .i64 1)), (xC (.int .i64 0))])) fun v74 => oLet (sL (lLoad (some 5) (xW 4))) fun v75 => oLet (sV (vCat [1, 5, 1, 1] [(xC (.str [99, 97, 108, 108, 118, 105, 114, 116, 117, 97, 108])), (xC v75), (xC (.int .i64 1)), (xC (.int .i64 0))])) fun v76 => oLet (sL (lLoad (some 5) (xW 4))) fun v77 => oLet (sV (vCat [1, 5, 1, 1] [(xC (.str [99, 97, 108, 108, 105, 110, 116, 101, 114, 102, 97, 99, 101])), (xC v77), (xC (.int .i64 1)), (xC (.int .i64 0))])) fun v78 => oLet (sL (lLoad (some 5) (xW 1))) fun v79 => oLet (sV (vCat [1, 5, 1, 1] [(xC (.str [114, 101, 116, 117, 114, 110])), (xC v79), (xC (.int .i64 0)), (xC (.int .i64 0))])) fun v80 => oLet (sL (lLoad (some 5) (xW 1))) fun v81 => oLet (sV (vCat [1, 5, 1, 1] [(xC (.str [114, 101, 116, 118, 97, 108])), (xC v81), (xC (.int .i64 1)), (xC (.int .i64 0))])) fun v82 => oLet (sL (lLoad (some 5) (xW 1))) fun v83 => oLet (sV (vCat [1, 5, 1, 1] [(xC (.str [116, 104, 114, 111, 119])), (xC v83), (xC (.int .i64 1)), (xC (.int .i64 0))])) fun v84 => oLet (sV (vFill [.str [], .bool false, .bool false, .bool false, .bool false, .bool false, .int .i64 0, .int .i64 0, .str [], .bool false, .bool false, .bool false, .bool false, .bool false, .int .i64 0, .int .i64 0, .str [], .bool false, .bool false, .bool false, .bool false, .bool false, .int .i64 0, .int .i64 0, .str [], .bool false, .bool false, .bool false, .bool false, .bool false, .int .i64 0, .int .i64 0, .str [], .bool false, .bool false, .bool false, .bool false, .bool false, .int .i64 0, .int .i64 0, .str [], .bool false, .bool false, .bool false, .bool false, .bool false, .int .i64 0, .int .i64 0, .str [], .bool false, .bool false, .bool false, .bool false, .bool false, .int .i64 0, .int .i64 0, .str [], .bool false, .bool false, .bool false, .bool false, .bool false, .int .i64 0, .int .i64 0, .str [], .bool false, .bool false, .bool false, .bool false, .bool false, .int .i64 0, .int .i64 0, .str [], .bool false, .bool false, .bool false, .bool false, .bool false, .int .i64 0, .int .i64 0, .str [], .bool false, .bool false, .bool false, .bool false, .bool false, .int .i64 0, .int .i64 0, .str [], .bool false, .bool false, .bool false, .bool false, .bool false, .int .i64 0, .int .i64 0, .str [], .bool false, .bool false, .bool false, .bool false, .bool false, .int .i64 0, .int .i64 0, .str [], .bool false, .bool false, .bool false, .bool false, .bool false, .int .i64 0, .int .i64 0, .str [], .bool false, .bool false, .bool false, .bool false, .bool false, .int .i64 0, .int .i64 0, .str [], .bool false, .bool false, .bool false, .bool false, .bool false, .int .i64 0, .int .i64 0, .str [], .bool false, .bool false, .bool false, .bool false, .bool false, .int .i64 0, .int .i64 0, .str [], .bool false, .bool false, .bool false, .bool false, .bool false, .int .i64 0, .int .i64 0, .str [], .bool false, .bool false, .bool false, .bool false, .bool false, .int .i64 0, .int .i64 0, .str [], .bool false, .bool false, .bool false, .bool false, .bool false, .int .i64 0, .int .i64 0, .str [], .bool false, .bool false, .bool false, .bool false, .bool false, .int .i64 0, .int .i64 0, .str [], .bool false, .bool false, .bool false, .bool false, .bool false, .int .i64 0, .int .i64 0, .str [], .bool false, .bool false, .bool false, .bool false, .bool false, .int .i64 0, .int .i64 0, .str [], .bool false, .bool false, .bool false, .bool false, .bool false, .int .i64 0, .int .i64 0, .str [], .bool false, .bool false, .bool false, .bool false, .bool false, .int .i64 0, .int .i64 0, .str [], .bool false, .bool false, .bool false, .bool false, .bool false, .int .i64 0, .int .i64 0, .str [], .bool false, .bool false, .bool false, .bool false, .bool false, .int .i64 0, .int .i64 0, .str [], .bool false, .bool false, .bool false, .bool false, .bool false, .int .i64 0, .int .i64 0, .str [], .bool false, .bool false, .bool false, .bool false, .bool false, .int .i64 0, .int .i64 0, .str [], .bool false, .bool false, .bool false, .bool false, .bool false, .int .i64 0, .int .i64 0, .str [], .bool false, .bool false, .bool false, .bool false, .bool false, .int .i64 0, .int .i64 0, .str [], .bool false, .bool false, .bool false, .bool false, .bool false, .int .i64 0, .int .i64 0, .str [], .bool false, .bool false, .bool false, .bool false, .bool false, .int .i64 0, .int .i64 0, .str [], .bool false, .bool false, .bool false, .bool false, .bool false, .int .i64 0, .int .i64 0, .str [], .bool false, .bool false, .bool false, .bool false, .bool false, .int .i64 0, .int .i64 0, .str [], .bool false, .bool false, .bool false, .bool false, .bool false, .int .i64 0, .int .i64 0, .str [], .bool false, .bool false, .bool false, .bool false, .bool false, .int .i64 0, .int .i64 0, .str [], .bool false, .bool false, .bool false, .bool false, .bool false, .int .i64 0, .int .i64 0, .str [], .bool false, .bool false, .bool false, .bool false, .bool false, .int .i64 0, .int .i64 0] [(8, 8), (16, 8), (24, 8), (32, 8), (40, 8), (48, 8), (56, 8), (64, 8), (72, 8), (80, 8), (88, 8), (96, 8), (104, 8), (112, 8), (120, 8), (128, 8), (136, 8), (144, 8), (152, 8), (160, 8), (168, 8), (176, 8), (184, 8), (192, 8), (200, 8), (208, 8), (216, 8), (224, 8), (232, 8), (240, 8), (248, 8), (256, 8), (264, 8), (272, 8), (280, 8), (288, 8), (296, 8), (304, 8)] [(xC v10), (xC v12), (xC v14), (xC v16), (xC v18), (xC v20), (xC v22), (xC v24), (xC v26), (xC v28), (xC v30), (xC v32), (xC v34), (xC v36), (xC v38), (xC v40), (xC v42), (xC v44), (xC v46), (xC v48), (xC v50), (xC v52), (xC v54), (xC v56), (xC v58), (xC v60), (xC v62), (xC v64), (xC v66), (xC v68), (xC v70), (xC v72), (xC v74), (xC v76), (xC v78), (xC v80), (xC v82), (xC v84)])) fun v85 => oDo (sM (tStore 312 (xW 0) (xC v85))) (oEnd)))
 cRet)))), [.cell (way 0) (some 312)]⟩
theorem Tryz.k353_c : compF Tryz.prog [5, 6, 7, 8, 9, 10, 11, 12, 13, 14, 15, 16, 17, 18, 19, 20, 21, 22, 23, 24, 25, 26, 27, 28, 29, 30, 31, 32, 33, 34, 35, 36, 37, 38, 39, 40, 41, 42, 43, 44, 45, 46, 47, 48, 49, 50, 51, 52, 53, 54, 55, 56, 57, 58, 59, 60, 61, 62, 63, 64, 65, 66, 67, 68, 69, 70, 71, 72, 73, 74, 75, 76, 77, 78, 79, 80, 81, 82, 83, 84, 85] Tryz.f353 = some Tryz.k353 := by kernel_rfl
def Tryz.k355 : KF := ⟨[(way 0), (way 1)], (cSeq (cOps (oSet 4 (sV ((xC (.str [])))) fun v4 => oSet 5 (sV ((xC (.bool false)))) fun v5 => oEnd))
 (cSeq (cSeq (cOps (oLet (sV ((xW 0))) fun v6 => oLet (sV ((xW 1))) fun v7 => oLet (sC 384 [(xC v6), (xC v7)]) fun v8 => oSet 9 (sV (vUn .not (xC v8))) fun v9 => oEnd))
 (cCond (xW 9) (cSeq (cOps (oLet (sV ((xW 0))) fun v10 => oSet 4 (sV ((xC v10))) fun v4 => oSet 5 (sV ((xC (.bool false)))) fun v5 => oEnd))
 cRet)
 cSkip))
 (cSeq (cOps (oLet (sV ((xW 0))) fun v11 => oLet (sV ((xW 1))) fun v12 => oLet (sV (vLenS (xC v12))) fun v13 => oLet (sV (vSliceS (xC v11) [(xC v13)] [])) fun v14 => oSet 4 (sV ((xC v14))) fun v4 => oSet 5 (sV ((xC (.bool true)))) fun v5 => oEnd))
 cRet))), [.tmp (way 4), .tmp (way 5)]⟩
theorem Tryz.k355_c : compF Tryz.prog [6, 7, 8, 10, 11, 12, 13, 14] Tryz.f355 = some Tryz.k355 := by kernel_rfl
def Tryz.k356 : KF := ⟨[(way 0)], (cSeq (cOps (oSet 1 (sN (aBox (xW 0))) fun v1 => oSet 2 (sV ((xC (.int .i64 0)))) fun v2 => oSet 3 (sV ((xC (.int .i64 0)))) fun v3 => oSet 4 (sV ((xC (.int .i64 0)))) fun v4 => oEnd))
 (cSeq (cOps (oLet (sV (vAddr 0 (xW 1))) fun v10 => oLet (sL (lLoad none (xC v10))) fun v11 => oLet (sC 293 [(xC v11)]) fun v12 => oLet (sV (vExtract 0 (xC v12))) fun v13 => oLet (sV (vExtract 1 (xC v12))) fun v14 => oSet 5 (sN (aAlloc [.str [], .bool false, .bool false, .bool false, .bool false, .bool false, .int .i64 0, .int .i64 0])) fun v5 => oDo (sM (tStore 8 (xC v5) (xC v13))) (oSet 6 (sV ((xC v14))) fun v6 => oEnd)))
 (cSeq (cSeq (cOps (oLet (sV ((xW 6))) fun v15 => oSet 16 (sV (vUn .not (xC v15))) fun v16 => oEnd))
 (cCond (xW 16) (cSeq (cOps (oSet 2 (sV ((xC (.int .i64 0)))) fun v2 => oSet 3 (sV ((xC (.int .i64 0)))) fun v3 => oSet 4 (sV ((xC (.int .i64 3)))) fun v4 => oEnd))
 cRet)
 cSkip))
 (cSeq (cSeq (cOps (oLet (sV (vAddr 0 (xW 1))) fun v17 => oLet (sL (lLoad none (xC v17))) fun v18 => oLet (sC 214 [(xC v18)]) fun v19 => oSet 20 (sV (vUn .not (xC v19))) fun v20 => oEnd))
 (cCond (xW 20) (cSeq (cOps (oLet (sV (vAddr 6 (xW 5))) fun v21 => oLet (sL (lLoad none (xC v21))) fun v22 => oLet (sV (vAddr 7 (xW 5))) fun v23 => oLet (sL (lLoad none (xC v23))) fun v24 => oSet 2 (sV ((xC v22))) fun v2 => oSet 3 (sV ((xC v24))) fun v3 => oSet 4 (sV ((xC (.int .i64 0)))) fun v4 => oEnd))
 cRet)
 cSkip))
 (cSeq (cOps (oLet (sV (vAddr 5 (xW 1))) fun v26 => oLet (sL (lLoad none (xC v26))) fun v27 => oLet (sC 249 [(xC v27)]) fun v28 => oLet (sV (vExtract 0 (xC v28))) fun v29 => oLet (sV (vExtract 1 (xC v28))) fun v30 => oLet (sV (vExtract 2 (xC v28))) fun v31 => oSet 7 (sV ((xC v29))) fun v7 => oSet 8 (sV ((xC v30))) fun v8 => oSet 4 (sV ((xC v31))) fun v4 => oEnd))
 (cSeq (cSeq (cOps (oLet (sV ((xW 4))) fun v32 => oSet 33 (sV (vNe .i64 (xC v32) (xC (.int .i64 0)))) fun v33 => oEnd))
 (cCond (xW 33) (cSeq (cOps (oLet (sV ((xW 4))) fun v34 => oSet 2 (sV ((xC (.int .i64 0)))) fun v2 => oSet 3 (sV ((xC (.int .i64 0)))) fun v3 => oSet 4 (sV ((xC v34))) fun v4 => oEnd))
 cRet)
 cSkip))
 (cSeq (cSeq (cOps (oLet (sV ((xW 8))) fun v35 => oSet 36 (sV (vSNe (xC v35) (xC (.str [86])))) fun v36 => oEnd))
 (cCond (xW 36) (cOps (oSet 3 (sV ((xC (.int .i64 1)))) fun v3 => oEnd))
 cSkip))
 (cSeq (cOps (oLet (sV (vAddr 6 (xW 5))) fun v37 => oLet (sLs (lLoad none (xC v37))) fun v38 => oLet (sV ((xW 7))) fun v39 => oLet (sCs 252 [(xC v39)]) fun v40 => oLet (sV (vAdd .i64 (xC v38) (xC v40))) fun v41 => oLet (sV ((xW 3))) fun v42 => oSet 2 (sV ((xC v41))) fun v2 => oSet 3 (sV ((xC v42))) fun v3 => oSet 4 (sV ((xC (.int .i64 0)))) fun v4 => oEnd))
 cRet)))))))), [.tmp (way 2), .tmp (way 3), .tmp (way 4)]⟩
theorem Tryz.k356_c : compF Tryz.prog [10, 11, 12, 9, 13, 14, 15, 17, 18, 19, 21, 22, 23, 24, 26, 27, 28, 25, 29, 30, 31, 32, 34, 35, 37, 38, 39, 40, 41, 42] Tryz.f356 = some Tryz.k356 := by kernel_rfl
def Tryz.k358 : KF := ⟨[(way 0), (way 1), (way 2), (way 3), (way 4)], (cSeq (cOps (oSet 10 (sV ((xC (.bool true)))) fun v10 => oEnd))
 (cSeq (cOps (oSet 11 (sV ((xC (.bool true)))) fun v11 => oEnd))
 (cBlock 0 (cLoop (cBlock 1 (cSeq (cOps (oLet (sV ((xW 2))) fun v21 => oLet (sV ((xW 1))) fun v22 => oLet (sV (vSub .i64 (xC v21) (xC v22))) fun v23 => oSet 12 (sV ((xC v23))) fun v12 => oEnd))
 (cSeq (cSeq (cOps (oLet (sV ((xW 12))) fun v24 => oSet 25 (sV (vLe .i64 (xC v24) (xC (.int .i64 12)))) fun v25 => oEnd))
 (cCond (xW 25) (cSeq (cOps (oLet (sV ((xW 0))) fun v26 => oLet (sV ((xW 1))) fun v27 => oLet (sV ((xW 2))) fun v28 => oLet (sV ((xW 4))) fun v29 => oLet (sC 385 [(xC v26), (xC v27), (xC v28), (xC v29)]) fun v30 => oEnd))
 cRet)
 cSkip))
 (cSeq (cSeq (cOps (oLet (sV ((xW 3))) fun v31 => oSet 32 (sV (vEq .i64 (xC v31) (xC (.int .i64 0)))) fun v32 => oEnd))
 (cCond (xW 32) (cSeq (cOps (oLet (sV ((xW 0))) fun v33 => oLet (sV ((xW 1))) fun v34 => oLet (sV ((xW 2))) fun v35 => oLet (sV ((xW 4))) fun v36 => oLet (sC 386 [(xC v33), (xC v34), (xC v35), (xC v36)]) fun v37 => oEnd))
 cRet)
 cSkip))
 (cSeq (cSeq (cOps (oLet (sV ((xW 10))) fun v38 => oSet 39 (sV (vUn .not (xC v38))) fun v39 => oEnd))
 (cCond (xW 39) (cSeq (cOps (oLet (sV ((xW 0))) fun v40 => oLet (sV ((xW 1))) fun v41 => oLet (sV ((xW 2))) fun v42 => oLet (sV ((xW 4))) fun v43 => oLet (sC 387 [(xC v40), (xC v41), (xC v42), (xC v43)]) fun v44 => oEnd))
 (cOps (oLet (sV ((xW 3))) fun v45 => oLet (sV (vSub .i64 (xC v45) (xC (.int .i64 1)))) fun v46 => oSet 3 (sV ((xC v46))) fun v3 => oEnd)))
 cSkip))
 (cSeq (cOps (oLet (sV ((xW 0))) fun v48 => oLet (sV ((xW 1))) fun v49 => oLet (sV ((xW 2))) fun v50 => oLet (sV ((xW 4))) fun v51 => oLet (sC 388 [(xC v48), (xC v49), (xC v50), (xC v51)]) fun v52 => oLet (sV (vExtract 0 (xC v52))) fun v53 => oLet (sV (vExtract 1 (xC v52))) fun v54 => oSet 13 (sV ((xC v53))) fun v13 => oSet 14 (sV ((xC v54))) fun v14 => oEnd))
 (cSeq (cSeq (cOps (oLet (sV ((xW 14))) fun v55 => oSet 56 (sV (vEq .i64 (xC v55) (xC (.int .i64 2)))) fun v56 => oEnd))
 (cCond (xW 56) (cSeq (cOps (oLet (sV ((xW 0))) fun v57 => oLet (sV ((xW 1))) fun v58 => oLet (sV ((xW 2))) fun v59 => oLet (sV ((xW 4))) fun v60 => oLet (sC 389 [(xC v57), (xC v58), (xC v59), (xC v60)]) fun v61 => oEnd))
 (cSeq (cOps (oLet (sV ((xW 2))) fun v62 => oLet (sV (vSub .i64 (xC v62) (xC (.int .i64 1)))) fun v63 => oLet (sV ((xW 13))) fun v64 => oLet (sV ((xW 1))) fun v65 => oLet (sV (vSub .i64 (xC v64) (xC v65))) fun v66 => oLet (sV (vSub .i64 (xC v63) (xC v66))) fun v67 => oSet 13 (sV ((xC v67))) fun v13 => oEnd))
 (cOps (oSet 14 (sV ((xC (.int .i64 1)))) fun v14 => oEnd))))
 cSkip))
 (cSeq (cSeq (cOps (oLet (sV ((xW 10))) fun v68 => oLet (sG (xC v68) true (sV ((xW 11)))) fun v70 => oLet (sV (vPick (xC v68) (xC v70) (xC (.bool false)))) fun v71 => oLet (sG (xC v71) true (sV ((xW 14)))) fun v73 => oLet (sG (xC v71) true (sV (vEq .i64 (xC v73) (xC (.int .i64 1))))) fun v74 => oSet 75 (sV (vPick (xC v71) (xC v74) (xC (.bool false)))) fun v75 => oEnd))
 (cCond (xW 75) (cSeq (cOps (oLet (sV ((xW 0))) fun v76 => oLet (sV ((xW 1))) fun v77 => oLet (sV ((xW 2))) fun v78 => oLet (sV ((xW 4))) fun v79 => oSet 80 (sC 390 [(xC v76), (xC v77), (xC v78), (xC v79)]) fun v80 => oEnd))
 (cCond (xW 80) cRet
 cSkip))
 cSkip))
 (cSeq (cSeq (cOps (oLet (sV ((xW 1))) fun v81 => oLet (sV (vGt .i64 (xC v81) (xC (.int .i64 0)))) fun v82 => oLet (sG (xC v82) true (sV ((xW 4)))) fun v84 => oLet (sG (xC v82) true (sV ((xW 0)))) fun v85 => oLet (sG (xC v82) true (sV ((xC v81)))) fun v86 => oLet (sG (xC v82) true (sV (vSub .i64 (xC v86) (xC (.int .i64 1))))) fun v87 => oLet (sG (xC v82) true (sV (vIdx 3 (xC v85) (xC v87)))) fun v88 => oLet (sG (xC v82) true (sL (lLoad (some 3) (xC v88)))) fun v89 => oLet (sG (xC v82) true (sV ((xW 0)))) fun v90 => oLet (sG (xC v82) true (sV ((xW 13)))) fun v91 => oLet (sG (xC v82) true (sV (vIdx 3 (xC v90) (xC v91)))) fun v92 => oLet (sG (xC v82) true (sL (lLoad (some 3) (xC v92)))) fun v93 => oLet (sG (xC v82) true (sX (xC v84) [(xC v89), (xC v93)])) fun v94 => oLet (sG (xC v82) true (sV (vLt .i64 (xC v94) (xC (.int .i64 0))))) fun v95 => oLet (sG (xC v82) true (sV (vUn .not (xC v95)))) fun v96 => oSet 97 (sV (vPick (xC v82) (xC v96) (xC (.bool false)))) fun v97 => oEnd))
 (cCond (xW 97) (cSeq (cOps (oLet (sV ((xW 0))) fun v98 => oLet (sV ((xW 1))) fun v99 => oLet (sV ((xW 2))) fun v100 => oLet (sV ((xW 13))) fun v101 => oLet (sV ((xW 4))) fun v102 => oLet (sC 391 [(xC v98), (xC v99), (xC v100), (xC v101), (xC v102)]) fun v103 => oSet 15 (sV ((xC v103))) fun v15 => oEnd))
 (cSeq (cOps (oLet (sV ((xW 15))) fun v104 => oSet 1 (sV ((xC v104))) fun v1 => oEnd))
 (cExit 1)))
 cSkip))
 (cSeq (cOps (oLet (sV ((xW 0))) fun v106 => oLet (sV ((xW 1))) fun v107 => oLet (sV ((xW 2))) fun v108 => oLet (sV ((xW 13))) fun v109 => oLet (sV ((xW 4))) fun v110 => oLet (sC 392 [(xC v106), (xC v107), (xC v108), (xC v109), (xC v110)]) fun v111 => oLet (sV (vExtract 0 (xC v111))) fun v112 => oLet (sV (vExtract 1 (xC v111))) fun v113 => oSet 16 (sV ((xC v112))) fun v16 => oSet 17 (sV ((xC v113))) fun v17 => oEnd))
 (cSeq (cOps (oLet (sV ((xW 17))) fun v114 => oSet 11 (sV ((xC v114))) fun v11 => oEnd))
 (cSeq (cOps (oLet (sV ((xW 16))) fun v115 => oLet (sV ((xW 1))) fun v116 => oLet (sV (vSub .i64 (xC v115) (xC v116))) fun v117 => oLet (sV ((xW 2))) fun v118 => oLet (sV (vSub .i64 (xC v118) (xC v115))) fun v120 => oSet 18 (sV ((xC v117))) fun v18 => oSet 19 (sV ((xC v120))) fun v19 => oEnd))
 (cSeq (cOps (oLet (sV ((xW 12))) fun v121 => oLet (sV (vAr .quo .i64 (xC v121) (xC (.int .i64 8)))) fun v122 => oSet 20 (sV ((xC v122))) fun v20 => oEnd))
 (cSeq (cOps (oLet (sV ((xW 18))) fun v123 => oLet (sV ((xW 19))) fun v124 => oSet 125 (sV (vLt .i64 (xC v123) (xC v124))) fun v125 => oEnd))
 (cCond (xW 125) (cSeq (cOps (oLet (sV ((xW 18))) fun v126 => oLet (sV ((xW 20))) fun v127 => oLet (sV (vGe .i64 (xC v126) (xC v127))) fun v128 => oSet 10 (sV ((xC v128))) fun v10 => oEnd))
 (cSeq (cOps (oLet (sV ((xW 0))) fun v129 => oLet (sV ((xW 1))) fun v130 => oLet (sV ((xW 16))) fun v131 => oLet (sV ((xW 3))) fun v132 => oLet (sV ((xW 4))) fun v133 => oLet (sC 358 [(xC v129), (xC v130), (xC v131), (xC v132), (xC v133)]) fun v134 => oEnd))
 (cOps (oLet (sV ((xW 16))) fun v135 => oLet (sV (vAdd .i64 (xC v135) (xC (.int .i64 1)))) fun v136 => oSet 1 (sV ((xC v136))) fun v1 => oEnd))))
 (cSeq (cOps (oLet (sV ((xW 19))) fun v137 => oLet (sV ((xW 20))) fun v138 => oLet (sV (vGe .i64 (xC v137) (xC v138))) fun v139 => oSet 10 (sV ((xC v139))) fun v10 => oEnd))
 (cSeq (cOps (oLet (sV ((xW 0))) fun v140 => oLet (sV ((xW 16))) fun v141 => oLet (sV (vAdd .i64 (xC v141) (xC (.int .i64 1)))) fun v142 => oLet (sV ((xW 2))) fun v143 => oLet (sV ((xW 3))) fun v144 => oLet (sV ((xW 4))) fun v145 => oLet (sC 358 [(xC v140), (xC v142), (xC v143), (xC v144), (xC v145)]) fun v146 => oEnd))
 (cOps (oLet (sV ((xW 16))) fun v147 => oSet 2 (sV ((xC v147))) fun v2 => oEnd))))))))))))))))))))))), []⟩
theorem Tryz.k358_c : compF Tryz.prog [21, 22, 23, 24, 26, 27, 28, 29, 30, 31, 33, 34, 35, 36, 37, 38, 40, 41, 42, 43, 44, 45, 46, 48, 49, 50, 51, 52, 47, 53, 54, 55, 57, 58, 59, 60, 61, 62, 63, 64, 65, 66, 67, 68, 69, 70, 71, 72, 73, 74, 76, 77, 78, 79, 81, 82, 83, 84, 85, 86, 87, 88, 89, 90, 91, 92, 93, 94, 95, 96, 98, 99, 100, 101, 102, 103, 104, 106, 107, 108, 109, 110, 111, 105, 112, 113, 114, 115, 116, 117, 118, 119, 120, 121, 122, 123, 124, 126, 127, 128, 129, 130, 131, 132, 133, 134, 135, 136, 137, 138, 139, 140, 141, 142, 143, 144, 145, 146, 147] Tryz.f358 = some Tryz.k358 := by kernel_rfl
def Tryz.k380 : KF := ⟨[(way 0), (way 1)], (cSeq (cOps (oSet 2 (sN (aBox (xW 0))) fun v2 => oSet 4 (sV ((xC (.bool false)))) fun v4 => oEnd))
 (cSeq (cOps (oLet (sV ((xW 1))) fun v5 => oLet (sC 401 [(xC v5)]) fun v6 => oLet (sV (vFunc 402 [(xW 2)])) fun v7 => oLet (sC 94 [(xC v6), (xC v7)]) fun v8 => oLet (sV (vUn .not (xC v8))) fun v9 => oSet 4 (sV ((xC v9))) fun v4 => oEnd))
 cRet)), [.tmp (way 4)]⟩
theorem Tryz.k380_c : compF Tryz.prog [5, 6, 7, 8, 9] Tryz.f380 = some Tryz.k380 := by kernel_rfl
def Tryz.k381 : KF := ⟨[(way 0)], (cSeq (cOps (oSet 2 (sV ((xC (.bool false)))) fun v2 => oEnd))
 (cSeq (cSeq (cOps (oLet (sV ((xW 0))) fun v10 => oLet (sV (vNil (xC v10))) fun v11 => oLet (sV (vAddr 0 (xC v11))) fun v12 => oLet (sL (lLoad none (xC v12))) fun v13 => oLet (sV (vNil (xC v10))) fun v15 => oLet (sV (vAddr 2 (xC v15))) fun v16 => oLet (sV (vAddr 5 (xC v16))) fun v17 => oLet (sL (lLoad none (xC v17))) fun v18 => oLet (sC 380 [(xC v13), (xC v18)]) fun v19 => oSet 20 (sV (vUn .not (xC v19))) fun v20 => oEnd))
 (cCond (xW 20) (cSeq (cOps (oSet 2 (sV ((xC (.bool false)))) fun v2 => oEnd))
 cRet)
 cSkip))
 (cSeq (cSeq (cOps (oLet (sV ((xW 0))) fun v21 => oLet (sV (vNil (xC v21))) fun v22 => oLet (sV (vAddr 2 (xC v22))) fun v23 => oLet (sV (vAddr 0 (xC v23))) fun v24 => oSet 25 (sL (lLoad none (xC v24))) fun v25 => oEnd))
 (cBlock 0 (cSeq (cOps (oLet (sV (vEq .i64 (xW 25) (xC (.int .i64 21)))) fun v27 => oSet 26 (sV ((xC v27))) fun v26 => oEnd))
 (cCond (xW 26) (cSeq (cOps (oLet (sV ((xW 0))) fun v28 => oLet (sV (vNil (xC v28))) fun v29 => oLet (sV (vAddr 0 (xC v29))) fun v30 => oLet (sL (lLoad none (xC v30))) fun v31 => oLet (sV (vNil (xC v28))) fun v33 => oLet (sV (vAddr 2 (xC v33))) fun v34 => oLet (sV (vAddr 3 (xC v34))) fun v35 => oLet (sL (lLoad none (xC v35))) fun v36 => oLet (sC 217 [(xC v31), (xC v36)]) fun v37 => oSet 2 (sV ((xC v37))) fun v2 => oEnd))
 cRet)
 (cSeq (cSeq (cOps (oLet (sV (vEq .i64 (xW 25) (xC (.int .i64 22)))) fun v39 => oSet 38 (sV ((xC v39))) fun v38 => oEnd))
 (cCond (xW 38) cSkip
 (cOps (oLet (sV (vEq .i64 (xW 25) (xC (.int .i64 23)))) fun v40 => oSet 38 (sV ((xC v40))) fun v38 => oEnd))))
 (cCond (xW 38) (cSeq (cOps (oLet (sV ((xW 0))) fun v42 => oLet (sV (vNil (xC v42))) fun v43 => oLet (sV (vAddr 0 (xC v43))) fun v44 => oLet (sL (lLoad none (xC v44))) fun v45 => oLet (sV (vNil (xC v42))) fun v47 => oLet (sV (vAddr 2 (xC v47))) fun v48 => oLet (sV (vAddr 3 (xC v48))) fun v49 => oLet (sL (lLoad none (xC v49))) fun v50 => oLet (sV (vNil (xC v42))) fun v52 => oLet (sV (vAddr 2 (xC v52))) fun v53 => oLet (sV (vAddr 4 (xC v53))) fun v54 => oLet (sL (lLoad none (xC v54))) fun v55 => oLet (sV (vNil (xC v42))) fun v57 => oLet (sV (vAddr 2 (xC v57))) fun v58 => oLet (sV (vAddr 5 (xC v58))) fun v59 => oLet (sL (lLoad none (xC v59))) fun v60 => oLet (sC 271 [(xC v45), (xC v50), (xC v55), (xC v60), (xC (.bool false))]) fun v61 => oLet (sV (vExtract 0 (xC v61))) fun v62 => oLet (sV (vExtract 1 (xC v61))) fun v63 => oSet 4 (sV ((xC v63))) fun v4 => oEnd))
 (cSeq (cOps (oLet (sV ((xW 4))) fun v64 => oLet (sV (vEq .i64 (xC v64) (xC (.int .i64 0)))) fun v65 => oSet 2 (sV ((xC v65))) fun v2 => oEnd))
 cRet))
 (cSeq (cSeq (cOps (oLet (sV (vEq .i64 (xW 25) (xC (.int .i64 24)))) fun v67 => oSet 66 (sV ((xC v67))) fun v66 => oEnd))
 (cCond (xW 66) cSkip
 (cOps (oLet (sV (vEq .i64 (xW 25) (xC (.int .i64 25)))) fun v68 => oSet 66 (sV ((xC v68))) fun v66 => oEnd))))
 (cCond (xW 66) (cSeq (cOps (oLet (sV ((xW 0))) fun v70 => oLet (sV (vNil (xC v70))) fun v71 => oLet (sV (vAddr 0 (xC v71))) fun v72 => oLet (sL (lLoad none (xC v72))) fun v73 => oLet (sV (vNil (xC v70))) fun v75 => oLet (sV (vAddr 2 (xC v75))) fun v76 => oLet (sV (vAddr 3 (xC v76))) fun v77 => oLet (sL (lLoad none (xC v77))) fun v78 => oLet (sV (vNil (xC v70))) fun v80 => oLet (sV (vAddr 2 (xC v80))) fun v81 => oLet (sV (vAddr 4 (xC v81))) fun v82 => oLet (sL (lLoad none (xC v82))) fun v83 => oLet (sV (vNil (xC v70))) fun v85 => oLet (sV (vAddr 2 (xC v85))) fun v86 => oLet (sV (vAddr 5 (xC v86))) fun v87 => oLet (sL (lLoad none (xC v87))) fun v88 => oLet (sC 271 [(xC v73), (xC v78), (xC v83), (xC v88), (xC (.bool true))]) fun v89 => oLet (sV (vExtract 0 (xC v89))) fun v90 => oLet (sV (vExtract 1 (xC v89))) fun v91 => oSet 6 (sV ((xC v91))) fun v6 => oEnd))
 (cSeq (cOps (oLet (sV ((xW 6))) fun v92 => oLet (sV (vEq .i64 (xC v92) (xC (.int .i64 0)))) fun v93 => oSet 2 (sV ((xC v93))) fun v2 => oEnd))
 cRet))
 cSkip))))))))
 (cSeq (cSeq (cOps (oLet (sV ((xW 0))) fun v94 => oLet (sV (vNil (xC v94))) fun v95 => oLet (sV (vAddr 2 (xC v95))) fun v96 => oLet (sV (vAddr 0 (xC v96))) fun v97 => oLet (sL (lLoad none (xC v97))) fun v98 => oLet (sC 214 [(xC v98)]) fun v99 => oSet 100 (sV (vUn .not (xC v99))) fun v100 => oEnd))
 (cCond (xW 100) (cSeq (cOps (oSet 2 (sV ((xC (.bool true)))) fun v2 => oEnd))
 cRet)
 cSkip))
 (cSeq (cOps (oLet (sV ((xW 0))) fun v102 => oLet (sV (vNil (xC v102))) fun v103 => oLet (sV (vAddr 0 (xC v103))) fun v104 => oLet (sL (lLoad none (xC v104))) fun v105 => oLet (sV (vNil (xC v102))) fun v107 => oLet (sV (vAddr 2 (xC v107))) fun v108 => oLet (sL (lLoad (some 6) (xC v108))) fun v109 => oLet (sC 213 [(xC v105), (xC v109)]) fun v110 => oLet (sV (vExtract 0 (xC v110))) fun v111 => oLet (sV (vExtract 1 (xC v110))) fun v112 => oLet (sV (vExtract 2 (xC v110))) fun v113 => oLet (sN (aAlloc [.str [], .str [], .bool false, .bool false, .int .i64 0, .int .i64 0, .nilslice, .nilslice])) fun v8 => oDo (sM (tStore 8 (xC v8) (xC v112))) (oSet 9 (sV ((xC v113))) fun v9 => oEnd)))
 (cSeq (cOps (oLet (sV ((xW 9))) fun v114 => oSet 2 (sV ((xC v114))) fun v2 => oEnd))
 cRet)))))), [.tmp (way 2)]⟩
theorem Tryz.k381_c : compF Tryz.prog [10, 11, 12, 13, 14, 15, 16, 17, 18, 19, 21, 22, 23, 24, 27, 28, 29, 30, 31, 32, 33, 34, 35, 36, 37, 39, 40, 42, 43, 44, 45, 46, 47, 48, 49, 50, 51, 52, 53, 54, 55, 56, 57, 58, 59, 60, 61, 41, 62, 63, 3, 64, 65, 67, 68, 70, 71, 72, 73, 74, 75, 76, 77, 78, 79, 80, 81, 82, 83, 84, 85, 86, 87, 88, 89, 69, 90, 91, 5, 92, 93, 94, 95, 96, 97, 98, 99, 102, 103, 104, 105, 106, 107, 108, 109, 110, 101, 111, 112, 113, 8, 7, 114] Tryz.f381 = some Tryz.k381 := by kernel_rfl
def Tryz.k382 : KF := ⟨[(way 0)], (cSeq (cOps (oSet 2 (sV ((xC (.bool false)))) fun v2 => oEnd))
 (cSeq (cSeq (cOps (oLet (sV ((xW 0))) fun v3 => oLet (sV (vNil (xC v3))) fun v4 => oLet (sV (vAddr 2 (xC v4))) fun v5 => oLet (sV (vAddr 0 (xC v5))) fun v6 => oSet 7 (sL (lLoad none (xC v6))) fun v7 => oEnd))
 (cBlock 0 (cSeq (cOps (oLet (sV (vEq .i64 (xW 7) (xC (.int .i64 2)))) fun v9 => oSet 8 (sV ((xC v9))) fun v8 => oEnd))
 (cCond (xW 8) (cOps (oLet (sV ((xW 0))) fun v10 => oLet (sV (vNil (xC v10))) fun v11 => oLet (sV (vAddr 11 (xC v11))) fun v12 => oDo (sM (tStore 1 (xC v12) (xC (.str [73])))) (oEnd)))
 (cSeq (cOps (oLet (sV (vEq .i64 (xW 7) (xC (.int .i64 3)))) fun v14 => oSet 13 (sV ((xC v14))) fun v13 => oEnd))
 (cCond (xW 13) (cOps (oLet (sV ((xW 0))) fun v15 => oLet (sV (vNil (xC v15))) fun v16 => oLet (sV (vAddr 11 (xC v16))) fun v17 => oDo (sM (tStore 1 (xC v17) (xC (.str [67])))) (oEnd)))
 (cSeq (cOps (oLet (sV (vEq .i64 (xW 7) (xC (.int .i64 4)))) fun v19 => oSet 18 (sV ((xC v19))) fun v18 => oEnd))
 (cCond (xW 18) (cOps (oLet (sV ((xW 0))) fun v20 => oLet (sV (vNil (xC v20))) fun v21 => oLet (sV (vAddr 11 (xC v21))) fun v22 => oDo (sM (tStore 1 (xC v22) (xC (.str [78])))) (oEnd)))
 (cSeq (cOps (oLet (sV (vEq .i64 (xW 7) (xC (.int .i64 5)))) fun v24 => oSet 23 (sV ((xC v24))) fun v23 => oEnd))
 (cCond (xW 23) (cSeq (cOps (oLet (sV ((xW 0))) fun v25 => oLet (sV (vNil (xC v25))) fun v27 => oLet (sV (vAddr 9 (xC v27))) fun v28 => oLet (sL (lLoad none (xC v28))) fun v29 => oLet (sV (vNil (xC v25))) fun v31 => oLet (sV (vAddr 2 (xC v31))) fun v32 => oLet (sV (vAddr 1 (xC v32))) fun v33 => oLet (sL (lLoad none (xC v33))) fun v34 => oLet (sV (vIdx 1 (xC v29) (xC v34))) fun v35 => oLet (sL (lLoad none (xC v35))) fun v36 => oLet (sV (vNil (xC v25))) fun v37 => oLet (sV (vAddr 11 (xC v37))) fun v38 => oDo (sM (tStore 1 (xC v38) (xC v36))) (oEnd)))
 (cSeq (cOps (oLet (sV ((xW 0))) fun v39 => oLet (sV (vNil (xC v39))) fun v40 => oLet (sV (vAddr 11 (xC v40))) fun v41 => oLet (sL (lLoad none (xC v41))) fun v42 => oLet (sV (vSNe (xC v42) (xC (.str [84])))) fun v43 => oSet 2 (sV ((xC v43))) fun v2 => oEnd))
 cRet))
 (cSeq (cSeq (cOps (oLet (sV (vEq .i64 (xW 7) (xC (.int .i64 10)))) fun v45 => oSet 44 (sV ((xC v45))) fun v44 => oEnd))
 (cCond (xW 44) cSkip
 (cSeq (cOps (oLet (sV (vEq .i64 (xW 7) (xC (.int .i64 11)))) fun v46 => oSet 44 (sV ((xC v46))) fun v44 => oEnd))
 (cCond (xW 44) cSkip
 (cSeq (cOps (oLet (sV (vEq .i64 (xW 7) (xC (.int .i64 12)))) fun v47 => oSet 44 (sV ((xC v47))) fun v44 => oEnd))
 (cCond (xW 44) cSkip
 (cSeq (cOps (oLet (sV (vEq .i64 (xW 7) (xC (.int .i64 13)))) fun v48 => oSet 44 (sV ((xC v48))) fun v44 => oEnd))
 (cCond (xW 44) cSkip
 (cOps (oLet (sV (vEq .i64 (xW 7) (xC (.int .i64 18)))) fun v49 => oSet 44 (sV ((xC v49))) fun v44 => oEnd))))))))))
 (cCond (xW 44) (cSeq (cOps (oLet (sV ((xW 0))) fun v50 => oLet (sV (vNil (xC v50))) fun v51 => oLet (sV (vAddr 11 (xC v51))) fun v52 => oDo (sM (tStore 1 (xC v52) (xC (.str [73])))) (oEnd)))
 (cSeq (cOps (oLet (sV ((xW 0))) fun v53 => oLet (sC 403 [(xC v53), (xC (.str [73]))]) fun v54 => oSet 2 (sV ((xC v54))) fun v2 => oEnd))
 cRet))
 (cSeq (cSeq (cOps (oLet (sV (vEq .i64 (xW 7) (xC (.int .i64 14)))) fun v56 => oSet 55 (sV ((xC v56))) fun v55 => oEnd))
 (cCond (xW 55) cSkip
 (cOps (oLet (sV (vEq .i64 (xW 7) (xC (.int .i64 15)))) fun v57 => oSet 55 (sV ((xC v57))) fun v55 => oEnd))))
 (cCond (xW 55) (cSeq (cOps (oLet (sV ((xW 0))) fun v58 => oLet (sV (vNil (xC v58))) fun v59 => oLet (sV (vAddr 11 (xC v59))) fun v60 => oDo (sM (tStore 1 (xC v60) (xC (.str [67])))) (oEnd)))
 (cSeq (cOps (oLet (sV ((xW 0))) fun v61 => oLet (sC 403 [(xC v61), (xC (.str [67]))]) fun v62 => oSet 2 (sV ((xC v62))) fun v2 => oEnd))
 cRet))
 (cSeq (cOps (oLet (sV (vEq .i64 (xW 7) (xC (.int .i64 16)))) fun v64 => oSet 63 (sV ((xC v64))) fun v63 => oEnd))
 (cCond (xW 63) (cSeq (cOps (oLet (sV ((xW 0))) fun v65 => oLet (sV (vNil (xC v65))) fun v66 => oLet (sV (vAddr 11 (xC v66))) fun v67 => oDo (sM (tStore 1 (xC v67) (xC (.str [73])))) (oEnd)))
 (cSeq (cOps (oLet (sV ((xW 0))) fun v68 => oLet (sC 403 [(xC v68), (xC (.str [67]))]) fun v69 => oSet 2 (sV ((xC v69))) fun v2 => oEnd))
 cRet))
 (cSeq (cSeq (cOps (oLet (sV (vEq .i64 (xW 7) (xC (.int .i64 19)))) fun v71 => oSet 70 (sV ((xC v71))) fun v70 => oEnd))
 (cCond (xW 70) cSkip
 (cSeq (cOps (oLet (sV (vEq .i64 (xW 7) (xC (.int .i64 20)))) fun v72 => oSet 70 (sV ((xC v72))) fun v70 => oEnd))
 (cCond (xW 70) cSkip
 (cSeq (cOps (oLet (sV (vEq .i64 (xW 7) (xC (.int .i64 30)))) fun v73 => oSet 70 (sV ((xC v73))) fun v70 => oEnd))
 (cCond (xW 70) cSkip
 (cOps (oLet (sV (vEq .i64 (xW 7) (xC (.int .i64 31)))) fun v74 => oSet 70 (sV ((xC v74))) fun v70 => oEnd))))))))
 (cCond (xW 70) (cSeq (cSeq (cOps (oLet (sV ((xW 0))) fun v75 => oLet (sV (vNil (xC v75))) fun v76 => oLet (sV (vAddr 11 (xC v76))) fun v77 => oDo (sM (tStore 1 (xC v77) (xC (.str [73])))) (oEnd)))
 (cSeq (cOps (oLet (sV ((xW 0))) fun v78 => oLet (sV (vNil (xC v78))) fun v79 => oLet (sV (vAddr 2 (xC v79))) fun v80 => oLet (sV (vAddr 0 (xC v80))) fun v81 => oLet (sL (lLoad none (xC v81))) fun v82 => oSet 83 (sV (vEq .i64 (xC v82) (xC (.int .i64 30)))) fun v83 => oEnd))
 (cCond (xW 83) (cOps (oLet (sV ((xW 0))) fun v84 => oLet (sV (vNil (xC v84))) fun v86 => oLet (sV (vAddr 2 (xC v86))) fun v87 => oLet (sV (vAddr 5 (xC v87))) fun v88 => oLet (sL (lLoad none (xC v88))) fun v89 => oLet (sV (vNil (xC v84))) fun v90 => oLet (sV (vAddr 11 (xC v90))) fun v91 => oDo (sM (tStore 1 (xC v91) (xC v89))) (oEnd)))
 cSkip)))
 (cSeq (cOps (oLet (sV ((xW 0))) fun v92 => oLet (sC 404 [(xC v92)]) fun v93 => oSet 2 (sV ((xC v93))) fun v2 => oEnd))
 cRet))
 (cSeq (cOps (oLet (sV (vEq .i64 (xW 7) (xC (.int .i64 21)))) fun v95 => oSet 94 (sV ((xC v95))) fun v94 => oEnd))
 (cCond (xW 94) (cOps (oLet (sV ((xW 0))) fun v96 => oLet (sV (vNil (xC v96))) fun v98 => oLet (sV (vAddr 8 (xC v98))) fun v99 => oLet (sL (lLoad none (xC v99))) fun v100 => oLet (sV (vNil (xC v96))) fun v102 => oLet (sV (vAddr 2 (xC v102))) fun v103 => oLet (sV (vAddr 3 (xC v103))) fun v104 => oLet (sL (lLoad none (xC v104))) fun v105 => oLet (sC 405 [(xC v100), (xC v105)]) fun v106 => oLet (sV (vNil (xC v96))) fun v107 => oLet (sV (vAddr 11 (xC v107))) fun v108 => oDo (sM (tStore 1 (xC v108) (xC v106))) (oEnd)))
 (cSeq (cSeq (cOps (oLet (sV (vEq .i64 (xW 7) (xC (.int .i64 22)))) fun v110 => oSet 109 (sV ((xC v110))) fun v109 => oEnd))
 (cCond (xW 109) cSkip
 (cSeq (cOps (oLet (sV (vEq .i64 (xW 7) (xC (.int .i64 23)))) fun v111 => oSet 109 (sV ((xC v111))) fun v109 => oEnd))
 (cCond (xW 109) cSkip
 (cSeq (cOps (oLet (sV (vEq .i64 (xW 7) (xC (.int .i64 24)))) fun v112 => oSet 109 (sV ((xC v112))) fun v109 => oEnd))
 (cCond (xW 109) cSkip
 (cOps (oLet (sV (vEq .i64 (xW 7) (xC (.int .i64 25)))) fun v113 => oSet 109 (sV ((xC v113))) fun v109 => oEnd))))))))
 (cCond (xW 109) (cSeq (cOps (oLet (sV ((xW 0))) fun v114 => oLet (sC 406 [(xC v114)]) fun v115 => oSet 2 (sV ((xC v115))) fun v2 => oEnd))
 cRet)
 (cSeq (cSeq (cOps (oLet (sV (vEq .i64 (xW 7) (xC (.int .i64 26)))) fun v117 => oSet 116 (sV ((xC v117))) fun v116 => oEnd))
 (cCond (xW 116) cSkip
 (cSeq (cOps (oLet (sV (vEq .i64 (xW 7) (xC (.int .i64 27)))) fun v118 => oSet 116 (sV ((xC v118))) fun v116 => oEnd))
 (cCond (xW 116) cSkip
 (cSeq (cOps (oLet (sV (vEq .i64 (xW 7) (xC (.int .i64 28)))) fun v119 => oSet 116 (sV ((xC v119))) fun v116 => oEnd))
 (cCond (xW 116) cSkip
 (cOps (oLet (sV (vEq .i64 (xW 7) (xC (.int .i64 29)))) fun v120 => oSet 116 (sV ((xC v120))) fun v116 => oEnd))))))))
 (cCond (xW 116) (cSeq (cOps (oLet (sV ((xW 0))) fun v121 => oLet (sC 407 [(xC v121)]) fun v122 => oSet 2 (sV ((xC v122))) fun v2 => oEnd))
 cRet)
 (cSeq (cSeq (cOps (oLet (sV (vEq .i64 (xW 7) (xC (.int .i64 32)))) fun v124 => oSet 123 (sV ((xC v124))) fun v123 => oEnd))
 (cCond (xW 123) cSkip
 (cSeq (cOps (oLet (sV (vEq .i64 (xW 7) (xC (.int .i64 33)))) fun v125 => oSet 123 (sV ((xC v125))) fun v123 => oEnd))
 (cCond (xW 123) cSkip
 (cSeq (cOps (oLet (sV (vEq .i64 (xW 7) (xC (.int .i64 34)))) fun v126 => oSet 123 (sV ((xC v126))) fun v123 => oEnd))
 (cCond (xW 123) cSkip
 (cOps (oLet (sV (vEq .i64 (xW 7) (xC (.int .i64 35)))) fun v127 => oSet 123 (sV ((xC v127))) fun v123 => oEnd))))))))
 (cCond (xW 123) (cSeq (cOps (oLet (sV ((xW 0))) fun v128 => oLet (sC 408 [(xC v128)]) fun v129 => oSet 2 (sV ((xC v129))) fun v2 => oEnd))
 cRet)
 (cSeq (cSeq (cOps (oLet (sV (vEq .i64 (xW 7) (xC (.int .i64 36)))) fun v131 => oSet 130 (sV ((xC v131))) fun v130 => oEnd))
 (cCond (xW 130) cSkip
 (cSeq (cOps (oLet (sV (vEq .i64 (xW 7) (xC (.int .i64 37)))) fun v132 => oSet 130 (sV ((xC v132))) fun v130 => oEnd))
 (cCond (xW 130) cSkip
 (cOps (oLet (sV (vEq .i64 (xW 7) (xC (.int .i64 38)))) fun v133 => oSet 130 (sV ((xC v133))) fun v130 => oEnd))))))
 (cCond (xW 130) (cSeq (cOps (oLet (sV ((xW 0))) fun v134 => oLet (sC 409 [(xC v134)]) fun v135 => oSet 2 (sV ((xC v135))) fun v2 => oEnd))
 cRet)
 cSkip))))))))))))))))))))))))))))
 (cSeq (cOps (oSet 2 (sV ((xC (.bool true)))) fun v2 => oEnd))
 cRet))), [.tmp (way 2)]⟩
theorem Tryz.k382_c : compF Tryz.prog [3, 4, 5, 6, 9, 10, 11, 12, 14, 15, 16, 17, 19, 20, 21, 22, 24, 25, 26, 27, 28, 29, 30, 31, 32, 33, 34, 35, 36, 37, 38, 39, 40, 41, 42, 43, 45, 46, 47, 48, 49, 50, 51, 52, 53, 54, 56, 57, 58, 59, 60, 61, 62, 64, 65, 66, 67, 68, 69, 71, 72, 73, 74, 75, 76, 77, 78, 79, 80, 81, 82, 84, 85, 86, 87, 88, 89, 90, 91, 92, 93, 95, 96, 97, 98, 99, 100, 101, 102, 103, 104, 105, 106, 107, 108, 110, 111, 112, 113, 114, 115, 117, 118, 119, 120, 121, 122, 124, 125, 126, 127, 128, 129, 131, 132, 133, 134, 135] Tryz.f382 = some Tryz.k382 := by kernel_rfl
def Tryz.k383 : KF := ⟨[(way 0), (way 1), (way 2)], (cSeq (cOps (oSet 6 (sN (aAlloc [.nilslice, .nilslice])) fun v6 => oEnd))
 (cSeq (cOps (oLet (sV ((xW 0))) fun v8 => oLet (sV (vNil (xC v8))) fun v9 => oLet (sV (vAddr 9 (xC v9))) fun v10 => oLet (sL (lLoad none (xC v10))) fun v11 => oLet (sC 129 [(xC v11)]) fun v12 => oSet 7 (sV ((xC v12))) fun v7 => oEnd))
 (cSeq (cSeq (cOps (oLet (sV ((xW 0))) fun v13 => oLet (sV (vNil (xC v13))) fun v14 => oLet (sV (vAddr 2 (xC v14))) fun v15 => oLet (sV (vAddr 0 (xC v15))) fun v16 => oSet 17 (sL (lLoad none (xC v16))) fun v17 => oEnd))
 (cBlock 0 (cSeq (cOps (oLet (sV (vEq .i64 (xW 17) (xC (.int .i64 6)))) fun v48 => oSet 47 (sV ((xC v48))) fun v47 => oEnd))
 (cCond (xW 47) (cOps (oLet (sV ((xW 7))) fun v49 => oLet (sV ((xW 0))) fun v50 => oLet (sV (vNil (xC v50))) fun v51 => oLet (sV (vAddr 2 (xC v51))) fun v52 => oLet (sV (vAddr 1 (xC v52))) fun v53 => oLet (sL (lLoad none (xC v53))) fun v54 => oLet (sV (vNil (xC v50))) fun v56 => oLet (sV (vAddr 10 (xC v56))) fun v57 => oLet (sL (lLoad none (xC v57))) fun v58 => oLet (sV (vIdx 1 (xC v58) (xC (.int .i64 0)))) fun v59 => oLet (sL (lLoad none (xC v59))) fun v60 => oLet (sV (vIdx 1 (xC v49) (xC v54))) fun v61 => oDo (sM (tStore 1 (xC v61) (xC v60))) (oEnd)))
 (cSeq (cOps (oLet (sV (vEq .i64 (xW 17) (xC (.int .i64 8)))) fun v63 => oSet 62 (sV ((xC v63))) fun v62 => oEnd))
 (cCond (xW 62) (cOps (oLet (sV ((xW 1))) fun v64 => oLet (sV ((xW 0))) fun v65 => oLet (sV (vNil (xC v65))) fun v66 => oLet (sV (vAddr 10 (xC v66))) fun v67 => oLet (sL (lLoad none (xC v67))) fun v68 => oLet (sV (vIdx 1 (xC v68) (xC (.int .i64 0)))) fun v69 => oLet (sL (lLoad none (xC v69))) fun v70 => oLet (sV (vNil (xC v65))) fun v72 => oLet (sV (vAddr 10 (xC v72))) fun v73 => oLet (sL (lLoad none (xC v73))) fun v74 => oLet (sV (vIdx 1 (xC v74) (xC (.int .i64 0)))) fun v75 => oLet (sL (lLoad none (xC v75))) fun v76 => oLet (sN (aRow 2 1 [1, 1] [(xC v70), (xC v76)])) fun v77 => oLet (sM (tAppend 16 1 (xC v64) (xC v77))) fun v78 => oSet 1 (sV ((xC v78))) fun v1 => oEnd))
 (cSeq (cOps (oLet (sV (vEq .i64 (xW 17) (xC (.int .i64 9)))) fun v80 => oSet 79 (sV ((xC v80))) fun v79 => oEnd))
 (cCond (xW 79) (cOps (oLet (sV ((xW 1))) fun v81 => oLet (sV ((xW 0))) fun v82 => oLet (sV (vNil (xC v82))) fun v83 => oLet (sV (vAddr 10 (xC v83))) fun v84 => oLet (sL (lLoad none (xC v84))) fun v85 => oLet (sV (vIdx 1 (xC v85) (xC (.int .i64 1)))) fun v86 => oLet (sL (lLoad none (xC v86))) fun v87 => oLet (sV (vNil (xC v82))) fun v89 => oLet (sV (vAddr 10 (xC v89))) fun v90 => oLet (sL (lLoad none (xC v90))) fun v91 => oLet (sV (vIdx 1 (xC v91) (xC (.int .i64 0)))) fun v92 => oLet (sL (lLoad none (xC v92))) fun v93 => oLet (sN (aRow 2 1 [1, 1] [(xC v87), (xC v93)])) fun v94 => oLet (sM (tAppend 16 1 (xC v81) (xC v94))) fun v95 => oSet 1 (sV ((xC v95))) fun v1 => oEnd))
 (cSeq (cSeq (cOps (oLet (sV ((xW 0))) fun v18 => oLet (sV (vNil (xC v18))) fun v19 => oLet (sV (vAddr 2 (xC v19))) fun v20 => oLet (sV (vAddr 4 (xC v20))) fun v21 => oLet (sL (lLoad none (xC v21))) fun v22 => oLet (sV (vSEq (xC v22) (xC (.str [60, 105, 110, 105, 116, 62])))) fun v23 => oLet (sG (xC v23) true (sV ((xC v18)))) fun v25 => oLet (sG (xC v23) true (sV (vNil (xC v25)))) fun v26 => oLet (sG (xC v23) true (sV (vAddr 2 (xC v26)))) fun v27 => oLet (sG (xC v23) true (sV (vAddr 0 (xC v27)))) fun v28 => oLet (sG (xC v23) true (sL (lLoad none (xC v28)))) fun v29 => oLet (sG (xC v23) true (sV (vEq .i64 (xC v29) (xC (.int .i64 33))))) fun v30 => oSet 31 (sV (vPick (xC v23) (xC v30) (xC (.bool false)))) fun v31 => oEnd))
 (cCond (xW 31) (cOps (oLet (sV ((xW 0))) fun v32 => oLet (sV ((xW 7))) fun v33 => oLet (sC 410 [(xC v32), (xC v33)]) fun v34 => oLet (sV ((xW 1))) fun v36 => oLet (sC 410 [(xC v32), (xC v36)]) fun v37 => oSet 7 (sV ((xC v34))) fun v7 => oSet 1 (sV ((xC v37))) fun v1 => oEnd))
 cSkip))
 (cSeq (cOps (oLet (sV ((xW 2))) fun v38 => oSet 39 (sV (vGt .i64 (xC v38) (xC (.int .i64 0)))) fun v39 => oEnd))
 (cCond (xW 39) (cOps (oLet (sV ((xW 1))) fun v40 => oLet (sV ((xW 0))) fun v41 => oLet (sV (vNil (xC v41))) fun v42 => oLet (sV (vAddr 11 (xC v42))) fun v43 => oLet (sL (lLoad none (xC v43))) fun v44 => oLet (sN (aRow 1 1 [1] [(xC v44)])) fun v45 => oLet (sM (tAppend 16 1 (xC v40) (xC v45))) fun v46 => oSet 1 (sV ((xC v46))) fun v1 => oEnd))
 cSkip)))))))))))
 (cSeq (cOps (oLet (sV ((xW 7))) fun v96 => oLet (sV ((xW 1))) fun v97 => oLet (sV (vCat [1, 1] [(xC v96), (xC v97)])) fun v98 => oDo (sM (tStore 2 (xW 6) (xC v98))) (oEnd)))
 cRet)))), [.cell (way 6) (some 2)]⟩
theorem Tryz.k383_c : compF Tryz.prog [8, 9, 10, 11, 12, 13, 14, 15, 16, 48, 49, 50, 51, 52, 53, 54, 55, 56, 57, 58, 59, 60, 61, 63, 64, 65, 66, 67, 68, 69, 70, 71, 72, 73, 74, 75, 76, 77, 78, 80, 81, 82, 83, 84, 85, 86, 87, 88, 89, 90, 91, 92, 93, 94, 95, 18, 19, 20, 21, 22, 23, 24, 25, 26, 27, 28, 29, 30, 32, 33, 34, 35, 36, 37, 38, 40, 41, 42, 43, 44, 45, 46, 96, 97, 98] Tryz.f383 = some Tryz.k383 := by kernel_rfl
def Tryz.k384 : KF := ⟨[(way 0), (way 1)], (cSeq (cOps (oSet 4 (sV ((xC (.bool false)))) fun v4 => oEnd))
 (cSeq (cOps (oLet (sV ((xW 0))) fun v5 => oLet (sV (vLenS (xC v5))) fun v6 => oLet (sV ((xW 1))) fun v7 => oLet (sV (vLenS (xC v7))) fun v8 => oLet (sV (vGe .i64 (xC v6) (xC v8))) fun v9 => oLet (sG (xC v9) true (sV ((xC v5)))) fun v11 => oLet (sG (xC v9) true (sV ((xC v7)))) fun v12 => oLet (sG (xC v9) true (sV (vLenS (xC v12)))) fun v13 => oLet (sG (xC v9) true (sV (vSliceS (xC v11) [] [(xC v13)]))) fun v14 => oLet (sG (xC v9) true (sV ((xC v7)))) fun v15 => oLet (sG (xC v9) true (sV (vSEq (xC v14) (xC v15)))) fun v16 => oLet (sV (vPick (xC v9) (xC v16) (xC (.bool false)))) fun v17 => oSet 4 (sV ((xC v17))) fun v4 => oEnd))
 cRet)), [.tmp (way 4)]⟩
theorem Tryz.k384_c : compF Tryz.prog [5, 6, 7, 8, 9, 10, 11, 12, 13, 14, 15, 16, 17] Tryz.f384 = some Tryz.k384 := by kernel_rfl
def Tryz.k385 : KF := ⟨[(way 0), (way 1), (way 2), (way 3)], (cSeq (cOps (oLet (sV ((xW 1))) fun v10 => oLet (sV (vAdd .i64 (xC v10) (xC (.int .i64 1)))) fun v11 => oSet 8 (sV ((xC v11))) fun v8 => oEnd))
 (cBlock 0 (cLoop (cSeq (cSeq (cOps (oLet (sV ((xW 8))) fun v12 => oLet (sV ((xW 2))) fun v13 => oSet 14 (sV (vLt .i64 (xC v12) (xC v13))) fun v14 => oEnd))
 (cCond (xW 14) cSkip
 (cExit 0)))
 (cSeq (cBlock 1 (cSeq (cOps (oLet (sV ((xW 8))) fun v17 => oSet 9 (sV ((xC v17))) fun v9 => oEnd))
 (cBlock 2 (cLoop (cSeq (cSeq (cOps (oLet (sV ((xW 9))) fun v18 => oLet (sV ((xW 1))) fun v19 => oLet (sV (vGt .i64 (xC v18) (xC v19))) fun v20 => oLet (sG (xC v20) true (sV ((xW 3)))) fun v22 => oLet (sG (xC v20) true (sV ((xW 0)))) fun v23 => oLet (sG (xC v20) true (sV ((xC v18)))) fun v24 => oLet (sG (xC v20) true (sV (vIdx 3 (xC v23) (xC v24)))) fun v25 => oLet (sG (xC v20) true (sL (lLoad (some 3) (xC v25)))) fun v26 => oLet (sG (xC v20) true (sV ((xW 0)))) fun v27 => oLet (sG (xC v20) true (sV ((xC v18)))) fun v28 => oLet (sG (xC v20) true (sV (vSub .i64 (xC v28) (xC (.int .i64 1))))) fun v29 => oLet (sG (xC v20) true (sV (vIdx 3 (xC v27) (xC v29)))) fun v30 => oLet (sG (xC v20) true (sL (lLoad (some 3) (xC v30)))) fun v31 => oLet (sG (xC v20) true (sX (xC v22) [(xC v26), (xC v31)])) fun v32 => oLet (sG (xC v20) true (sV (vLt .i64 (xC v32) (xC (.int .i64 0))))) fun v33 => oSet 34 (sV (vPick (xC v20) (xC v33) (xC (.bool false)))) fun v34 => oEnd))
 (cCond (xW 34) cSkip
 (cExit 2)))
 (cSeq (cBlock 3 (cOps (oLet (sV ((xW 0))) fun v37 => oLet (sV ((xW 9))) fun v38 => oLet (sV (vSub .i64 (xC v38) (xC (.int .i64 1)))) fun v41 => oLet (sV (vSub .i64 (xC v38) (xC (.int .i64 1)))) fun v44 => oLet (sV (vIdx 3 (xC v37) (xC v44))) fun v45 => oLet (sL (lLoad (some 3) (xC v45))) fun v46 => oLet (sV (vIdx 3 (xC v37) (xC v38))) fun v49 => oLet (sL (lLoad (some 3) (xC v49))) fun v50 => oLet (sV (vIdx 3 (xC v37) (xC v38))) fun v51 => oDo (sM (tStore 3 (xC v51) (xC v46))) (oLet (sV (vIdx 3 (xC v37) (xC v41))) fun v52 => oDo (sM (tStore 3 (xC v52) (xC v50))) (oEnd)))))
 (cOps (oLet (sV ((xW 9))) fun v35 => oLet (sV (vSub .i64 (xC v35) (xC (.int .i64 1)))) fun v36 => oSet 9 (sV ((xC v36))) fun v9 => oEnd))))))))
 (cOps (oLet (sV ((xW 8))) fun v15 => oLet (sV (vAdd .i64 (xC v15) (xC (.int .i64 1)))) fun v16 => oSet 8 (sV ((xC v16))) fun v8 => oEnd))))))), []⟩
theorem Tryz.k385_c : compF Tryz.prog [10, 11, 12, 13, 17, 18, 19, 20, 21, 22, 23, 24, 25, 26, 27, 28, 29, 30, 31, 32, 33, 37, 38, 39, 40, 41, 42, 43, 44, 45, 46, 47, 48, 49, 50, 51, 52, 35, 36, 15, 16] Tryz.f385 = some Tryz.k385 := by kernel_rfl
def Tryz.k397 : KF := ⟨[(way 0)], (cSeq (cOps (oSet 2 (sV ((xC (.str [])))) fun v2 => oEnd))
 (cSeq (cSeq (cOps (oLet (sV ((xW 0))) fun v3 => oLet (sC 123 [(xC v3)]) fun v4 => oLet (sV (vUn .not (xC v4))) fun v5 => oLet (sG (xC v5) false (sV ((xC v3)))) fun v7 => oLet (sG (xC v5) false (sV (vIdxS (xC v7) (xC (.int .i64 0))))) fun v8 => oLet (sG (xC v5) false (sV (vNe .u8 (xC v8) (xC (.int .u8 76))))) fun v9 => oSet 10 (sV (vPick (xC v5) (xC (.bool true)) (xC v9))) fun v10 => oEnd))
 (cCond (xW 10) (cSeq (cOps (oSet 2 (sV ((xC (.str [])))) fun v2 => oEnd))
 cRet)
 cSkip))
 (cSeq (cOps (oLet (sV ((xW 0))) fun v11 => oLet (sV (vLenS (xC v11))) fun v13 => oLet (sV (vSub .i64 (xC v13) (xC (.int .i64 1)))) fun v14 => oLet (sV (vSliceS (xC v11) [(xC (.int .i64 1))] [(xC v14)])) fun v15 => oSet 2 (sV ((xC v15))) fun v2 => oEnd))
 cRet))), [.tmp (way 2)]⟩
theorem Tryz.k397_c : compF Tryz.prog [3, 4, 5, 6, 7, 8, 9, 11, 12, 13, 14, 15] Tryz.f397 = some Tryz.k397 := by kernel_rfl
def Tryz.k401 : KF := ⟨[(way 0)], (cSeq (cOps (oSet 2 (sV ((xC (.nilslice)))) fun v2 => oEnd))
 (cSeq (cOps (oLet (sV ((xW 0))) fun v10 => oLet (sN (aRow 1 1 [1] [(xC v10)])) fun v11 => oSet 3 (sV ((xC v11))) fun v3 => oEnd))
 (cSeq (cSeq (cOps (oLet (sV ((xW 0))) fun v13 => oLet (sC 249 [(xC v13)]) fun v14 => oLet (sV (vExtract 0 (xC v14))) fun v15 => oLet (sV (vExtract 1 (xC v14))) fun v16 => oLet (sV (vExtract 2 (xC v14))) fun v17 => oSet 4 (sV ((xC v15))) fun v4 => oSet 5 (sV ((xC v16))) fun v5 => oSet 6 (sV ((xC v17))) fun v6 => oEnd))
 (cSeq (cOps (oLet (sV ((xW 6))) fun v18 => oSet 19 (sV (vEq .i64 (xC v18) (xC (.int .i64 0)))) fun v19 => oEnd))
 (cCond (xW 19) (cOps (oLet (sV ((xW 4))) fun v20 => oLet (sV ((xW 5))) fun v21 => oLet (sN (aRow 1 1 [1] [(xC v21)])) fun v22 => oLet (sM (tAppend 16 1 (xC v20) (xC v22))) fun v23 => oSet 3 (sV ((xC v23))) fun v3 => oEnd))
 cSkip)))
 (cSeq (cSeq (cOps (oSet 24 (sV ((xW 3))) fun v24 => oSet 25 (sV (vLen (xC v24))) fun v25 => oSet 26 (sV ((xC (.int .i64 0)))) fun v26 => oEnd))
 (cBlock 0 (cLoop (cSeq (cOps (oSet 27 (sV (vLt .i64 (xW 26) (xW 25))) fun v27 => oEnd))
 (cSeq (cCond (xW 27) cSkip
 (cExit 0))
 (cSeq (cBlock 1 (cSeq (cOps (oLet (sV (vIdx 1 (xW 24) (xW 26))) fun v28 => oLet (sL (lLoad none (xC v28))) fun v29 => oSet 8 (sV ((xC v29))) fun v8 => oEnd))
 (cSeq (cOps (oLet (sV ((xW 8))) fun v30 => oLet (sC 430 [(xC v30), (xC (.str [91]))]) fun v31 => oLet (sC 397 [(xC v31)]) fun v32 => oSet 9 (sV ((xC v32))) fun v9 => oEnd))
 (cSeq (cOps (oLet (sV ((xW 9))) fun v33 => oLet (sV (vSNe (xC v33) (xC (.str [])))) fun v34 => oLet (sG (xC v34) true (sV ((xW 2)))) fun v36 => oLet (sG (xC v34) true (sV ((xC v33)))) fun v37 => oLet (sG (xC v34) true (sC 137 [(xC v36), (xC v37)])) fun v38 => oLet (sG (xC v34) true (sV (vUn .not (xC v38)))) fun v39 => oSet 40 (sV (vPick (xC v34) (xC v39) (xC (.bool false)))) fun v40 => oEnd))
 (cCond (xW 40) (cOps (oLet (sV ((xW 2))) fun v41 => oLet (sV ((xW 9))) fun v42 => oLet (sN (aRow 1 1 [1] [(xC v42)])) fun v43 => oLet (sM (tAppend 16 1 (xC v41) (xC v43))) fun v44 => oSet 2 (sV ((xC v44))) fun v2 => oEnd))
 cSkip)))))
 (cOps (oLet (sV (vAdd .i64 (xW 26) (xC (.int .i64 1)))) fun v45 => oSet 26 (sV ((xC v45))) fun v26 => oEnd))))))))
 (cSeq (cOps (oLet (sV ((xW 2))) fun v46 => oSet 2 (sV ((xC v46))) fun v2 => oEnd))
 cRet))))), [.tmp (way 2)]⟩
theorem Tryz.k401_c : compF Tryz.prog [10, 11, 13, 14, 12, 15, 16, 17, 18, 20, 21, 22, 23, 28, 29, 30, 31, 32, 33, 34, 35, 36, 37, 38, 39, 41, 42, 43, 44, 45, 46] Tryz.f401 = some Tryz.k401 := by kernel_rfl
def Tryz.k409 : KF := ⟨[(way 0)], (cSeq (cOps (oSet 2 (sV ((xC (.bool false)))) fun v2 => oEnd))
 (cSeq (cSeq (cOps (oLet (sV ((xW 0))) fun v3 => oLet (sV (vNil (xC v3))) fun v4 => oLet (sV (vAddr 2 (xC v4))) fun v5 => oLet (sV (vAddr 0 (xC v5))) fun v6 => oSet 7 (sL (lLoad none (xC v6))) fun v7 => oEnd))
 (cBlock 0 (cSeq (cOps (oLet (sV (vEq .i64 (xW 7) (xC (.int .i64 36)))) fun v9 => oSet 8 (sV ((xC v9))) fun v8 => oEnd))
 (cCond (xW 8) (cSeq (cOps (oLet (sV ((xW 0))) fun v10 => oLet (sV (vNil (xC v10))) fun v11 => oLet (sV (vAddr 1 (xC v11))) fun v12 => oLet (sL (lLoad none (xC v12))) fun v13 => oLet (sV (vSEq (xC v13) (xC (.str [86])))) fun v14 => oSet 2 (sV ((xC v14))) fun v2 => oEnd))
 cRet)
 (cSeq (cOps (oLet (sV (vEq .i64 (xW 7) (xC (.int .i64 37)))) fun v16 => oSet 15 (sV ((xC v16))) fun v15 => oEnd))
 (cCond (xW 15) (cSeq (cOps (oLet (sV ((xW 0))) fun v17 => oLet (sV (vNil (xC v17))) fun v18 => oLet (sV (vAddr 1 (xC v18))) fun v19 => oLet (sL (lLoad none (xC v19))) fun v20 => oLet (sV (vSNe (xC v20) (xC (.str [86])))) fun v21 => oLet (sG (xC v21) true (sV ((xC v17)))) fun v23 => oLet (sG (xC v21) true (sV (vNil (xC v23)))) fun v24 => oLet (sG (xC v21) true (sV (vAddr 0 (xC v24)))) fun v25 => oLet (sG (xC v21) true (sL (lLoad none (xC v25)))) fun v26 => oLet (sG (xC v21) true (sV ((xC v17)))) fun v27 => oLet (sG (xC v21) true (sV (vNil (xC v27)))) fun v28 => oLet (sG (xC v21) true (sV (vAddr 10 (xC v28)))) fun v29 => oLet (sG (xC v21) true (sL (lLoad none (xC v29)))) fun v30 => oLet (sG (xC v21) true (sV (vIdx 1 (xC v30) (xC (.int .i64 0))))) fun v31 => oLet (sG (xC v21) true (sL (lLoad none (xC v31)))) fun v32 => oLet (sG (xC v21) true (sV ((xC v17)))) fun v33 => oLet (sG (xC v21) true (sV (vNil (xC v33)))) fun v34 => oLet (sG (xC v21) true (sV (vAddr 1 (xC v34)))) fun v35 => oLet (sG (xC v21) true (sL (lLoad none (xC v35)))) fun v36 => oLet (sG (xC v21) true (sC 435 [(xC v26), (xC v32), (xC v36)])) fun v37 => oLet (sV (vPick (xC v21) (xC v37) (xC (.bool false)))) fun v38 => oSet 2 (sV ((xC v38))) fun v2 => oEnd))
 cRet)
 cSkip))))))
 (cSeq (cOps (oLet (sV ((xW 0))) fun v39 => oLet (sV (vNil (xC v39))) fun v40 => oLet (sV (vAddr 0 (xC v40))) fun v41 => oLet (sLs (lLoad none (xC v41))) fun v42 => oLet (sV (vNil (xC v39))) fun v44 => oLet (sV (vAddr 10 (xC v44))) fun v45 => oLet (sLs (lLoad none (xC v45))) fun v46 => oLet (sV (vIdx 1 (xC v46) (xC (.int .i64 0)))) fun v47 => oLet (sLs (lLoad none (xC v47))) fun v48 => oLet (sCs 227 [(xC (.str [84, 104, 114, 111, 119, 97, 98, 108, 101]))]) fun v49 => oLet (sC 435 [(xC v42), (xC v48), (xC v49)]) fun v50 => oSet 2 (sV ((xC v50))) fun v2 => oEnd))
 cRet))), [.tmp (way 2)]⟩
theorem Tryz.k409_c : compF Tryz.prog [3, 4, 5, 6, 9, 10, 11, 12, 13, 14, 16, 17, 18, 19, 20, 21, 22, 23, 24, 25, 26, 27, 28, 29, 30, 31, 32, 33, 34, 35, 36, 37, 38, 39, 40, 41, 42, 43, 44, 45, 46, 47, 48, 49, 50] Tryz.f409 = some Tryz.k409 := by kernel_rfl
def Tryz.k430 : KF := ⟨[(way 0), (way 1)], (cSeq (cOps (oSet 4 (sV ((xC (.str [])))) fun v4 => oEnd))
 (cSeq (cSeq (cOps (oLet (sV ((xW 0))) fun v7 => oLet (sV (vSEq (xC v7) (xC (.str [])))) fun v8 => oLet (sG (xC v8) false (sV ((xW 1)))) fun v10 => oLet (sG (xC v8) false (sV (vSEq (xC v10) (xC (.str []))))) fun v11 => oSet 12 (sV (vPick (xC v8) (xC (.bool true)) (xC v11))) fun v12 => oEnd))
 (cCond (xW 12) (cSeq (cOps (oLet (sV ((xW 0))) fun v13 => oSet 4 (sV ((xC v13))) fun v4 => oEnd))
 cRet)
 cSkip))
 (cSeq (cSeq (cOps (oLet (sV ((xW 1))) fun v14 => oLet (sV (vLenS (xC v14))) fun v15 => oLet (sV (vEq .i64 (xC v15) (xC (.int .i64 1)))) fun v16 => oLet (sG (xC v16) true (sV ((xC v14)))) fun v18 => oLet (sG (xC v16) true (sV (vIdxS (xC v18) (xC (.int .i64 0))))) fun v19 => oLet (sG (xC v16) true (sV (vLt .u8 (xC v19) (xC (.int .u8 128))))) fun v20 => oSet 21 (sV (vPick (xC v16) (xC v20) (xC (.bool false)))) fun v21 => oEnd))
 (cCond (xW 21) (cSeq (cOps (oLet (sV ((xW 0))) fun v22 => oLet (sV ((xW 1))) fun v23 => oLet (sV (vIdxS (xC v23) (xC (.int .i64 0)))) fun v24 => oLet (sC 444 [(xC v22), (xC v24)]) fun v25 => oSet 4 (sV ((xC v25))) fun v4 => oEnd))
 cRet)
 cSkip))
 (cSeq (cSeq (cOps (oLet (sV ((xW 1))) fun v27 => oLet (sC 445 [(xC v27)]) fun v28 => oLet (sV (vExtract 0 (xC v28))) fun v29 => oLet (sV (vExtract 1 (xC v28))) fun v30 => oSet 5 (sN (aAlloc [.bool false, .bool false, .bool false, .bool false, .bool false, .bool false, .bool false, .bool false, .bool false, .bool false, .bool false, .bool false, .bool false, .bool false, .bool false, .bool false, .bool false, .bool false, .bool false, .bool false, .bool false, .bool false, .bool false, .bool false, .bool false, .bool false, .bool false, .bool false, .bool false, .bool false, .bool false, .bool false, .bool false, .bool false, .bool false, .bool false, .bool false, .bool false, .bool false, .bool false, .bool false, .bool false, .bool false, .bool false, .bool false, .bool false, .bool false, .bool false, .bool false, .bool false, .bool false, .bool false, .bool false, .bool false, .bool false, .bool false, .bool false, .bool false, .bool false, .bool false, .bool false, .bool false, .bool false, .bool false, .bool false, .bool false, .bool false, .bool false, .bool false, .bool false, .bool false, .bool false, .bool false, .bool false, .bool false, .bool false, .bool false, .bool false, .bool false, .bool false, .bool false, .bool false, .bool false, .bool false, .bool false, .bool false, .bool false, .bool false, .bool false, .bool false, .bool false, .bool false, .bool false, .bool false, .bool false, .bool false, .bool false, .bool false, .bool false, .bool false, .bool false, .bool false, .bool false, .bool false, .bool false, .bool false, .bool false, .bool false, .bool false, .bool false, .bool false, .bool false, .bool false, .bool false, .bool false, .bool false, .bool false, .bool false, .bool false, .bool false, .bool false, .bool false, .bool false, .bool false, .bool false, .bool false, .bool false, .bool false, .bool false, .bool false, .bool false, .bool false, .bool false, .bool false, .bool false, .bool false, .bool false, .bool false, .bool false, .bool false, .bool false, .bool false, .bool false, .bool false, .bool false, .bool false, .bool false, .bool false, .bool false, .bool false, .bool false, .bool false, .bool false, .bool false, .bool false, .bool false, .bool false, .bool false, .bool false, .bool false, .bool false, .bool false, .bool false, .bool false, .bool false, .bool false, .bool false, .bool false, .bool false, .bool false, .bool false, .bool false, .bool false, .bool false, .bool false, .bool false, .bool false, .bool false, .bool false, .bool false, .bool false, .bool false, .bool false, .bool false, .bool false, .bool false, .bool false, .bool false, .bool false, .bool false, .bool false, .bool false, .bool false, .bool false, .bool false, .bool false, .bool false, .bool false, .bool false, .bool false, .bool false, .bool false, .bool false, .bool false, .bool false, .bool false, .bool false, .bool false, .bool false, .bool false, .bool false, .bool false, .bool false, .bool false, .bool false, .bool false, .bool false, .bool false, .bool false, .bool false, .bool false, .bool false, .bool false, .bool false, .bool false, .bool false, .bool false, .bool false, .bool false, .bool false, .bool false, .bool false, .bool false, .bool false, .bool false, .bool false, .bool false, .bool false, .bool false, .bool false, .bool false, .bool false, .bool false, .bool false, .bool false, .bool false, .bool false, .bool false, .bool false, .bool false, .bool false, .bool false, .bool false, .bool false, .bool false, .bool false])) fun v5 => oDo (sM (tStore 256 (xC v5) (xC v29))) (oSet 6 (sV ((xC v30))) fun v6 => oEnd)))
 (cSeq (cOps (oSet 31 (sV ((xW 6))) fun v31 => oEnd))
 (cCond (xW 31) (cSeq (cOps (oLet (sV ((xW 0))) fun v32 => oLet (sC 446 [(xC v32), (xW 5)]) fun v33 => oSet 4 (sV ((xC v33))) fun v4 => oEnd))
 cRet)
 cSkip)))
 (cSeq (cOps (oLet (sV ((xW 0))) fun v34 => oLet (sV ((xW 1))) fun v35 => oLet (sC 447 [(xC v34), (xC v35)]) fun v36 => oSet 4 (sV ((xC v36))) fun v4 => oEnd))
 cRet))))), [.tmp (way 4)]⟩
theorem Tryz.k430_c : compF Tryz.prog [7, 8, 9, 10, 11, 13, 14, 15, 16, 17, 18, 19, 20, 22, 23, 24, 25, 27, 28, 26, 29, 30, 32, 33, 34, 35, 36] Tryz.f430 = some Tryz.k430 := by kernel_rfl
def Tryz.k444 : KF := ⟨[(way 0), (way 1)], (cSeq (cOps (oSet 4 (sV ((xC (.str [])))) fun v4 => oEnd))
 (cSeq (cBlock 0 (cLoop (cSeq (cSeq (cOps (oLet (sV ((xW 0))) fun v5 => oLet (sV (vLenS (xC v5))) fun v6 => oLet (sV (vGt .i64 (xC v6) (xC (.int .i64 0)))) fun v7 => oLet (sG (xC v7) true (sV ((xC v5)))) fun v9 => oLet (sG (xC v7) true (sV (vIdxS (xC v9) (xC (.int .i64 0))))) fun v10 => oLet (sG (xC v7) true (sV ((xW 1)))) fun v11 => oLet (sG (xC v7) true (sV (vEq .u8 (xC v10) (xC v11)))) fun v12 => oSet 13 (sV (vPick (xC v7) (xC v12) (xC (.bool false)))) fun v13 => oEnd))
 (cCond (xW 13) cSkip
 (cExit 0)))
 (cBlock 1 (cOps (oLet (sV ((xW 0))) fun v14 => oLet (sV (vSliceS (xC v14) [(xC (.int .i64 1))] [])) fun v15 => oSet 0 (sV ((xC v15))) fun v0 => oEnd))))))
 (cSeq (cOps (oLet (sV ((xW 0))) fun v16 => oSet 4 (sV ((xC v16))) fun v4 => oEnd))
 cRet))), [.tmp (way 4)]⟩
theorem Tryz.k444_c : compF Tryz.prog [5, 6, 7, 8, 9, 10, 11, 12, 14, 15, 16] Tryz.f444 = some Tryz.k444 := by kernel_rfl
end
end Go.Proofs
