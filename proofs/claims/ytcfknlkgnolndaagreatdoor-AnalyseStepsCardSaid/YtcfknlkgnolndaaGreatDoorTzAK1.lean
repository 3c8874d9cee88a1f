/- What functions of the program are compiled to, and that they are. -/
import Derived.Test.YtcfknlkgnolndaaGreatDoorSh11
import Derived.Test.YtcfknlkgnolndaaGreatDoorProg
import Derived.KernelRfl
set_option linter.unusedVariables false
set_option linter.unusedSimpArgs false
set_option linter.unusedSectionVars false
namespace Go.Proofs
open Go.Sh
noncomputable section
set_option linter.unusedVariables false
def Tryz.k5 : KF := ⟨[(way 0), (way 1), (way 2), (way 3), (way 4), (way 5)], (cSeq (cOps (oSet 12 (sV ((xC (.bool false)))) fun v12 => oEnd))
 (cSeq (cSeq (cOps (oLet (sV ((xW 3))) fun v15 => oLet (sV (vLenS (xC v15))) fun v16 => oSet 17 (sV (vGt .i64 (xC v16) (xC (.int .i64 200)))) fun v17 => oEnd))
 (cCond (xW 17) (cSeq (cOps (oLet (sC 24 []) fun v18 => oSet 12 (sV ((xC v18))) fun v12 => oEnd))
 cRet)
 cSkip))
 (cSeq (cOps (oSet 13 (sV ((xC (.func 25 [])))) fun v13 => oEnd))
 (cSeq (cOps (oLet (sV ((xW 13))) fun v19 => oLet (sV ((xW 0))) fun v20 => oLet (sX (xC v19) [(xC v20)]) fun v21 => oLet (sV (vStr .add (xC (.str [101, 114, 114, 111, 114, 32])) (xC v21))) fun v22 => oSet 14 (sV ((xC v22))) fun v14 => oEnd))
 (cSeq (cSeq (cOps (oSet 23 (sV ((xW 0))) fun v23 => oEnd))
 (cBlock 0 (cSeq (cOps (oLet (sV (vEq .i64 (xW 23) (xC (.int .i64 0)))) fun v36 => oSet 35 (sV ((xC v36))) fun v35 => oEnd))
 (cCond (xW 35) (cOps (oSet 14 (sV ((xC (.str [111, 107])))) fun v14 => oEnd))
 (cSeq (cOps (oLet (sV (vEq .i64 (xW 23) (xC (.int .i64 9)))) fun v38 => oSet 37 (sV ((xC v38))) fun v37 => oEnd))
 (cCond (xW 37) (cOps (oLet (sV ((xW 14))) fun v39 => oLet (sV (vStr .add (xC v39) (xC (.str [32])))) fun v40 => oLet (sV ((xW 3))) fun v41 => oLet (sV (vStr .add (xC v40) (xC v41))) fun v42 => oLet (sV (vStr .add (xC v42) (xC (.str [32])))) fun v43 => oLet (sV ((xW 13))) fun v44 => oLet (sV ((xW 4))) fun v45 => oLet (sX (xC v44) [(xC v45)]) fun v46 => oLet (sV (vStr .add (xC v43) (xC v46))) fun v47 => oLet (sV (vStr .add (xC v47) (xC (.str [32])))) fun v48 => oLet (sV ((xW 5))) fun v50 => oLet (sX (xC v44) [(xC v50)]) fun v51 => oLet (sV (vStr .add (xC v48) (xC v51))) fun v52 => oSet 14 (sV ((xC v52))) fun v14 => oEnd))
 (cOps (oLet (sV ((xW 14))) fun v24 => oLet (sV (vStr .add (xC v24) (xC (.str [32])))) fun v25 => oLet (sV ((xW 13))) fun v26 => oLet (sV ((xW 1))) fun v27 => oLet (sX (xC v26) [(xC v27)]) fun v28 => oLet (sV (vStr .add (xC v25) (xC v28))) fun v29 => oLet (sV (vStr .add (xC v29) (xC (.str [32])))) fun v30 => oLet (sV ((xW 2))) fun v32 => oLet (sX (xC v26) [(xC v32)]) fun v33 => oLet (sV (vStr .add (xC v30) (xC v33))) fun v34 => oSet 14 (sV ((xC v34))) fun v14 => oEnd))))))))
 (cSeq (cOps (oLet (sV ((xW 0))) fun v53 => oLet (sV ((xW 1))) fun v54 => oLet (sV ((xW 2))) fun v55 => oLet (sV ((xW 3))) fun v56 => oLet (sV ((xW 4))) fun v57 => oLet (sV ((xW 5))) fun v58 => oLet (sV (vCat [1, 1, 1, 1, 1, 1] [(xC v53), (xC v54), (xC v55), (xC v56), (xC v57), (xC v58)])) fun v59 => oLet (sC 26 [(xC v59)]) fun v60 => oLet (sV ((xW 14))) fun v61 => oLet (sV (vSEq (xC v60) (xC v61))) fun v62 => oLet (sG (xC v62) true (sC 24 [])) fun v64 => oLet (sV (vPick (xC v62) (xC v64) (xC (.bool false)))) fun v65 => oSet 12 (sV ((xC v65))) fun v12 => oEnd))
 cRet)))))), [.tmp (way 12)]⟩
theorem Tryz.k5_c : compF Tryz.prog [15, 16, 18, 19, 20, 21, 22, 36, 38, 39, 40, 41, 42, 43, 44, 45, 46, 47, 48, 49, 50, 51, 52, 24, 25, 26, 27, 28, 29, 30, 31, 32, 33, 34, 53, 54, 55, 56, 57, 58, 59, 60, 61, 62, 63, 64, 65] Tryz.f5 = some Tryz.k5 := by kernel_rfl
def Tryz.k6 : KF := ⟨[(way 0), (way 1), (way 2), (way 3)], (cSeq (cOps (oSet 8 (sV ((xC (.bool false)))) fun v8 => oEnd))
 (cSeq (cOps (oLet (sV (vFill [.int .i64 0, .int .i64 0, .int .i64 0, .str [], .str [], .str []] [(0, 1)] [(xC (.int .i64 36))])) fun v20 => oLet (sN (aRow 1 6 [6] [(xC v20)])) fun v21 => oSet 9 (sV ((xC v21))) fun v9 => oEnd))
 (cSeq (cSeq (cOps (oSet 22 (sV ((xW 2))) fun v22 => oEnd))
 (cCond (xW 22) (cOps (oLet (sV (vFill [.int .i64 0, .int .i64 0, .int .i64 0, .str [], .str [], .str []] [(0, 1)] [(xC (.int .i64 7))])) fun v23 => oLet (sV (vFill [.int .i64 0, .int .i64 0, .int .i64 0, .str [], .str [], .str []] [(0, 1)] [(xC (.int .i64 36))])) fun v24 => oLet (sN (aRow 2 6 [6, 6] [(xC v23), (xC v24)])) fun v25 => oSet 9 (sV ((xC v25))) fun v9 => oEnd))
 cSkip))
 (cSeq (cOps (oLet (sV ((xW 9))) fun v26 => oLet (sV (vFill [.str [], .str [], .bool false, .bool false, .int .i64 0, .int .i64 0, .nilslice, .nilslice] [(0, 1), (1, 1), (2, 1), (6, 1)] [(xC (.str [109, 97, 105, 110])), (xC (.str [40, 41, 86])), (xC (.bool true)), (xC v26)])) fun v27 => oLet (sN (aRow 1 8 [8] [(xC v27)])) fun v28 => oLet (sV (vFill [.str [], .str [], .bool false, .bool false, .nilslice, .nilslice, .nilslice] [(0, 1), (1, 1), (6, 1)] [(xC (.str [77, 97, 105, 110])), (xC (.str [79, 98, 106, 101, 99, 116])), (xC v28)])) fun v29 => oSet 10 (sN (aAlloc [.str [], .str [], .bool false, .bool false, .nilslice, .nilslice, .nilslice])) fun v10 => oDo (sM (tStore 7 (xC v10) (xC v29))) (oEnd)))
 (cSeq (cOps (oLet (sV (vFill [.str [], .str [], .bool false, .bool false, .nilslice, .nilslice, .nilslice] [(0, 1), (1, 1)] [(xC (.str [75])), (xC (.str [79, 98, 106, 101, 99, 116]))])) fun v30 => oSet 11 (sN (aAlloc [.str [], .str [], .bool false, .bool false, .nilslice, .nilslice, .nilslice])) fun v11 => oDo (sM (tStore 7 (xC v11) (xC v30))) (oEnd)))
 (cSeq (cSeq (cOps (oSet 31 (sV ((xW 1))) fun v31 => oEnd))
 (cCond (xW 31) (cOps (oLet (sV (vAddr 1 (xW 11))) fun v32 => oDo (sM (tStore 1 (xC v32) (xC (.str [78, 111, 98, 111, 100, 121])))) (oEnd)))
 cSkip))
 (cSeq (cOps (oLet (sL (lLoad (some 7) (xW 10))) fun v34 => oLet (sC 27 [(xC v34)]) fun v35 => oLet (sV (vExtract 0 (xC v35))) fun v36 => oLet (sV (vExtract 1 (xC v35))) fun v37 => oSet 12 (sV ((xC v36))) fun v12 => oSet 13 (sV ((xC v37))) fun v13 => oEnd))
 (cSeq (cOps (oLet (sL (lLoad (some 7) (xW 11))) fun v39 => oLet (sC 27 [(xC v39)]) fun v40 => oLet (sV (vExtract 0 (xC v40))) fun v41 => oLet (sV (vExtract 1 (xC v40))) fun v42 => oSet 14 (sV ((xC v41))) fun v14 => oSet 15 (sV ((xC v42))) fun v15 => oEnd))
 (cSeq (cSeq (cOps (oLet (sV ((xW 13))) fun v43 => oLet (sV (vNe .i64 (xC v43) (xC (.int .i64 0)))) fun v44 => oLet (sG (xC v44) false (sV ((xW 15)))) fun v46 => oLet (sG (xC v44) false (sV (vNe .i64 (xC v46) (xC (.int .i64 0))))) fun v47 => oSet 48 (sV (vPick (xC v44) (xC (.bool true)) (xC v47))) fun v48 => oEnd))
 (cCond (xW 48) (cSeq (cOps (oSet 8 (sV ((xC (.bool false)))) fun v8 => oEnd))
 cRet)
 cSkip))
 (cSeq (cOps (oLet (sV ((xW 12))) fun v49 => oLet (sV ((xW 14))) fun v50 => oLet (sN (aRow 2 1 [1, 1] [(xC v49), (xC v50)])) fun v51 => oSet 16 (sV ((xC v51))) fun v16 => oEnd))
 (cSeq (cSeq (cOps (oSet 52 (sV ((xW 0))) fun v52 => oEnd))
 (cCond (xW 52) (cOps (oLet (sV ((xW 16))) fun v53 => oLet (sN (aRow 3 1 [1, 1, 1] [(xC (.int .u8 83)), (xC (.int .u8 66)), (xC (.int .u8 67))])) fun v54 => oLet (sM (tFroze (xC v54))) fun v55 => oLet (sN (aRow 1 1 [1] [(xC v55)])) fun v56 => oLet (sM (tAppend 24 1 (xC v53) (xC v56))) fun v57 => oSet 16 (sV ((xC v57))) fun v16 => oEnd))
 cSkip))
 (cSeq (cOps (oSet 17 (sV ((xC (.str [77, 97, 105, 110, 46, 109, 97, 105, 110, 40, 41, 86])))) fun v17 => oEnd))
 (cSeq (cSeq (cOps (oSet 58 (sV ((xW 3))) fun v58 => oEnd))
 (cCond (xW 58) (cOps (oSet 17 (sV ((xC (.str [77, 97, 105, 110, 46, 111, 116, 104, 101, 114, 40, 41, 86])))) fun v17 => oEnd))
 cSkip))
 (cSeq (cOps (oLet (sV ((xW 17))) fun v60 => oLet (sV ((xW 16))) fun v61 => oLet (sC 28 [(xC v60), (xC v61)]) fun v62 => oLet (sV (vExtract 0 (xC v62))) fun v63 => oLet (sV (vExtract 1 (xC v62))) fun v64 => oSet 18 (sN (aAlloc [.str [], .nilslice, .nilslice, .nilslice, .nilslice, .nilslice])) fun v18 => oSet 19 (sN (aAlloc [.int .i64 0, .int .i64 0, .int .i64 0, .str [], .int .i64 0, .int .i64 0])) fun v19 => oDo (sM (tStore 6 (xC v18) (xC v63))) (oDo (sM (tStore 6 (xC v19) (xC v64))) (oEnd))))
 (cSeq (cBlock 0 (cSeq (cOps (oLet (sV ((xW 0))) fun v66 => oSet 65 (sV ((xC v66))) fun v65 => oEnd))
 (cCond (xW 65) (cSeq (cOps (oLet (sV (vAddr 0 (xW 19))) fun v67 => oLet (sL (lLoad none (xC v67))) fun v68 => oLet (sV (vEq .i64 (xC v68) (xC (.int .i64 2)))) fun v69 => oLet (sG (xC v69) true (sV (vAddr 1 (xW 19)))) fun v71 => oLet (sG (xC v69) true (sL (lLoad none (xC v71)))) fun v72 => oLet (sG (xC v69) true (sV (vEq .i64 (xC v72) (xC (.int .i64 2))))) fun v73 => oLet (sV (vPick (xC v69) (xC v73) (xC (.bool false)))) fun v74 => oLet (sG (xC v74) true (sC 24 [])) fun v76 => oLet (sV (vPick (xC v74) (xC v76) (xC (.bool false)))) fun v77 => oSet 8 (sV ((xC v77))) fun v8 => oEnd))
 cRet)
 (cSeq (cOps (oLet (sV ((xW 1))) fun v79 => oSet 78 (sV ((xC v79))) fun v78 => oEnd))
 (cCond (xW 78) (cSeq (cOps (oLet (sV (vAddr 0 (xW 19))) fun v80 => oLet (sL (lLoad none (xC v80))) fun v81 => oLet (sV (vEq .i64 (xC v81) (xC (.int .i64 8)))) fun v82 => oLet (sG (xC v82) true (sV (vAddr 1 (xW 19)))) fun v84 => oLet (sG (xC v82) true (sL (lLoad none (xC v84)))) fun v85 => oLet (sG (xC v82) true (sV (vEq .i64 (xC v85) (xC (.int .i64 1))))) fun v86 => oLet (sV (vPick (xC v82) (xC v86) (xC (.bool false)))) fun v87 => oLet (sG (xC v87) true (sC 24 [])) fun v89 => oLet (sV (vPick (xC v87) (xC v89) (xC (.bool false)))) fun v90 => oSet 8 (sV ((xC v90))) fun v8 => oEnd))
 cRet)
 (cSeq (cOps (oLet (sV ((xW 2))) fun v92 => oSet 91 (sV ((xC v92))) fun v91 => oEnd))
 (cCond (xW 91) (cSeq (cOps (oLet (sV (vAddr 0 (xW 19))) fun v93 => oLet (sL (lLoad none (xC v93))) fun v94 => oLet (sV (vEq .i64 (xC v94) (xC (.int .i64 9)))) fun v95 => oLet (sG (xC v95) true (sV (vAddr 5 (xW 19)))) fun v97 => oLet (sG (xC v95) true (sL (lLoad none (xC v97)))) fun v98 => oLet (sG (xC v95) true (sV (vEq .i64 (xC v98) (xC (.int .i64 1))))) fun v99 => oLet (sV (vPick (xC v95) (xC v99) (xC (.bool false)))) fun v100 => oLet (sG (xC v100) true (sV (vAddr 4 (xW 19)))) fun v102 => oLet (sG (xC v100) true (sL (lLoad none (xC v102)))) fun v103 => oLet (sG (xC v100) true (sV (vEq .i64 (xC v103) (xC (.int .i64 0))))) fun v104 => oLet (sV (vPick (xC v100) (xC v104) (xC (.bool false)))) fun v105 => oLet (sG (xC v105) true (sV (vAddr 3 (xW 19)))) fun v107 => oLet (sG (xC v105) true (sL (lLoad none (xC v107)))) fun v108 => oLet (sG (xC v105) true (sV (vSEq (xC v108) (xC (.str [77, 97, 105, 110, 46, 109, 97, 105, 110, 40, 41, 86]))))) fun v109 => oLet (sV (vPick (xC v105) (xC v109) (xC (.bool false)))) fun v110 => oLet (sG (xC v110) true (sL (lLoad (some 6) (xW 19)))) fun v112 => oLet (sG (xC v110) true (sC 26 [(xC v112)])) fun v113 => oLet (sG (xC v110) true (sV (vSEq (xC v113) (xC (.str [101, 114, 114, 111, 114, 32, 57, 32, 77, 97, 105, 110, 46, 109, 97, 105, 110, 40, 41, 86, 32, 48, 32, 49]))))) fun v114 => oLet (sV (vPick (xC v110) (xC v114) (xC (.bool false)))) fun v115 => oLet (sG (xC v115) true (sC 24 [])) fun v117 => oLet (sV (vPick (xC v115) (xC v117) (xC (.bool false)))) fun v118 => oSet 8 (sV ((xC v118))) fun v8 => oEnd))
 cRet)
 (cSeq (cOps (oLet (sV ((xW 3))) fun v120 => oSet 119 (sV ((xC v120))) fun v119 => oEnd))
 (cCond (xW 119) (cSeq (cOps (oLet (sV (vAddr 0 (xW 19))) fun v121 => oLet (sL (lLoad none (xC v121))) fun v122 => oLet (sV (vEq .i64 (xC v122) (xC (.int .i64 10)))) fun v123 => oLet (sG (xC v123) true (sC 24 [])) fun v125 => oLet (sV (vPick (xC v123) (xC v125) (xC (.bool false)))) fun v126 => oSet 8 (sV ((xC v126))) fun v8 => oEnd))
 cRet)
 cSkip)))))))))
 (cSeq (cOps (oLet (sV (vAddr 0 (xW 19))) fun v127 => oLet (sL (lLoad none (xC v127))) fun v128 => oLet (sV (vEq .i64 (xC v128) (xC (.int .i64 0)))) fun v129 => oLet (sG (xC v129) true (sV (vAddr 0 (xW 18)))) fun v131 => oLet (sG (xC v129) true (sL (lLoad none (xC v131)))) fun v132 => oLet (sG (xC v129) true (sV ((xW 17)))) fun v133 => oLet (sG (xC v129) true (sV (vSEq (xC v132) (xC v133)))) fun v134 => oLet (sV (vPick (xC v129) (xC v134) (xC (.bool false)))) fun v135 => oLet (sG (xC v135) true (sC 24 [])) fun v137 => oLet (sV (vPick (xC v135) (xC v137) (xC (.bool false)))) fun v138 => oSet 8 (sV ((xC v138))) fun v8 => oEnd))
 cRet)))))))))))))))), [.tmp (way 8)]⟩
theorem Tryz.k6_c : compF Tryz.prog [20, 21, 23, 24, 25, 26, 27, 28, 29, 30, 32, 34, 35, 33, 36, 37, 39, 40, 38, 41, 42, 43, 44, 45, 46, 47, 49, 50, 51, 53, 54, 55, 56, 57, 60, 61, 62, 59, 63, 64, 66, 67, 68, 69, 70, 71, 72, 73, 74, 75, 76, 77, 79, 80, 81, 82, 83, 84, 85, 86, 87, 88, 89, 90, 92, 93, 94, 95, 96, 97, 98, 99, 100, 101, 102, 103, 104, 105, 106, 107, 108, 109, 110, 111, 112, 113, 114, 115, 116, 117, 118, 120, 121, 122, 123, 124, 125, 126, 127, 128, 129, 130, 131, 132, 133, 134, 135, 136, 137, 138] Tryz.f6 = some Tryz.k6 := by kernel_rfl
def Tryz.k24 : KF := ⟨[], (cSeq (cOps (oSet 0 (sV ((xC (.bool false)))) fun v0 => oEnd))
 (cSeq (cOps (oLet (sC 28 [(xC (.str [65, 46, 109, 97, 105, 110, 40, 41, 86])), (xC (.nilslice))]) fun v6 => oLet (sV (vExtract 0 (xC v6))) fun v7 => oLet (sV (vExtract 1 (xC v6))) fun v8 => oLet (sN (aAlloc [.str [], .nilslice, .nilslice, .nilslice, .nilslice, .nilslice])) fun v1 => oSet 2 (sN (aAlloc [.int .i64 0, .int .i64 0, .int .i64 0, .str [], .int .i64 0, .int .i64 0])) fun v2 => oDo (sM (tStore 6 (xC v1) (xC v7))) (oDo (sM (tStore 6 (xC v2) (xC v8))) (oEnd))))
 (cSeq (cOps (oLet (sV (vFill [.int .i64 0, .int .i64 0, .int .i64 0, .str [], .str [], .str []] [(0, 1)] [(xC (.int .i64 36))])) fun v10 => oLet (sN (aRow 1 6 [6] [(xC v10)])) fun v11 => oLet (sV (vFill [.str [], .str [], .bool false, .bool false, .int .i64 0, .int .i64 0, .nilslice, .nilslice] [(0, 1), (1, 1), (2, 1), (6, 1)] [(xC (.str [109, 97, 105, 110])), (xC (.str [40, 41, 86])), (xC (.bool true)), (xC v11)])) fun v12 => oLet (sN (aRow 1 8 [8] [(xC v12)])) fun v13 => oLet (sV (vFill [.str [], .str [], .bool false, .bool false, .nilslice, .nilslice, .nilslice] [(0, 1), (1, 1), (6, 1)] [(xC (.str [65])), (xC (.str [79, 98, 106, 101, 99, 116])), (xC v13)])) fun v14 => oLet (sN (aRow 1 7 [7] [(xC v14)])) fun v15 => oLet (sC 63 [(xC (.str [65, 46, 109, 97, 105, 110, 40, 41, 86])), (xC v15)]) fun v16 => oLet (sV (vExtract 0 (xC v16))) fun v17 => oLet (sV (vExtract 1 (xC v16))) fun v18 => oSet 3 (sN (aAlloc [.str [], .nilslice, .nilslice, .nilslice, .nilslice, .nilslice])) fun v3 => oSet 4 (sN (aAlloc [.int .i64 0, .int .i64 0, .int .i64 0, .str [], .int .i64 0, .int .i64 0])) fun v4 => oDo (sM (tStore 6 (xC v3) (xC v17))) (oDo (sM (tStore 6 (xC v4) (xC v18))) (oEnd))))
 (cSeq (cOps (oLet (sV (vAddr 0 (xW 2))) fun v19 => oLet (sL (lLoad none (xC v19))) fun v20 => oLet (sV (vEq .i64 (xC v20) (xC (.int .i64 10)))) fun v21 => oLet (sG (xC v21) true (sV (vAddr 0 (xW 4)))) fun v23 => oLet (sG (xC v21) true (sL (lLoad none (xC v23)))) fun v24 => oLet (sG (xC v21) true (sV (vEq .i64 (xC v24) (xC (.int .i64 0))))) fun v25 => oLet (sV (vPick (xC v21) (xC v25) (xC (.bool false)))) fun v26 => oLet (sG (xC v26) true (sV (vAddr 0 (xW 3)))) fun v28 => oLet (sG (xC v26) true (sL (lLoad none (xC v28)))) fun v29 => oLet (sG (xC v26) true (sV (vSEq (xC v29) (xC (.str [65, 46, 109, 97, 105, 110, 40, 41, 86]))))) fun v30 => oLet (sV (vPick (xC v26) (xC v30) (xC (.bool false)))) fun v31 => oLet (sG (xC v31) true (sL (lLoad (some 6) (xW 2)))) fun v33 => oLet (sG (xC v31) true (sC 26 [(xC v33)])) fun v34 => oLet (sG (xC v31) true (sV (vSEq (xC v34) (xC (.str [101, 114, 114, 111, 114, 32, 49, 48, 32, 48, 32, 48]))))) fun v35 => oLet (sV (vPick (xC v31) (xC v35) (xC (.bool false)))) fun v36 => oLet (sG (xC v36) true (sL (lLoad (some 6) (xW 4)))) fun v38 => oLet (sG (xC v36) true (sC 26 [(xC v38)])) fun v39 => oLet (sG (xC v36) true (sV (vSEq (xC v39) (xC (.str [111, 107]))))) fun v40 => oLet (sV (vPick (xC v36) (xC v40) (xC (.bool false)))) fun v41 => oSet 0 (sV ((xC v41))) fun v0 => oEnd))
 cRet)))), [.tmp (way 0)]⟩
theorem Tryz.k24_c : compF Tryz.prog [6, 5, 7, 8, 1, 10, 11, 12, 13, 14, 15, 16, 9, 17, 18, 19, 20, 21, 22, 23, 24, 25, 26, 27, 28, 29, 30, 31, 32, 33, 34, 35, 36, 37, 38, 39, 40, 41] Tryz.f24 = some Tryz.k24 := by kernel_rfl
def Tryz.k25 : KF := ⟨[(way 0)], (cSeq (cOps (oSet 2 (sV ((xC (.str [])))) fun v2 => oEnd))
 (cSeq (cOps (oLet (sV ((xW 0))) fun v6 => oLet (sV (vToI .u64 (xC v6))) fun v7 => oSet 3 (sV ((xC v7))) fun v3 => oEnd))
 (cSeq (cOps (oSet 4 (sV ((xC (.str [])))) fun v4 => oEnd))
 (cSeq (cSeq (cOps (oLet (sV ((xW 0))) fun v8 => oSet 9 (sV (vLt .i64 (xC v8) (xC (.int .i64 0)))) fun v9 => oEnd))
 (cCond (xW 9) (cSeq (cOps (oLet (sV ((xW 3))) fun v10 => oLet (sV (vUn .neg (xC v10))) fun v11 => oSet 3 (sV ((xC v11))) fun v3 => oEnd))
 (cOps (oSet 4 (sV ((xC (.str [45])))) fun v4 => oEnd)))
 cSkip))
 (cSeq (cOps (oSet 5 (sV ((xC (.nilslice)))) fun v5 => oEnd))
 (cSeq (cBlock 0 (cLoop (cSeq (cSeq (cOps (oLet (sV ((xW 3))) fun v12 => oLet (sV (vGt .u64 (xC v12) (xC (.int .u64 0)))) fun v13 => oLet (sG (xC v13) false (sV ((xW 5)))) fun v15 => oLet (sG (xC v13) false (sV (vLen (xC v15)))) fun v16 => oLet (sG (xC v13) false (sV (vEq .i64 (xC v16) (xC (.int .i64 0))))) fun v17 => oSet 18 (sV (vPick (xC v13) (xC (.bool true)) (xC v17))) fun v18 => oEnd))
 (cCond (xW 18) cSkip
 (cExit 0)))
 (cBlock 1 (cSeq (cOps (oLet (sV ((xW 3))) fun v19 => oLet (sV (vAr .rem .u64 (xC v19) (xC (.int .u64 10)))) fun v20 => oLet (sV (vAdd .u64 (xC (.int .u64 48)) (xC v20))) fun v21 => oLet (sV (vToI .u8 (xC v21))) fun v22 => oLet (sN (aRow 1 1 [1] [(xC v22)])) fun v23 => oLet (sV ((xW 5))) fun v24 => oLet (sM (tAppend 1 1 (xC v23) (xC v24))) fun v25 => oSet 5 (sV ((xC v25))) fun v5 => oEnd))
 (cOps (oLet (sV ((xW 3))) fun v26 => oLet (sV (vAr .quo .u64 (xC v26) (xC (.int .u64 10)))) fun v27 => oSet 3 (sV ((xC v27))) fun v3 => oEnd)))))))
 (cSeq (cOps (oLet (sV ((xW 4))) fun v28 => oLet (sV ((xW 5))) fun v29 => oLet (sL (lToStr (xC v29))) fun v30 => oLet (sV (vStr .add (xC v28) (xC v30))) fun v31 => oSet 2 (sV ((xC v31))) fun v2 => oEnd))
 cRet))))))), [.tmp (way 2)]⟩
theorem Tryz.k25_c : compF Tryz.prog [6, 7, 8, 10, 11, 12, 13, 14, 15, 16, 17, 19, 20, 21, 22, 23, 24, 25, 26, 27, 28, 29, 30, 31] Tryz.f25 = some Tryz.k25 := by kernel_rfl
def Tryz.k26 : KF := ⟨[(way 0)], (cSeq (cOps (oSet 1 (sN (aBox (xW 0))) fun v1 => oSet 2 (sV ((xC (.str [])))) fun v2 => oEnd))
 (cScope (cSeq (cOps (oSet 3 (sV ((xC (.str [111, 107])))) fun v3 => oEnd))
 (cSeq (cSeq (cOps (oLet (sV (vAddr 0 (xW 1))) fun v4 => oLet (sL (lLoad none (xC v4))) fun v5 => oSet 6 (sV (vEq .i64 (xC v5) (xC (.int .i64 0)))) fun v6 => oEnd))
 (cCond (xW 6) (cGoto 0)
 cSkip))
 (cSeq (cOps (oLet (sV (vAddr 0 (xW 1))) fun v7 => oLet (sL (lLoad none (xC v7))) fun v8 => oLet (sC 64 [(xC v8)]) fun v9 => oLet (sV (vStr .add (xC (.str [101, 114, 114, 111, 114, 32])) (xC v9))) fun v10 => oSet 3 (sV ((xC v10))) fun v3 => oEnd))
 (cSeq (cSeq (cOps (oLet (sV (vAddr 0 (xW 1))) fun v11 => oLet (sL (lLoad none (xC v11))) fun v12 => oSet 13 (sV (vEq .i64 (xC v12) (xC (.int .i64 9)))) fun v13 => oEnd))
 (cCond (xW 13) (cSeq (cOps (oLet (sV ((xW 3))) fun v14 => oLet (sV (vAddr 3 (xW 1))) fun v15 => oSee (seeL (lLoad none (xC v15))) fun q2 => oLet (sLo [] 0 (lLoad none (xC v15))) fun v16 => oLet (sV (vStr .add (xC (.str [32])) (xC v16))) fun v17 => oLet (sV (vStr .add (xC v17) (xC (.str [32])))) fun v18 => oLet (sV (vAddr 4 (xW 1))) fun v19 => oLet (sL (lLoad none (xC v19))) fun v20 => oCap fun c7 => oLet (sC 64 [(xC v20)]) fun v21 => oCap fun d7 => oLate [q2] <| oLet (sV (vStr .add (xC v18) (xC v21))) fun v22 => oLet (sV (vStr .add (xC v22) (xC (.str [32])))) fun v23 => oLet (sV (vAddr 5 (xW 1))) fun v24 => oLet (sLo [c7] d7.next (lLoad none (xC v24))) fun v25 => oCap fun c12 => oLet (sC 64 [(xC v25)]) fun v26 => oCap fun d12 => oLate [q2] <| oLet (sV (vStr .add (xC v23) (xC v26))) fun v27 => oLet (sV (vStr .add (xC v14) (xC v27))) fun v28 => oSet 3 (sV ((xC v28))) fun v3 => oEnd))
 (cGoto 0))
 cSkip))
 (cSeq (cOps (oLet (sV ((xW 3))) fun v29 => oLet (sV (vAddr 1 (xW 1))) fun v30 => oLet (sL (lLoad none (xC v30))) fun v31 => oCap fun c3 => oLet (sC 64 [(xC v31)]) fun v32 => oCap fun d3 => oLet (sV (vStr .add (xC (.str [32])) (xC v32))) fun v33 => oLet (sV (vStr .add (xC v33) (xC (.str [32])))) fun v34 => oLet (sV (vAddr 2 (xW 1))) fun v35 => oLet (sLo [c3] d3.next (lLoad none (xC v35))) fun v36 => oCap fun c8 => oLet (sC 64 [(xC v36)]) fun v37 => oCap fun d8 => oLet (sV (vStr .add (xC v34) (xC v37))) fun v38 => oLet (sV (vStr .add (xC v29) (xC v38))) fun v39 => oSet 3 (sV ((xC v39))) fun v3 => oEnd))
 (cSeq cSkip
 (cSeq (cOps (oLet (sV ((xW 3))) fun v40 => oSet 2 (sV ((xC v40))) fun v2 => oEnd))
 cRet))))))) [(0, (cSeq cSkip
 (cSeq (cOps (oLet (sV ((xW 3))) fun v40 => oSet 2 (sV ((xC v40))) fun v2 => oEnd))
 cRet)))])), [.tmp (way 2)]⟩
theorem Tryz.k26_c : compF Tryz.prog [4, 5, 7, 8, 9, 10, 11, 12, 14, 15, 16, 17, 18, 19, 20, 21, 22, 23, 24, 25, 26, 27, 28, 29, 30, 31, 32, 33, 34, 35, 36, 37, 38, 39, 40] Tryz.f26 = some Tryz.k26 := by kernel_rfl
def Tryz.k27 : KF := ⟨[(way 0)], (cSeq (cOps (oSet 1 (sN (aBox (xW 0))) fun v1 => oSet 2 (sV ((xC (.nilslice)))) fun v2 => oSet 3 (sV ((xC (.int .i64 0)))) fun v3 => oEnd))
 (cSeq (cOps (oLet (sL (lLoad (some 7) (xW 1))) fun v19 => oLet (sC 65 [(xC v19)]) fun v20 => oSet 4 (sV ((xC v20))) fun v4 => oEnd))
 (cSeq (cSeq (cOps (oLet (sV ((xW 4))) fun v21 => oSet 22 (sV (vNe .i64 (xC v21) (xC (.int .i64 0)))) fun v22 => oEnd))
 (cCond (xW 22) (cSeq (cOps (oLet (sV ((xW 4))) fun v23 => oSet 2 (sV ((xC (.nilslice)))) fun v2 => oSet 3 (sV ((xC v23))) fun v3 => oEnd))
 cRet)
 cSkip))
 (cSeq (cOps (oLet (sL (lLoad (some 7) (xW 1))) fun v24 => oLet (sC 66 [(xC v24)]) fun v25 => oSet 5 (sV ((xC v25))) fun v5 => oEnd))
 (cSeq (cOps (oLet (sN (aRow 4 1 [1, 1, 1, 1] [(xC (.int .u8 83)), (xC (.int .u8 66)), (xC (.int .u8 67)), (xC (.int .u8 49))])) fun v26 => oLet (sM (tFroze (xC v26))) fun v27 => oLet (sV ((xW 5))) fun v28 => oLet (sV (vLen (xC v28))) fun v29 => oLet (sC 55 [(xC v29), (xC (.int .i64 2))]) fun v30 => oLet (sM (tAppend 1 1 (xC v27) (xC v30))) fun v31 => oSet 6 (sV ((xC v31))) fun v6 => oEnd))
 (cSeq (cSeq (cOps (oSet 7 (sV ((xC (.int .i64 0)))) fun v7 => oEnd))
 (cBlock 0 (cLoop (cSeq (cSeq (cOps (oLet (sV ((xW 7))) fun v32 => oLet (sV ((xW 5))) fun v33 => oLet (sV (vLen (xC v33))) fun v34 => oSet 35 (sV (vLt .i64 (xC v32) (xC v34))) fun v35 => oEnd))
 (cCond (xW 35) cSkip
 (cExit 0)))
 (cSeq (cBlock 1 (cOps (oLet (sV ((xW 6))) fun v38 => oLet (sV ((xW 5))) fun v39 => oLet (sV ((xW 7))) fun v40 => oLet (sV (vIdx 1 (xC v39) (xC v40))) fun v41 => oLet (sL (lLoad none (xC v41))) fun v42 => oLet (sC 52 [(xC v42)]) fun v43 => oLet (sM (tAppend 1 1 (xC v38) (xC v43))) fun v44 => oSet 6 (sV ((xC v44))) fun v6 => oEnd)))
 (cOps (oLet (sV ((xW 7))) fun v36 => oLet (sV (vAdd .i64 (xC v36) (xC (.int .i64 1)))) fun v37 => oSet 7 (sV ((xC v37))) fun v7 => oEnd)))))))
 (cSeq (cOps (oLet (sV ((xW 6))) fun v45 => oLet (sV ((xW 5))) fun v46 => oLet (sV (vAddr 0 (xW 1))) fun v47 => oLet (sL (lLoad none (xC v47))) fun v48 => oCap fun c4 => oLet (sC 67 [(xC v46), (xC v48)]) fun v49 => oCap fun d4 => oCap fun c5 => oLet (sM (tAppend 1 1 (xC v45) (xC v49))) fun v50 => oCap fun d5 => oLet (sV (vAddr 1 (xW 1))) fun v52 => oLet (sLo [c5, c4] d5.next (lLoad none (xC v52))) fun v53 => oCap fun c9 => oLet (sC 67 [(xC v46), (xC v53)]) fun v54 => oCap fun d9 => oCap fun c10 => oLet (sM (tAppend 1 1 (xC v50) (xC v54))) fun v55 => oCap fun d10 => oLet (sV (vAddr 2 (xW 1))) fun v56 => oLet (sLo [c10, c9, c5, c4] d10.next (lLoad none (xC v56))) fun v57 => oCap fun c13 => oLet (sC 68 [(xC v57)]) fun v58 => oCap fun d13 => oLet (sV (vAddr 3 (xW 1))) fun v59 => oLet (sLo [c13, c10, c9, c5, c4] d13.next (lLoad none (xC v59))) fun v60 => oCap fun c16 => oLet (sC 68 [(xC v60)]) fun v61 => oCap fun d16 => oLet (sN (aRow 2 1 [1, 1] [(xC v58), (xC v61)])) fun v62 => oCap fun c18 => oLet (sM (tAppend 1 1 (xC v55) (xC v62))) fun v63 => oCap fun d18 => oSet 6 (sV ((xC v63))) fun v6 => oEnd))
 (cSeq (cOps (oLet (sV ((xW 6))) fun v64 => oLet (sV (vAddr 4 (xW 1))) fun v65 => oLet (sL (lLoad none (xC v65))) fun v66 => oLet (sV (vLen (xC v66))) fun v67 => oLet (sC 55 [(xC v67), (xC (.int .i64 2))]) fun v68 => oLet (sM (tAppend 1 1 (xC v64) (xC v68))) fun v69 => oSet 6 (sV ((xC v69))) fun v6 => oEnd))
 (cSeq (cSeq (cOps (oSet 8 (sV ((xC (.int .i64 0)))) fun v8 => oEnd))
 (cBlock 2 (cLoop (cSeq (cSeq (cOps (oLet (sV ((xW 8))) fun v70 => oLet (sV (vAddr 4 (xW 1))) fun v71 => oLet (sL (lLoad none (xC v71))) fun v72 => oLet (sV (vLen (xC v72))) fun v73 => oSet 74 (sV (vLt .i64 (xC v70) (xC v73))) fun v74 => oEnd))
 (cCond (xW 74) cSkip
 (cExit 2)))
 (cSeq (cBlock 3 (cOps (oLet (sV ((xW 6))) fun v77 => oLet (sV ((xW 5))) fun v78 => oLet (sV (vAddr 4 (xW 1))) fun v79 => oLet (sL (lLoad none (xC v79))) fun v80 => oLet (sV ((xW 8))) fun v81 => oLet (sV (vIdx 1 (xC v80) (xC v81))) fun v82 => oLet (sL (lLoad none (xC v82))) fun v83 => oLet (sC 67 [(xC v78), (xC v83)]) fun v84 => oLet (sM (tAppend 1 1 (xC v77) (xC v84))) fun v85 => oSet 6 (sV ((xC v85))) fun v6 => oEnd)))
 (cOps (oLet (sV ((xW 8))) fun v75 => oLet (sV (vAdd .i64 (xC v75) (xC (.int .i64 1)))) fun v76 => oSet 8 (sV ((xC v76))) fun v8 => oEnd)))))))
 (cSeq (cOps (oLet (sV ((xW 6))) fun v86 => oLet (sV (vAddr 5 (xW 1))) fun v87 => oLet (sL (lLoad none (xC v87))) fun v88 => oLet (sV (vLen (xC v88))) fun v89 => oLet (sC 55 [(xC v89), (xC (.int .i64 2))]) fun v90 => oLet (sM (tAppend 1 1 (xC v86) (xC v90))) fun v91 => oSet 6 (sV ((xC v91))) fun v6 => oEnd))
 (cSeq (cSeq (cOps (oSet 9 (sV ((xC (.int .i64 0)))) fun v9 => oEnd))
 (cBlock 4 (cLoop (cSeq (cSeq (cOps (oLet (sV ((xW 9))) fun v92 => oLet (sV (vAddr 5 (xW 1))) fun v93 => oLet (sL (lLoad none (xC v93))) fun v94 => oLet (sV (vLen (xC v94))) fun v95 => oSet 96 (sV (vLt .i64 (xC v92) (xC v95))) fun v96 => oEnd))
 (cCond (xW 96) cSkip
 (cExit 4)))
 (cSeq (cBlock 5 (cSeq (cOps (oLet (sV (vAddr 5 (xW 1))) fun v99 => oLet (sL (lLoad none (xC v99))) fun v100 => oLet (sV ((xW 9))) fun v101 => oLet (sV (vIdx 3 (xC v100) (xC v101))) fun v102 => oLet (sL (lLoad (some 3) (xC v102))) fun v103 => oSet 10 (sN (aAlloc [.str [], .str [], .bool false])) fun v10 => oDo (sM (tStore 3 (xC v10) (xC v103))) (oEnd)))
 (cOps (oLet (sV ((xW 6))) fun v104 => oLet (sV ((xW 5))) fun v105 => oLet (sV (vAddr 0 (xW 10))) fun v106 => oLet (sL (lLoad none (xC v106))) fun v107 => oCap fun c4 => oLet (sC 67 [(xC v105), (xC v107)]) fun v108 => oCap fun d4 => oCap fun c5 => oLet (sM (tAppend 1 1 (xC v104) (xC v108))) fun v109 => oCap fun d5 => oLet (sV (vAddr 1 (xW 10))) fun v111 => oLet (sLo [c5, c4] d5.next (lLoad none (xC v111))) fun v112 => oCap fun c9 => oLet (sC 67 [(xC v105), (xC v112)]) fun v113 => oCap fun d9 => oCap fun c10 => oLet (sM (tAppend 1 1 (xC v109) (xC v113))) fun v114 => oCap fun d10 => oLet (sV (vAddr 2 (xW 10))) fun v115 => oLet (sLo [c10, c9, c5, c4] d10.next (lLoad none (xC v115))) fun v116 => oCap fun c13 => oLet (sC 68 [(xC v116)]) fun v117 => oCap fun d13 => oLet (sN (aRow 1 1 [1] [(xC v117)])) fun v118 => oCap fun c15 => oLet (sM (tAppend 1 1 (xC v114) (xC v118))) fun v119 => oCap fun d15 => oSet 6 (sV ((xC v119))) fun v6 => oEnd))))
 (cOps (oLet (sV ((xW 9))) fun v97 => oLet (sV (vAdd .i64 (xC v97) (xC (.int .i64 1)))) fun v98 => oSet 9 (sV ((xC v98))) fun v9 => oEnd)))))))
 (cSeq (cOps (oLet (sV ((xW 6))) fun v120 => oLet (sV (vAddr 6 (xW 1))) fun v121 => oLet (sL (lLoad none (xC v121))) fun v122 => oLet (sV (vLen (xC v122))) fun v123 => oLet (sC 55 [(xC v123), (xC (.int .i64 2))]) fun v124 => oLet (sM (tAppend 1 1 (xC v120) (xC v124))) fun v125 => oSet 6 (sV ((xC v125))) fun v6 => oEnd))
 (cSeq (cSeq (cOps (oSet 11 (sV ((xC (.int .i64 0)))) fun v11 => oEnd))
 (cBlock 6 (cLoop (cSeq (cSeq (cOps (oLet (sV ((xW 11))) fun v126 => oLet (sV (vAddr 6 (xW 1))) fun v127 => oLet (sL (lLoad none (xC v127))) fun v128 => oLet (sV (vLen (xC v128))) fun v129 => oSet 130 (sV (vLt .i64 (xC v126) (xC v129))) fun v130 => oEnd))
 (cCond (xW 130) cSkip
 (cExit 6)))
 (cSeq (cBlock 7 (cSeq (cOps (oLet (sV (vAddr 6 (xW 1))) fun v133 => oLet (sL (lLoad none (xC v133))) fun v134 => oLet (sV ((xW 11))) fun v135 => oLet (sV (vIdx 8 (xC v134) (xC v135))) fun v136 => oLet (sL (lLoad (some 8) (xC v136))) fun v137 => oSet 12 (sN (aAlloc [.str [], .str [], .bool false, .bool false, .int .i64 0, .int .i64 0, .nilslice, .nilslice])) fun v12 => oDo (sM (tStore 8 (xC v12) (xC v137))) (oEnd)))
 (cSeq (cOps (oLet (sV ((xW 6))) fun v138 => oLet (sV ((xW 5))) fun v139 => oLet (sV (vAddr 0 (xW 12))) fun v140 => oLet (sL (lLoad none (xC v140))) fun v141 => oCap fun c4 => oLet (sC 67 [(xC v139), (xC v141)]) fun v142 => oCap fun d4 => oCap fun c5 => oLet (sM (tAppend 1 1 (xC v138) (xC v142))) fun v143 => oCap fun d5 => oLet (sV (vAddr 1 (xW 12))) fun v145 => oLet (sLo [c5, c4] d5.next (lLoad none (xC v145))) fun v146 => oCap fun c9 => oLet (sC 67 [(xC v139), (xC v146)]) fun v147 => oCap fun d9 => oCap fun c10 => oLet (sM (tAppend 1 1 (xC v143) (xC v147))) fun v148 => oCap fun d10 => oLet (sV (vAddr 2 (xW 12))) fun v149 => oLet (sLo [c10, c9, c5, c4] d10.next (lLoad none (xC v149))) fun v150 => oCap fun c13 => oLet (sC 68 [(xC v150)]) fun v151 => oCap fun d13 => oLet (sV (vAddr 3 (xW 12))) fun v152 => oLet (sLo [c13, c10, c9, c5, c4] d13.next (lLoad none (xC v152))) fun v153 => oCap fun c16 => oLet (sC 68 [(xC v153)]) fun v154 => oCap fun d16 => oLet (sV (vAddr 4 (xW 12))) fun v155 => oLet (sLo [c16, c13, c10, c9, c5, c4] d16.next (lLoad none (xC v155))) fun v156 => oLet (sV (vToI .u8 (xC v156))) fun v157 => oLet (sV (vAddr 5 (xW 12))) fun v158 => oLet (sLo [c16, c13, c10, c9, c5, c4] d16.next (lLoad none (xC v158))) fun v159 => oLet (sV (vToI .u8 (xC v159))) fun v160 => oLet (sN (aRow 4 1 [1, 1, 1, 1] [(xC v151), (xC v154), (xC v157), (xC v160)])) fun v161 => oCap fun c24 => oLet (sM (tAppend 1 1 (xC v148) (xC v161))) fun v162 => oCap fun d24 => oSet 6 (sV ((xC v162))) fun v6 => oEnd))
 (cSeq (cOps (oLet (sV ((xW 6))) fun v163 => oLet (sV (vAddr 6 (xW 12))) fun v164 => oLet (sL (lLoad none (xC v164))) fun v165 => oLet (sV (vLen (xC v165))) fun v166 => oLet (sC 55 [(xC v166), (xC (.int .i64 2))]) fun v167 => oLet (sM (tAppend 1 1 (xC v163) (xC v167))) fun v168 => oSet 6 (sV ((xC v168))) fun v6 => oEnd))
 (cSeq (cSeq (cOps (oSet 13 (sV ((xC (.int .i64 0)))) fun v13 => oEnd))
 (cBlock 8 (cLoop (cSeq (cSeq (cOps (oLet (sV ((xW 13))) fun v169 => oLet (sV (vAddr 6 (xW 12))) fun v170 => oLet (sL (lLoad none (xC v170))) fun v171 => oLet (sV (vLen (xC v171))) fun v172 => oSet 173 (sV (vLt .i64 (xC v169) (xC v172))) fun v173 => oEnd))
 (cCond (xW 173) cSkip
 (cExit 8)))
 (cSeq (cBlock 9 (cSeq (cOps (oLet (sV (vAddr 6 (xW 12))) fun v176 => oLet (sL (lLoad none (xC v176))) fun v177 => oLet (sV ((xW 13))) fun v178 => oLet (sV (vIdx 6 (xC v177) (xC v178))) fun v179 => oLet (sL (lLoad (some 6) (xC v179))) fun v180 => oSet 14 (sN (aAlloc [.int .i64 0, .int .i64 0, .int .i64 0, .str [], .str [], .str []])) fun v14 => oDo (sM (tStore 6 (xC v14) (xC v180))) (oEnd)))
 (cSeq (cOps (oLet (sV (vAddr 0 (xW 14))) fun v182 => oLet (sL (lLoad none (xC v182))) fun v183 => oLet (sC 69 [(xC v183)]) fun v184 => oLet (sV (vExtract 0 (xC v184))) fun v185 => oLet (sV (vExtract 1 (xC v184))) fun v186 => oSet 15 (sN (aAlloc [.bool false, .bool false, .bool false, .bool false, .bool false])) fun v15 => oDo (sM (tStore 5 (xC v15) (xC v185))) (oEnd)))
 (cSeq (cOps (oLet (sV ((xW 6))) fun v187 => oLet (sV (vAddr 0 (xW 14))) fun v188 => oLet (sL (lLoad none (xC v188))) fun v189 => oLet (sV (vToI .u8 (xC v189))) fun v190 => oLet (sN (aRow 1 1 [1] [(xC v190)])) fun v191 => oLet (sM (tAppend 1 1 (xC v187) (xC v191))) fun v192 => oSet 6 (sV ((xC v192))) fun v6 => oEnd))
 (cSeq (cSeq (cOps (oLet (sV (vIdxP 5 1 (xW 15) (xC (.int .i64 0)))) fun v193 => oSet 194 (sL (lLoad none (xC v193))) fun v194 => oEnd))
 (cCond (xW 194) (cOps (oLet (sV ((xW 6))) fun v195 => oLet (sV (vAddr 1 (xW 14))) fun v196 => oLet (sL (lLoad none (xC v196))) fun v197 => oLet (sC 55 [(xC v197), (xC (.int .i64 4))]) fun v198 => oLet (sM (tAppend 1 1 (xC v195) (xC v198))) fun v199 => oSet 6 (sV ((xC v199))) fun v6 => oEnd))
 cSkip))
 (cSeq (cSeq (cOps (oLet (sV (vIdxP 5 1 (xW 15) (xC (.int .i64 1)))) fun v200 => oSet 201 (sL (lLoad none (xC v200))) fun v201 => oEnd))
 (cCond (xW 201) (cOps (oLet (sV ((xW 6))) fun v202 => oLet (sV (vAddr 2 (xW 14))) fun v203 => oLet (sL (lLoad none (xC v203))) fun v204 => oLet (sC 55 [(xC v204), (xC (.int .i64 4))]) fun v205 => oLet (sM (tAppend 1 1 (xC v202) (xC v205))) fun v206 => oSet 6 (sV ((xC v206))) fun v6 => oEnd))
 cSkip))
 (cSeq (cSeq (cOps (oLet (sV (vIdxP 5 1 (xW 15) (xC (.int .i64 2)))) fun v207 => oSet 208 (sL (lLoad none (xC v207))) fun v208 => oEnd))
 (cCond (xW 208) (cOps (oLet (sV ((xW 6))) fun v209 => oLet (sV ((xW 5))) fun v210 => oLet (sV (vAddr 3 (xW 14))) fun v211 => oLet (sL (lLoad none (xC v211))) fun v212 => oLet (sC 67 [(xC v210), (xC v212)]) fun v213 => oLet (sM (tAppend 1 1 (xC v209) (xC v213))) fun v214 => oSet 6 (sV ((xC v214))) fun v6 => oEnd))
 cSkip))
 (cSeq (cSeq (cOps (oLet (sV (vIdxP 5 1 (xW 15) (xC (.int .i64 3)))) fun v215 => oSet 216 (sL (lLoad none (xC v215))) fun v216 => oEnd))
 (cCond (xW 216) (cOps (oLet (sV ((xW 6))) fun v217 => oLet (sV ((xW 5))) fun v218 => oLet (sV (vAddr 4 (xW 14))) fun v219 => oLet (sL (lLoad none (xC v219))) fun v220 => oLet (sC 67 [(xC v218), (xC v220)]) fun v221 => oLet (sM (tAppend 1 1 (xC v217) (xC v221))) fun v222 => oSet 6 (sV ((xC v222))) fun v6 => oEnd))
 cSkip))
 (cSeq (cOps (oLet (sV (vIdxP 5 1 (xW 15) (xC (.int .i64 4)))) fun v223 => oSet 224 (sL (lLoad none (xC v223))) fun v224 => oEnd))
 (cCond (xW 224) (cOps (oLet (sV ((xW 6))) fun v225 => oLet (sV ((xW 5))) fun v226 => oLet (sV (vAddr 5 (xW 14))) fun v227 => oLet (sL (lLoad none (xC v227))) fun v228 => oLet (sC 67 [(xC v226), (xC v228)]) fun v229 => oLet (sM (tAppend 1 1 (xC v225) (xC v229))) fun v230 => oSet 6 (sV ((xC v230))) fun v6 => oEnd))
 cSkip))))))))))
 (cOps (oLet (sV ((xW 13))) fun v174 => oLet (sV (vAdd .i64 (xC v174) (xC (.int .i64 1)))) fun v175 => oSet 13 (sV ((xC v175))) fun v13 => oEnd)))))))
 (cSeq (cOps (oLet (sV ((xW 6))) fun v231 => oLet (sV (vAddr 7 (xW 12))) fun v232 => oLet (sL (lLoad none (xC v232))) fun v233 => oLet (sV (vLen (xC v233))) fun v234 => oLet (sC 55 [(xC v234), (xC (.int .i64 2))]) fun v235 => oLet (sM (tAppend 1 1 (xC v231) (xC v235))) fun v236 => oSet 6 (sV ((xC v236))) fun v6 => oEnd))
 (cSeq (cOps (oSet 17 (sV ((xC (.int .i64 0)))) fun v17 => oEnd))
 (cBlock 10 (cLoop (cSeq (cSeq (cOps (oLet (sV ((xW 17))) fun v237 => oLet (sV (vAddr 7 (xW 12))) fun v238 => oLet (sL (lLoad none (xC v238))) fun v239 => oLet (sV (vLen (xC v239))) fun v240 => oSet 241 (sV (vLt .i64 (xC v237) (xC v240))) fun v241 => oEnd))
 (cCond (xW 241) cSkip
 (cExit 10)))
 (cSeq (cBlock 11 (cSeq (cOps (oLet (sV (vAddr 7 (xW 12))) fun v244 => oLet (sL (lLoad none (xC v244))) fun v245 => oLet (sV ((xW 17))) fun v246 => oLet (sV (vIdx 4 (xC v245) (xC v246))) fun v247 => oLet (sL (lLoad (some 4) (xC v247))) fun v248 => oSet 18 (sN (aAlloc [.int .i64 0, .int .i64 0, .int .i64 0, .str []])) fun v18 => oDo (sM (tStore 4 (xC v18) (xC v248))) (oEnd)))
 (cOps (oLet (sV ((xW 6))) fun v249 => oLet (sV (vAddr 0 (xW 18))) fun v250 => oLet (sL (lLoad none (xC v250))) fun v251 => oCap fun c3 => oLet (sC 55 [(xC v251), (xC (.int .i64 2))]) fun v252 => oCap fun d3 => oCap fun c4 => oLet (sM (tAppend 1 1 (xC v249) (xC v252))) fun v253 => oCap fun d4 => oLet (sV (vAddr 1 (xW 18))) fun v254 => oLet (sLo [c4, c3] d4.next (lLoad none (xC v254))) fun v255 => oCap fun c7 => oLet (sC 55 [(xC v255), (xC (.int .i64 2))]) fun v256 => oCap fun d7 => oCap fun c8 => oLet (sM (tAppend 1 1 (xC v253) (xC v256))) fun v257 => oCap fun d8 => oLet (sV (vAddr 2 (xW 18))) fun v258 => oLet (sLo [c8, c7, c4, c3] d8.next (lLoad none (xC v258))) fun v259 => oCap fun c11 => oLet (sC 55 [(xC v259), (xC (.int .i64 2))]) fun v260 => oCap fun d11 => oCap fun c12 => oLet (sM (tAppend 1 1 (xC v257) (xC v260))) fun v261 => oCap fun d12 => oLet (sV ((xW 5))) fun v262 => oLet (sV (vAddr 3 (xW 18))) fun v263 => oLet (sLo [c12, c11, c8, c7, c4, c3] d12.next (lLoad none (xC v263))) fun v264 => oCap fun c16 => oLet (sC 67 [(xC v262), (xC v264)]) fun v265 => oCap fun d16 => oCap fun c17 => oLet (sM (tAppend 1 1 (xC v261) (xC v265))) fun v266 => oCap fun d17 => oSet 6 (sV ((xC v266))) fun v6 => oEnd))))
 (cOps (oLet (sV ((xW 17))) fun v242 => oLet (sV (vAdd .i64 (xC v242) (xC (.int .i64 1)))) fun v243 => oSet 17 (sV ((xC v243))) fun v17 => oEnd)))))))))))))
 (cOps (oLet (sV ((xW 11))) fun v131 => oLet (sV (vAdd .i64 (xC v131) (xC (.int .i64 1)))) fun v132 => oSet 11 (sV ((xC v132))) fun v11 => oEnd)))))))
 (cSeq (cOps (oLet (sV ((xW 6))) fun v267 => oSet 2 (sV ((xC v267))) fun v2 => oSet 3 (sV ((xC (.int .i64 0)))) fun v3 => oEnd))
 cRet)))))))))))))), [.tmp (way 2), .tmp (way 3)]⟩
theorem Tryz.k27_c : compF Tryz.prog [19, 20, 21, 23, 24, 25, 26, 27, 28, 29, 30, 31, 32, 33, 34, 38, 39, 40, 41, 42, 43, 44, 36, 37, 45, 46, 47, 48, 49, 50, 51, 52, 53, 54, 55, 56, 57, 58, 59, 60, 61, 62, 63, 64, 65, 66, 67, 68, 69, 70, 71, 72, 73, 77, 78, 79, 80, 81, 82, 83, 84, 85, 75, 76, 86, 87, 88, 89, 90, 91, 92, 93, 94, 95, 99, 100, 101, 102, 103, 104, 105, 106, 107, 108, 109, 110, 111, 112, 113, 114, 115, 116, 117, 118, 119, 97, 98, 120, 121, 122, 123, 124, 125, 126, 127, 128, 129, 133, 134, 135, 136, 137, 138, 139, 140, 141, 142, 143, 144, 145, 146, 147, 148, 149, 150, 151, 152, 153, 154, 155, 156, 157, 158, 159, 160, 161, 162, 163, 164, 165, 166, 167, 168, 169, 170, 171, 172, 176, 177, 178, 179, 180, 182, 183, 184, 181, 185, 186, 16, 187, 188, 189, 190, 191, 192, 193, 195, 196, 197, 198, 199, 200, 202, 203, 204, 205, 206, 207, 209, 210, 211, 212, 213, 214, 215, 217, 218, 219, 220, 221, 222, 223, 225, 226, 227, 228, 229, 230, 174, 175, 231, 232, 233, 234, 235, 236, 237, 238, 239, 240, 244, 245, 246, 247, 248, 249, 250, 251, 252, 253, 254, 255, 256, 257, 258, 259, 260, 261, 262, 263, 264, 265, 266, 242, 243, 131, 132, 267] Tryz.f27 = some Tryz.k27 := by kernel_rfl
def Tryz.k28 : KF := ⟨[(way 0), (way 1)], (cSeq (cOps (oSet 4 (sN (aAlloc [.str [], .nilslice, .nilslice, .nilslice, .nilslice, .nilslice])) fun v4 => oSet 5 (sN (aAlloc [.int .i64 0, .int .i64 0, .int .i64 0, .str [], .int .i64 0, .int .i64 0])) fun v5 => oEnd))
 (cSeq (cOps (oLet (sV ((xW 1))) fun v11 => oLet (sC 70 [(xC v11)]) fun v12 => oLet (sV (vExtract 0 (xC v12))) fun v13 => oLet (sV (vExtract 1 (xC v12))) fun v14 => oLet (sV (vExtract 2 (xC v12))) fun v15 => oSet 6 (sV ((xC v13))) fun v6 => oSet 7 (sV ((xC v14))) fun v7 => oSet 8 (sV ((xC v15))) fun v8 => oEnd))
 (cSeq (cSeq (cOps (oLet (sV ((xW 7))) fun v16 => oSet 17 (sV (vEq .i64 (xC v16) (xC (.int .i64 0)))) fun v17 => oEnd))
 (cCond (xW 17) (cSeq (cOps (oLet (sV ((xW 6))) fun v18 => oLet (sV ((xW 0))) fun v19 => oLet (sC 71 [(xC v18), (xC v19)]) fun v20 => oLet (sV (vExtract 0 (xC v20))) fun v21 => oLet (sV (vExtract 1 (xC v20))) fun v22 => oDo (sM (tStore 6 (xW 4) (xC v21))) (oDo (sM (tStore 6 (xW 5) (xC v22))) (oEnd))))
 cRet)
 cSkip))
 (cSeq (cOps (oLet (sV ((xW 7))) fun v23 => oLet (sV ((xW 8))) fun v24 => oLet (sV (vFill [.int .i64 0, .int .i64 0, .int .i64 0, .str [], .int .i64 0, .int .i64 0] [(0, 1), (1, 1)] [(xC v23), (xC v24)])) fun v25 => oSet 9 (sN (aAlloc [.int .i64 0, .int .i64 0, .int .i64 0, .str [], .int .i64 0, .int .i64 0])) fun v9 => oDo (sM (tStore 6 (xC v9) (xC v25))) (oEnd)))
 (cSeq (cSeq (cOps (oLet (sV ((xW 8))) fun v26 => oLet (sV ((xW 1))) fun v27 => oLet (sV (vLen (xC v27))) fun v28 => oSet 29 (sV (vLt .i64 (xC v26) (xC v28))) fun v29 => oEnd))
 (cCond (xW 29) (cOps (oLet (sV ((xW 1))) fun v31 => oLet (sV ((xW 8))) fun v32 => oLet (sV (vIdx 1 (xC v31) (xC v32))) fun v33 => oLet (sL (lLoad none (xC v33))) fun v34 => oLet (sC 72 [(xC v34)]) fun v35 => oLet (sV (vExtract 0 (xC v35))) fun v36 => oLet (sV (vExtract 1 (xC v35))) fun v37 => oLet (sV (vExtract 2 (xC v35))) fun v38 => oLet (sV (vAddr 2 (xW 9))) fun v39 => oDo (sM (tStore 1 (xC v39) (xC v38))) (oEnd)))
 cSkip))
 (cSeq (cOps (oLet (sV (vFill [.str [], .nilslice, .nilslice, .nilslice, .nilslice, .nilslice] [] [])) fun v40 => oSee (seeL (lLoad (some 6) (xW 9))) fun q1 => oLet (sLo [] 0 (lLoad (some 6) (xW 9))) fun v41 => oCap fun c2 => oDo (sM (tStore 6 (xW 4) (xC v40))) (oCap fun d2 => oLate [q1] <| oCap fun c3 => oDo (sM (tStore 6 (xW 5) (xC v41))) (oCap fun d3 => oEnd))))
 cRet)))))), [.cell (way 4) (some 6), .cell (way 5) (some 6)]⟩
theorem Tryz.k28_c : compF Tryz.prog [11, 12, 10, 13, 14, 15, 16, 18, 19, 20, 21, 22, 23, 24, 25, 26, 27, 28, 31, 32, 33, 34, 35, 30, 36, 37, 38, 39, 40, 41] Tryz.f28 = some Tryz.k28 := by kernel_rfl
def Tryz.k29 : KF := ⟨[(way 0)], (cSeq (cOps (oSet 2 (sV ((xC (.nilptr)))) fun v2 => oSet 3 (sV ((xC (.int .i64 0)))) fun v3 => oSet 4 (sV ((xC (.str [])))) fun v4 => oEnd))
 (cScope (cSeq (cOps (oSet 5 (sV ((xC (.bool false)))) fun v5 => oEnd))
 (cSeq (cOps (oSet 3 (sV ((xC (.int .i64 5)))) fun v3 => oEnd))
 (cSeq (cSeq (cOps (oLet (sV ((xW 0))) fun v16 => oLet (sV (vLen (xC v16))) fun v17 => oSet 18 (sV (vGt .i64 (xC v17) (xC (.int .i64 30)))) fun v18 => oEnd))
 (cCond (xW 18) (cGoto 0)
 cSkip))
 (cSeq (cSeq (cOps (oSet 19 (sV ((xW 0))) fun v19 => oSet 20 (sV (vLen (xC v19))) fun v20 => oSet 21 (sV ((xC (.int .i64 0)))) fun v21 => oEnd))
 (cBlock 0 (cLoop (cSeq (cOps (oSet 22 (sV (vLt .i64 (xW 21) (xW 20))) fun v22 => oEnd))
 (cSeq (cCond (xW 22) cSkip
 (cExit 0))
 (cSeq (cBlock 1 (cSeq (cOps (oLet (sV (vIdx 7 (xW 19) (xW 21))) fun v23 => oLet (sL (lLoad (some 7) (xC v23))) fun v24 => oSet 7 (sN (aAlloc [.str [], .str [], .bool false, .bool false, .nilslice, .nilslice, .nilslice])) fun v7 => oDo (sM (tStore 7 (xC v7) (xC v24))) (oEnd)))
 (cSeq (cOps (oLet (sL (lLoad (some 7) (xW 7))) fun v25 => oCap fun c1 => oLet (sC 73 [(xC v25)]) fun v26 => oCap fun d1 => oLet (sV (vAddr 0 (xW 7))) fun v27 => oLet (sLo [c1] d1.next (lLoad none (xC v27))) fun v28 => oSet 3 (sV ((xC v26))) fun v3 => oSet 4 (sV ((xC v28))) fun v4 => oEnd))
 (cSeq (cOps (oLet (sV ((xW 3))) fun v29 => oSet 30 (sV (vNe .i64 (xC v29) (xC (.int .i64 0)))) fun v30 => oEnd))
 (cCond (xW 30) (cGoto 0)
 cSkip)))))
 (cOps (oLet (sV (vAdd .i64 (xW 21) (xC (.int .i64 1)))) fun v31 => oSet 21 (sV ((xC v31))) fun v21 => oEnd))))))))
 (cSeq (cOps (oSet 3 (sV ((xC (.int .i64 8)))) fun v3 => oEnd))
 (cSeq (cSeq (cOps (oLet (sV ((xW 0))) fun v33 => oLet (sC 74 [(xC v33)]) fun v34 => oLet (sV (vExtract 0 (xC v34))) fun v35 => oLet (sV (vExtract 1 (xC v34))) fun v36 => oSet 4 (sV ((xC v35))) fun v4 => oSet 5 (sV ((xC v36))) fun v5 => oEnd))
 (cSeq (cOps (oSet 37 (sV ((xW 5))) fun v37 => oEnd))
 (cCond (xW 37) (cGoto 0)
 cSkip)))
 (cSeq (cOps (oLet (sC 75 []) fun v38 => oLet (sN (aNewMap)) fun v39 => oLet (sV (vCat [1, 1] [(xC v38), (xC v39)])) fun v40 => oLet (sN (aBox (xC v40))) fun v41 => oSet 2 (sV ((xC v41))) fun v2 => oEnd))
 (cSeq (cSeq (cOps (oSet 42 (sV ((xW 0))) fun v42 => oSet 43 (sV (vLen (xC v42))) fun v43 => oSet 44 (sV ((xC (.int .i64 0)))) fun v44 => oEnd))
 (cBlock 2 (cLoop (cSeq (cOps (oSet 45 (sV (vLt .i64 (xW 44) (xW 43))) fun v45 => oEnd))
 (cSeq (cCond (xW 45) cSkip
 (cExit 2))
 (cSeq (cBlock 3 (cSeq (cOps (oLet (sV (vIdx 7 (xW 42) (xW 44))) fun v46 => oLet (sL (lLoad (some 7) (xC v46))) fun v47 => oSet 9 (sN (aAlloc [.str [], .str [], .bool false, .bool false, .nilslice, .nilslice, .nilslice])) fun v9 => oDo (sM (tStore 7 (xC v9) (xC v47))) (oEnd)))
 (cOps (oLet (sV ((xW 2))) fun v48 => oLet (sV (vNil (xC v48))) fun v50 => oLet (sV (vAddr 0 (xC v50))) fun v51 => oSee (seeL (lLoad none (xC v51))) fun q4 => oLet (sLo [] 0 (lLoad none (xC v51))) fun v52 => oLet (sL (lLoad (some 7) (xW 9))) fun v53 => oCap fun c6 => oLet (sC 76 [(xC v53)]) fun v54 => oCap fun d6 => oLate [q4] <| oLet (sN (aRow 1 7 [7] [(xC v54)])) fun v55 => oCap fun c8 => oLet (sM (tAppend 112 7 (xC v52) (xC v55))) fun v56 => oCap fun d8 => oLet (sV (vNil (xC v48))) fun v57 => oLet (sV (vAddr 0 (xC v57))) fun v58 => oCap fun c11 => oDo (sM (tStore 1 (xC v58) (xC v56))) (oCap fun d11 => oEnd)))))
 (cOps (oLet (sV (vAdd .i64 (xW 44) (xC (.int .i64 1)))) fun v59 => oSet 44 (sV ((xC v59))) fun v44 => oEnd))))))))
 (cSeq (cOps (oLet (sV ((xW 2))) fun v60 => oLet (sV (vNil (xC v60))) fun v61 => oLet (sV (vAddr 0 (xC v61))) fun v62 => oLet (sL (lLoad none (xC v62))) fun v63 => oLet (sC 77 [(xC v63), (xC (.func 78 []))]) fun v64 => oEnd))
 (cSeq (cSeq (cOps (oLet (sV ((xW 2))) fun v65 => oLet (sV (vNil (xC v65))) fun v66 => oLet (sV (vAddr 0 (xC v66))) fun v67 => oSet 68 (sL (lLoad none (xC v67))) fun v68 => oSet 69 (sV (vLen (xC v68))) fun v69 => oSet 70 (sV ((xC (.int .i64 0)))) fun v70 => oEnd))
 (cBlock 4 (cLoop (cSeq (cOps (oSet 71 (sV (vLt .i64 (xW 70) (xW 69))) fun v71 => oEnd))
 (cSeq (cCond (xW 71) cSkip
 (cExit 4))
 (cSeq (cBlock 5 (cSeq (cOps (oLet (sV ((xW 70))) fun v72 => oLet (sV (vIdx 7 (xW 68) (xC v72))) fun v73 => oLet (sL (lLoad (some 7) (xC v73))) fun v74 => oSet 11 (sN (aAlloc [.str [], .str [], .bool false, .bool false, .nilslice, .nilslice, .nilslice])) fun v11 => oSet 10 (sV ((xC v72))) fun v10 => oDo (sM (tStore 7 (xC v11) (xC v74))) (oEnd)))
 (cOps (oLet (sV ((xW 2))) fun v75 => oLet (sV (vNil (xC v75))) fun v76 => oLet (sV (vAddr 1 (xC v76))) fun v77 => oLet (sL (lLoad none (xC v77))) fun v78 => oLet (sV (vAddr 0 (xW 11))) fun v79 => oLet (sL (lLoad none (xC v79))) fun v80 => oLet (sV ((xW 10))) fun v81 => oDo (sM (tMapPut (.one .str) (xC v78) (xC v80) (xC v81))) (oEnd)))))
 (cOps (oLet (sV (vAdd .i64 (xW 70) (xC (.int .i64 1)))) fun v82 => oSet 70 (sV ((xC v82))) fun v70 => oEnd))))))))
 (cSeq (cSeq (cOps (oSet 83 (sN (aRow 7 1 [1, 1, 1, 1, 1, 1, 1] [(xC (.func 80 [])), (xC (.func 81 [])), (xC (.func 82 [])), (xC (.func 83 [])), (xC (.func 84 [])), (xC (.func 85 [])), (xC (.func 86 []))])) fun v83 => oSet 84 (sV (vLen (xC v83))) fun v84 => oSet 85 (sV ((xC (.int .i64 0)))) fun v85 => oEnd))
 (cBlock 6 (cLoop (cSeq (cOps (oSet 86 (sV (vLt .i64 (xW 85) (xW 84))) fun v86 => oEnd))
 (cSeq (cCond (xW 86) cSkip
 (cExit 6))
 (cSeq (cBlock 7 (cSeq (cOps (oLet (sV (vIdx 1 (xW 83) (xW 85))) fun v87 => oLet (sL (lLoad none (xC v87))) fun v88 => oSet 13 (sV ((xC v88))) fun v13 => oEnd))
 (cSeq (cOps (oSet 89 (sV ((xW 0))) fun v89 => oSet 90 (sV (vLen (xC v89))) fun v90 => oSet 91 (sV ((xC (.int .i64 0)))) fun v91 => oEnd))
 (cBlock 8 (cLoop (cSeq (cOps (oSet 92 (sV (vLt .i64 (xW 91) (xW 90))) fun v92 => oEnd))
 (cSeq (cCond (xW 92) cSkip
 (cExit 8))
 (cSeq (cBlock 9 (cSeq (cOps (oLet (sV (vIdx 7 (xW 89) (xW 91))) fun v93 => oLet (sL (lLoad (some 7) (xC v93))) fun v94 => oSet 15 (sN (aAlloc [.str [], .str [], .bool false, .bool false, .nilslice, .nilslice, .nilslice])) fun v15 => oDo (sM (tStore 7 (xC v15) (xC v94))) (oEnd)))
 (cSeq (cOps (oLet (sV (vAddr 0 (xW 15))) fun v95 => oLet (sL (lLoad none (xC v95))) fun v96 => oSet 4 (sV ((xC v96))) fun v4 => oEnd))
 (cSeq (cOps (oLet (sV ((xW 13))) fun v97 => oLet (sV ((xW 2))) fun v98 => oLet (sL (lLoad (some 7) (xW 15))) fun v99 => oLet (sX (xC v97) [(xC v98), (xC v99)]) fun v100 => oSet 101 (sV (vUn .not (xC v100))) fun v101 => oEnd))
 (cCond (xW 101) (cGoto 0)
 cSkip)))))
 (cOps (oLet (sV (vAdd .i64 (xW 91) (xC (.int .i64 1)))) fun v102 => oSet 91 (sV ((xC v102))) fun v91 => oEnd))))))))))
 (cOps (oLet (sV (vAdd .i64 (xW 85) (xC (.int .i64 1)))) fun v103 => oSet 85 (sV ((xC v103))) fun v85 => oEnd))))))))
 (cSeq (cSeq (cOps (oLet (sV ((xW 2))) fun v104 => oSet 2 (sV ((xC v104))) fun v2 => oSet 3 (sV ((xC (.int .i64 0)))) fun v3 => oSet 4 (sV ((xC (.str [])))) fun v4 => oEnd))
 cRet)
 (cSeq cSkip
 (cSeq (cOps (oLet (sV ((xW 3))) fun v105 => oLet (sV ((xW 4))) fun v106 => oSet 2 (sV ((xC (.nilptr)))) fun v2 => oSet 3 (sV ((xC v105))) fun v3 => oSet 4 (sV ((xC v106))) fun v4 => oEnd))
 cRet)))))))))))))) [(0, (cSeq cSkip
 (cSeq (cOps (oLet (sV ((xW 3))) fun v105 => oLet (sV ((xW 4))) fun v106 => oSet 2 (sV ((xC (.nilptr)))) fun v2 => oSet 3 (sV ((xC v105))) fun v3 => oSet 4 (sV ((xC v106))) fun v4 => oEnd))
 cRet)))])), [.tmp (way 2), .tmp (way 3), .tmp (way 4)]⟩
theorem Tryz.k29_c : compF Tryz.prog [16, 17, 23, 24, 25, 26, 27, 28, 29, 31, 33, 34, 32, 35, 36, 38, 39, 40, 41, 46, 47, 48, 49, 50, 51, 52, 53, 54, 55, 56, 57, 58, 59, 60, 61, 62, 63, 64, 65, 66, 67, 72, 73, 74, 75, 76, 77, 78, 79, 80, 81, 82, 87, 88, 93, 94, 95, 96, 97, 98, 99, 100, 102, 103, 104, 105, 106] Tryz.f29 = some Tryz.k29 := by kernel_rfl
def Tryz.k34 : KF := ⟨[(way 0), (way 1)], (cSeq (cOps (oSet 4 (sN (aAlloc [.str [], .nilslice, .nilslice, .nilslice, .nilslice, .nilslice])) fun v4 => oSet 5 (sV ((xC (.int .i64 0)))) fun v5 => oEnd))
 (cSeq (cOps (oLet (sV ((xW 0))) fun v11 => oLet (sV ((xW 1))) fun v12 => oLet (sC 96 [(xC v11), (xC v12)]) fun v13 => oLet (sV (vExtract 0 (xC v13))) fun v14 => oLet (sV (vExtract 1 (xC v13))) fun v15 => oSet 6 (sN (aAlloc [.nilslice, .nilslice, .nilslice, .nilslice])) fun v6 => oDo (sM (tStore 4 (xC v6) (xC v14))) (oSet 7 (sV ((xC v15))) fun v7 => oEnd)))
 (cSeq (cSeq (cOps (oLet (sV ((xW 7))) fun v16 => oSet 17 (sV (vNe .i64 (xC v16) (xC (.int .i64 0)))) fun v17 => oEnd))
 (cCond (xW 17) (cSeq (cOps (oLet (sV (vFill [.str [], .nilslice, .nilslice, .nilslice, .nilslice, .nilslice] [] [])) fun v18 => oLet (sV ((xW 7))) fun v19 => oDo (sM (tStore 6 (xW 4) (xC v18))) (oSet 5 (sV ((xC v19))) fun v5 => oEnd)))
 cRet)
 cSkip))
 (cSeq (cOps (oLet (sV ((xW 0))) fun v21 => oLet (sC 97 [(xC v21)]) fun v22 => oLet (sV (vExtract 0 (xC v22))) fun v23 => oLet (sV (vExtract 1 (xC v22))) fun v24 => oSet 8 (sV ((xC v23))) fun v8 => oEnd))
 (cSeq (cOps (oLet (sV ((xW 1))) fun v25 => oLet (sV ((xW 8))) fun v26 => oCap fun c2 => oLet (sC 98 [(xC v26)]) fun v27 => oCap fun d2 => oLet (sV (vAddr 0 (xW 6))) fun v28 => oLet (sLo [c2] d2.next (lLoad none (xC v28))) fun v29 => oLet (sV (vAddr 1 (xW 6))) fun v30 => oLet (sLo [c2] d2.next (lLoad none (xC v30))) fun v31 => oLet (sV (vAddr 2 (xW 6))) fun v32 => oLet (sLo [c2] d2.next (lLoad none (xC v32))) fun v33 => oLet (sV (vAddr 3 (xW 6))) fun v34 => oLet (sLo [c2] d2.next (lLoad none (xC v34))) fun v35 => oLet (sV (vCat [1, 1, 1, 1, 1, 1] [(xC v25), (xC v27), (xC v29), (xC v31), (xC v33), (xC v35)])) fun v36 => oCap fun c12 => oDo (sM (tStore 6 (xW 4) (xC v36))) (oCap fun d12 => oSet 5 (sV ((xC (.int .i64 0)))) fun v5 => oEnd)))
 cRet))))), [.cell (way 4) (some 6), .tmp (way 5)]⟩
theorem Tryz.k34_c : compF Tryz.prog [11, 12, 13, 10, 14, 15, 16, 18, 19, 21, 22, 20, 23, 24, 9, 25, 26, 27, 28, 29, 30, 31, 32, 33, 34, 35, 36] Tryz.f34 = some Tryz.k34 := by kernel_rfl
def Tryz.k35 : KF := ⟨[(way 0), (way 1)], (cSeq (cOps (oSet 4 (sV ((xC (.nilptr)))) fun v4 => oEnd))
 (cSeq (cOps (oLet (sV ((xW 0))) fun v5 => oLet (sV ((xW 1))) fun v6 => oLet (sC 99 [(xC v5), (xC v6), (xC (.int .i64 1)), (xC (.int .i64 0)), (xC (.int .i64 255))]) fun v7 => oSet 4 (sV ((xC v7))) fun v4 => oEnd))
 cRet)), [.tmp (way 4)]⟩
theorem Tryz.k35_c : compF Tryz.prog [5, 6, 7] Tryz.f35 = some Tryz.k35 := by kernel_rfl
def Tryz.k37 : KF := ⟨[(way 0), (way 1)], (cSeq (cOps (oSet 4 (sV ((xC (.nilptr)))) fun v4 => oEnd))
 (cSeq (cOps (oLet (sV ((xW 0))) fun v5 => oLet (sV ((xW 1))) fun v6 => oLet (sV (vLenS (xC v6))) fun v7 => oLet (sC 38 [(xC v5), (xC v7)]) fun v8 => oEnd))
 (cSeq (cSeq (cOps (oLet (sV ((xW 0))) fun v9 => oLet (sL (lNe (.ptr true) (xC v9) (xC (.nilptr)))) fun v10 => oLet (sG (xC v10) true (sV ((xC v9)))) fun v12 => oLet (sG (xC v10) true (sV (vNil (xC v12)))) fun v13 => oLet (sG (xC v10) true (sV (vAddr 1 (xC v13)))) fun v14 => oLet (sG (xC v10) true (sL (lLoad none (xC v14)))) fun v15 => oLet (sG (xC v10) true (sV (vUn .not (xC v15)))) fun v16 => oSet 17 (sV (vPick (xC v10) (xC v16) (xC (.bool false)))) fun v17 => oEnd))
 (cCond (xW 17) (cOps (oLet (sV ((xW 0))) fun v18 => oLet (sV (vNil (xC v18))) fun v20 => oLet (sV (vAddr 0 (xC v20))) fun v21 => oLet (sL (lLoad none (xC v21))) fun v22 => oLet (sV ((xW 1))) fun v23 => oLet (sM (tAppend 1 1 (xC v22) (xC v23))) fun v24 => oLet (sV (vNil (xC v18))) fun v25 => oLet (sV (vAddr 0 (xC v25))) fun v26 => oDo (sM (tStore 1 (xC v26) (xC v24))) (oEnd)))
 cSkip))
 (cSeq (cOps (oLet (sV ((xW 0))) fun v27 => oSet 4 (sV ((xC v27))) fun v4 => oEnd))
 cRet)))), [.tmp (way 4)]⟩
theorem Tryz.k37_c : compF Tryz.prog [5, 6, 7, 8, 9, 10, 11, 12, 13, 14, 15, 16, 18, 19, 20, 21, 22, 23, 24, 25, 26, 27] Tryz.f37 = some Tryz.k37 := by kernel_rfl
def Tryz.k38 : KF := ⟨[(way 0), (way 1)], (cSeq (cOps (oSet 4 (sV ((xC (.nilptr)))) fun v4 => oEnd))
 (cSeq (cOps (oLet (sV ((xW 0))) fun v5 => oLet (sV ((xW 1))) fun v6 => oLet (sC 99 [(xC v5), (xC v6), (xC (.int .i64 2)), (xC (.int .i64 0)), (xC (.int .i64 65535))]) fun v7 => oSet 4 (sV ((xC v7))) fun v4 => oEnd))
 cRet)), [.tmp (way 4)]⟩
theorem Tryz.k38_c : compF Tryz.prog [5, 6, 7] Tryz.f38 = some Tryz.k38 := by kernel_rfl
def Tryz.k39 : KF := ⟨[(way 0)], (cSeq (cOps (oSet 2 (sV ((xC (.nilslice)))) fun v2 => oEnd))
 (cSeq (cSeq (cOps (oLet (sV ((xW 0))) fun v3 => oSet 4 (sC 100 [(xC v3)]) fun v4 => oEnd))
 (cCond (xW 4) (cSeq (cOps (oSet 2 (sV ((xC (.nilslice)))) fun v2 => oEnd))
 cRet)
 cSkip))
 (cSeq (cOps (oLet (sV ((xW 0))) fun v5 => oLet (sV (vNil (xC v5))) fun v6 => oLet (sV (vAddr 0 (xC v6))) fun v7 => oLet (sL (lLoad none (xC v7))) fun v8 => oLet (sC 101 [(xC v8)]) fun v9 => oSet 2 (sV ((xC v9))) fun v2 => oEnd))
 cRet))), [.tmp (way 2)]⟩
theorem Tryz.k39_c : compF Tryz.prog [3, 5, 6, 7, 8, 9] Tryz.f39 = some Tryz.k39 := by kernel_rfl
def Tryz.k40 : KF := ⟨[(way 0)], (cSeq (cOps (oSet 2 (sV ((xC (.nilptr)))) fun v2 => oEnd))
 (cSeq (cOps (oLet (sV ((xW 0))) fun v3 => oLet (sC 101 [(xC v3)]) fun v4 => oLet (sV (vFill [.nilslice, .int .i64 0, .bool false] [(0, 1)] [(xC v4)])) fun v5 => oLet (sN (aBox (xC v5))) fun v6 => oSet 2 (sV ((xC v6))) fun v2 => oEnd))
 cRet)), [.tmp (way 2)]⟩
theorem Tryz.k40_c : compF Tryz.prog [3, 4, 5, 6] Tryz.f40 = some Tryz.k40 := by kernel_rfl
def Tryz.k41 : KF := ⟨[(way 0)], (cSeq (cOps (oSet 2 (sV ((xC (.int .i64 0)))) fun v2 => oEnd))
 (cSeq (cOps (oLet (sV ((xW 0))) fun v3 => oLet (sC 102 [(xC v3), (xC (.int .i64 1))]) fun v4 => oSet 2 (sV ((xC v4))) fun v2 => oEnd))
 cRet)), [.tmp (way 2)]⟩
theorem Tryz.k41_c : compF Tryz.prog [3, 4] Tryz.f41 = some Tryz.k41 := by kernel_rfl
def Tryz.k42 : KF := ⟨[(way 0)], (cSeq (cOps (oSet 2 (sV ((xC (.str [])))) fun v2 => oEnd))
 (cSeq (cOps (oLet (sV ((xW 0))) fun v7 => oLet (sC 103 [(xC v7)]) fun v8 => oSet 3 (sV ((xC v8))) fun v3 => oEnd))
 (cSeq (cOps (oLet (sV ((xW 0))) fun v9 => oLet (sC 47 [(xC v9)]) fun v10 => oSet 4 (sV ((xC v10))) fun v4 => oEnd))
 (cSeq (cOps (oLet (sV ((xW 0))) fun v12 => oLet (sV ((xW 4))) fun v13 => oLet (sV ((xW 3))) fun v14 => oLet (sC 104 [(xC v12), (xC v13), (xC v14)]) fun v15 => oLet (sV (vExtract 0 (xC v15))) fun v16 => oLet (sV (vExtract 1 (xC v15))) fun v17 => oSet 5 (sV ((xC v16))) fun v5 => oEnd))
 (cSeq (cOps (oLet (sV ((xW 5))) fun v18 => oLet (sL (lToStr (xC v18))) fun v19 => oSet 2 (sV ((xC v19))) fun v2 => oEnd))
 cRet))))), [.tmp (way 2)]⟩
theorem Tryz.k42_c : compF Tryz.prog [7, 8, 9, 10, 12, 13, 14, 15, 11, 16, 17, 6, 18, 19] Tryz.f42 = some Tryz.k42 := by kernel_rfl
def Tryz.k47 : KF := ⟨[(way 0)], (cSeq (cOps (oSet 2 (sV ((xC (.int .i64 0)))) fun v2 => oEnd))
 (cSeq (cOps (oLet (sV ((xW 0))) fun v3 => oLet (sC 102 [(xC v3), (xC (.int .i64 2))]) fun v4 => oSet 2 (sV ((xC v4))) fun v2 => oEnd))
 cRet)), [.tmp (way 2)]⟩
theorem Tryz.k47_c : compF Tryz.prog [3, 4] Tryz.f47 = some Tryz.k47 := by kernel_rfl
def Tryz.k48 : KF := ⟨[(way 0), (way 1)], (cSeq (cOps (oSet 4 (sV ((xC (.bool false)))) fun v4 => oEnd))
 (cSeq (cSeq (cOps (oLet (sV ((xW 0))) fun v6 => oLet (sV (vLen (xC v6))) fun v7 => oLet (sV ((xW 1))) fun v8 => oLet (sV (vLen (xC v8))) fun v9 => oSet 10 (sV (vNe .i64 (xC v7) (xC v9))) fun v10 => oEnd))
 (cCond (xW 10) (cSeq (cOps (oSet 4 (sV ((xC (.bool false)))) fun v4 => oEnd))
 cRet)
 cSkip))
 (cSeq (cSeq (cOps (oLet (sV ((xW 0))) fun v11 => oSet 12 (sV (vLen (xC v11))) fun v12 => oSet 13 (sV ((xC (.int .i64 0)))) fun v13 => oEnd))
 (cBlock 0 (cLoop (cSeq (cOps (oSet 14 (sV (vLt .i64 (xW 13) (xW 12))) fun v14 => oEnd))
 (cSeq (cCond (xW 14) cSkip
 (cExit 0))
 (cSeq (cBlock 1 (cSeq (cOps (oLet (sV ((xW 13))) fun v15 => oSet 5 (sV ((xC v15))) fun v5 => oEnd))
 (cSeq (cOps (oLet (sV ((xW 0))) fun v16 => oLet (sV ((xW 5))) fun v17 => oLet (sV (vIdx 1 (xC v16) (xC v17))) fun v18 => oLet (sL (lLoad none (xC v18))) fun v19 => oLet (sV ((xW 1))) fun v20 => oLet (sV (vIdx 1 (xC v20) (xC v17))) fun v22 => oLet (sL (lLoad none (xC v22))) fun v23 => oSet 24 (sV (vNe .u8 (xC v19) (xC v23))) fun v24 => oEnd))
 (cCond (xW 24) (cSeq (cOps (oSet 4 (sV ((xC (.bool false)))) fun v4 => oEnd))
 cRet)
 cSkip))))
 (cOps (oLet (sV (vAdd .i64 (xW 13) (xC (.int .i64 1)))) fun v25 => oSet 13 (sV ((xC v25))) fun v13 => oEnd))))))))
 (cSeq (cOps (oSet 4 (sV ((xC (.bool true)))) fun v4 => oEnd))
 cRet)))), [.tmp (way 4)]⟩
theorem Tryz.k48_c : compF Tryz.prog [6, 7, 8, 9, 11, 15, 16, 17, 18, 19, 20, 21, 22, 23, 25] Tryz.f48 = some Tryz.k48 := by kernel_rfl
def Tryz.k52 : KF := ⟨[(way 0)], (cSeq (cOps (oSet 2 (sV ((xC (.nilslice)))) fun v2 => oEnd))
 (cSeq (cOps (oLet (sV ((xW 0))) fun v3 => oLet (sV (vLenS (xC v3))) fun v4 => oLet (sC 55 [(xC v4), (xC (.int .i64 2))]) fun v5 => oLet (sM (tAppend 1 1 (xC v5) (xC v3))) fun v7 => oSet 2 (sV ((xC v7))) fun v2 => oEnd))
 cRet)), [.tmp (way 2)]⟩
theorem Tryz.k52_c : compF Tryz.prog [3, 4, 5, 6, 7] Tryz.f52 = some Tryz.k52 := by kernel_rfl
def Tryz.k55 : KF := ⟨[(way 0), (way 1)], (cSeq (cOps (oSet 4 (sV ((xC (.nilslice)))) fun v4 => oEnd))
 (cSeq (cOps (oLet (sV ((xW 1))) fun v7 => oLet (sN (aMakeSlice 1 1 [.int .u8 0] (xC v7) (xC v7))) fun v8 => oSet 5 (sV ((xC v8))) fun v5 => oEnd))
 (cSeq (cSeq (cOps (oSet 6 (sV ((xC (.int .i64 0)))) fun v6 => oEnd))
 (cBlock 0 (cLoop (cSeq (cSeq (cOps (oLet (sV ((xW 6))) fun v9 => oLet (sV ((xW 1))) fun v10 => oSet 11 (sV (vLt .i64 (xC v9) (xC v10))) fun v11 => oEnd))
 (cCond (xW 11) cSkip
 (cExit 0)))
 (cSeq (cBlock 1 (cOps (oLet (sV ((xW 5))) fun v14 => oLet (sV ((xW 1))) fun v15 => oLet (sV (vSub .i64 (xC v15) (xC (.int .i64 1)))) fun v16 => oLet (sV ((xW 6))) fun v17 => oLet (sV (vSub .i64 (xC v16) (xC v17))) fun v18 => oLet (sV ((xW 0))) fun v19 => oLet (sV (vToI .u64 (xC v19))) fun v20 => oLet (sV (vMul .i64 (xC (.int .i64 8)) (xC v17))) fun v22 => oLet (sV (vSh .shr .u64 (xC v20) (xC v22))) fun v23 => oLet (sV (vToI .u8 (xC v23))) fun v24 => oLet (sV (vIdx 1 (xC v14) (xC v18))) fun v25 => oDo (sM (tStore 1 (xC v25) (xC v24))) (oEnd))))
 (cOps (oLet (sV ((xW 6))) fun v12 => oLet (sV (vAdd .i64 (xC v12) (xC (.int .i64 1)))) fun v13 => oSet 6 (sV ((xC v13))) fun v6 => oEnd)))))))
 (cSeq (cOps (oLet (sV ((xW 5))) fun v26 => oSet 4 (sV ((xC v26))) fun v4 => oEnd))
 cRet)))), [.tmp (way 4)]⟩
theorem Tryz.k55_c : compF Tryz.prog [7, 8, 9, 10, 14, 15, 16, 17, 18, 19, 20, 21, 22, 23, 24, 25, 12, 13, 26] Tryz.f55 = some Tryz.k55 := by kernel_rfl
def Tryz.k63 : KF := ⟨[(way 0), (way 1)], (cSeq (cOps (oSet 4 (sN (aAlloc [.str [], .nilslice, .nilslice, .nilslice, .nilslice, .nilslice])) fun v4 => oSet 5 (sN (aAlloc [.int .i64 0, .int .i64 0, .int .i64 0, .str [], .int .i64 0, .int .i64 0])) fun v5 => oEnd))
 (cSeq (cOps (oLet (sV ((xW 1))) fun v11 => oLet (sC 29 [(xC v11)]) fun v12 => oLet (sV (vExtract 0 (xC v12))) fun v13 => oLet (sV (vExtract 1 (xC v12))) fun v14 => oLet (sV (vExtract 2 (xC v12))) fun v15 => oSet 8 (sN (aAlloc [.str []])) fun v8 => oSet 6 (sV ((xC v13))) fun v6 => oSet 7 (sV ((xC v14))) fun v7 => oDo (sM (tStore 1 (xC v8) (xC v15))) (oEnd)))
 (cSeq (cSeq (cOps (oLet (sV ((xW 7))) fun v16 => oSet 17 (sV (vEq .i64 (xC v16) (xC (.int .i64 0)))) fun v17 => oEnd))
 (cCond (xW 17) (cSeq (cOps (oLet (sV ((xW 6))) fun v18 => oLet (sV ((xW 0))) fun v19 => oLet (sC 71 [(xC v18), (xC v19)]) fun v20 => oLet (sV (vExtract 0 (xC v20))) fun v21 => oLet (sV (vExtract 1 (xC v20))) fun v22 => oDo (sM (tStore 6 (xW 4) (xC v21))) (oDo (sM (tStore 6 (xW 5) (xC v22))) (oEnd))))
 cRet)
 cSkip))
 (cSeq (cOps (oLet (sV ((xW 1))) fun v23 => oLet (sV (vFunc 110 [(xW 8)])) fun v24 => oLet (sC 109 [(xC v23), (xC v24)]) fun v25 => oSet 9 (sV ((xC v25))) fun v9 => oEnd))
 (cSeq (cSeq (cOps (oLet (sL (lLoad none (xW 8))) fun v26 => oSet 27 (sV (vSEq (xC v26) (xC (.str [])))) fun v27 => oEnd))
 (cCond (xW 27) (cOps (oSet 9 (sV ((xC (.int .i64 0)))) fun v9 => oEnd))
 cSkip))
 (cSeq (cOps (oLet (sV (vFill [.str [], .nilslice, .nilslice, .nilslice, .nilslice, .nilslice] [] [])) fun v28 => oLet (sV ((xW 7))) fun v29 => oLet (sV ((xW 9))) fun v30 => oLet (sV (vMax true [(xC v30), (xC (.int .i64 0))])) fun v31 => oLet (sV (vFill [.int .i64 0, .int .i64 0, .int .i64 0, .str [], .int .i64 0, .int .i64 0] [(0, 1), (1, 1)] [(xC v29), (xC v31)])) fun v32 => oDo (sM (tStore 6 (xW 4) (xC v28))) (oDo (sM (tStore 6 (xW 5) (xC v32))) (oEnd))))
 cRet)))))), [.cell (way 4) (some 6), .cell (way 5) (some 6)]⟩
theorem Tryz.k63_c : compF Tryz.prog [11, 12, 10, 13, 14, 15, 16, 18, 19, 20, 21, 22, 23, 24, 25, 26, 28, 29, 30, 31, 32] Tryz.f63 = some Tryz.k63 := by kernel_rfl
def Tryz.k65 : KF := ⟨[(way 0)], (cSeq (cOps (oSet 1 (sN (aBox (xW 0))) fun v1 => oSet 2 (sV ((xC (.int .i64 0)))) fun v2 => oEnd))
 (cSeq (cSeq (cOps (oLet (sV (vAddr 0 (xW 1))) fun v7 => oLet (sL (lLoad none (xC v7))) fun v8 => oLet (sC 112 [(xC v8)]) fun v9 => oLet (sV (vUn .not (xC v9))) fun v10 => oLet (sG (xC v10) false (sV (vAddr 1 (xW 1)))) fun v12 => oLet (sG (xC v10) false (sL (lLoad none (xC v12)))) fun v13 => oLet (sG (xC v10) false (sV (vSNe (xC v13) (xC (.str []))))) fun v14 => oLet (sG (xC v10) false (sV ((xC v14)))) fun v15 => oLet (sG (xC v15) true (sV (vAddr 1 (xW 1)))) fun v16 => oLet (sG (xC v15) true (sL (lLoad none (xC v16)))) fun v17 => oLet (sG (xC v15) true (sC 112 [(xC v17)])) fun v18 => oLet (sG (xC v15) true (sV (vUn .not (xC v18)))) fun v19 => oLet (sG (xC v10) false (sV (vPick (xC v15) (xC v19) (xC (.bool false))))) fun v20 => oSet 21 (sV (vPick (xC v10) (xC (.bool true)) (xC v20))) fun v21 => oEnd))
 (cCond (xW 21) (cSeq (cOps (oSet 2 (sV ((xC (.int .i64 6)))) fun v2 => oEnd))
 cRet)
 cSkip))
 (cSeq (cSeq (cOps (oSet 3 (sV ((xC (.int .i64 0)))) fun v3 => oEnd))
 (cBlock 0 (cLoop (cSeq (cSeq (cOps (oLet (sV ((xW 3))) fun v22 => oLet (sV (vAddr 4 (xW 1))) fun v23 => oLet (sL (lLoad none (xC v23))) fun v24 => oLet (sV (vLen (xC v24))) fun v25 => oSet 26 (sV (vLt .i64 (xC v22) (xC v25))) fun v26 => oEnd))
 (cCond (xW 26) cSkip
 (cExit 0)))
 (cSeq (cBlock 1 (cSeq (cOps (oLet (sV (vAddr 4 (xW 1))) fun v29 => oLet (sL (lLoad none (xC v29))) fun v30 => oLet (sV ((xW 3))) fun v31 => oLet (sV (vIdx 1 (xC v30) (xC v31))) fun v32 => oLet (sL (lLoad none (xC v32))) fun v33 => oLet (sC 112 [(xC v33)]) fun v34 => oSet 35 (sV (vUn .not (xC v34))) fun v35 => oEnd))
 (cCond (xW 35) (cSeq (cOps (oSet 2 (sV ((xC (.int .i64 6)))) fun v2 => oEnd))
 cRet)
 cSkip)))
 (cOps (oLet (sV ((xW 3))) fun v27 => oLet (sV (vAdd .i64 (xC v27) (xC (.int .i64 1)))) fun v28 => oSet 3 (sV ((xC v28))) fun v3 => oEnd)))))))
 (cSeq (cSeq (cOps (oLet (sV (vAddr 4 (xW 1))) fun v36 => oLet (sL (lLoad none (xC v36))) fun v37 => oLet (sV (vLen (xC v37))) fun v38 => oLet (sV (vGt .i64 (xC v38) (xC (.int .i64 30)))) fun v39 => oLet (sG (xC v39) false (sV (vAddr 5 (xW 1)))) fun v41 => oLet (sG (xC v39) false (sL (lLoad none (xC v41)))) fun v42 => oLet (sG (xC v39) false (sV (vLen (xC v42)))) fun v43 => oLet (sG (xC v39) false (sV (vGt .i64 (xC v43) (xC (.int .i64 20))))) fun v44 => oLet (sV (vPick (xC v39) (xC (.bool true)) (xC v44))) fun v45 => oLet (sG (xC v45) false (sV (vAddr 6 (xW 1)))) fun v47 => oLet (sG (xC v45) false (sL (lLoad none (xC v47)))) fun v48 => oLet (sG (xC v45) false (sV (vLen (xC v48)))) fun v49 => oLet (sG (xC v45) false (sV (vGt .i64 (xC v49) (xC (.int .i64 20))))) fun v50 => oSet 51 (sV (vPick (xC v45) (xC (.bool true)) (xC v50))) fun v51 => oEnd))
 (cCond (xW 51) (cSeq (cOps (oSet 2 (sV ((xC (.int .i64 5)))) fun v2 => oEnd))
 cRet)
 cSkip))
 (cSeq (cSeq (cOps (oSet 4 (sV ((xC (.int .i64 0)))) fun v4 => oEnd))
 (cBlock 2 (cLoop (cSeq (cSeq (cOps (oLet (sV ((xW 4))) fun v52 => oLet (sV (vAddr 5 (xW 1))) fun v53 => oLet (sL (lLoad none (xC v53))) fun v54 => oLet (sV (vLen (xC v54))) fun v55 => oSet 56 (sV (vLt .i64 (xC v52) (xC v55))) fun v56 => oEnd))
 (cCond (xW 56) cSkip
 (cExit 2)))
 (cSeq (cBlock 3 (cSeq (cOps (oLet (sV (vAddr 5 (xW 1))) fun v59 => oLet (sL (lLoad none (xC v59))) fun v60 => oLet (sV ((xW 4))) fun v61 => oLet (sV (vIdx 3 (xC v60) (xC v61))) fun v62 => oLet (sV (vAddr 0 (xC v62))) fun v63 => oLet (sL (lLoad none (xC v63))) fun v64 => oLet (sC 112 [(xC v64)]) fun v65 => oLet (sV (vUn .not (xC v65))) fun v66 => oLet (sG (xC v66) false (sV (vAddr 5 (xW 1)))) fun v68 => oLet (sG (xC v66) false (sL (lLoad none (xC v68)))) fun v69 => oLet (sG (xC v66) false (sV ((xC v61)))) fun v70 => oLet (sG (xC v66) false (sV (vIdx 3 (xC v69) (xC v70)))) fun v71 => oLet (sG (xC v66) false (sV (vAddr 1 (xC v71)))) fun v72 => oLet (sG (xC v66) false (sL (lLoad none (xC v72)))) fun v73 => oLet (sG (xC v66) false (sC 113 [(xC v73)])) fun v74 => oLet (sG (xC v66) false (sV (vUn .not (xC v74)))) fun v75 => oSet 76 (sV (vPick (xC v66) (xC (.bool true)) (xC v75))) fun v76 => oEnd))
 (cCond (xW 76) (cSeq (cOps (oSet 2 (sV ((xC (.int .i64 6)))) fun v2 => oEnd))
 cRet)
 cSkip)))
 (cOps (oLet (sV ((xW 4))) fun v57 => oLet (sV (vAdd .i64 (xC v57) (xC (.int .i64 1)))) fun v58 => oSet 4 (sV ((xC v58))) fun v4 => oEnd)))))))
 (cSeq (cSeq (cOps (oSet 5 (sV ((xC (.int .i64 0)))) fun v5 => oEnd))
 (cBlock 4 (cLoop (cSeq (cSeq (cOps (oLet (sV ((xW 5))) fun v77 => oLet (sV (vAddr 6 (xW 1))) fun v78 => oLet (sL (lLoad none (xC v78))) fun v79 => oLet (sV (vLen (xC v79))) fun v80 => oSet 81 (sV (vLt .i64 (xC v77) (xC v80))) fun v81 => oEnd))
 (cCond (xW 81) cSkip
 (cExit 4)))
 (cSeq (cBlock 5 (cSeq (cOps (oLet (sV (vAddr 6 (xW 1))) fun v84 => oLet (sL (lLoad none (xC v84))) fun v85 => oLet (sV ((xW 5))) fun v86 => oLet (sV (vIdx 8 (xC v85) (xC v86))) fun v87 => oLet (sL (lLoad (some 8) (xC v87))) fun v88 => oLet (sC 114 [(xC v88)]) fun v89 => oSet 6 (sV ((xC v89))) fun v6 => oEnd))
 (cSeq (cOps (oLet (sV ((xW 6))) fun v90 => oSet 91 (sV (vNe .i64 (xC v90) (xC (.int .i64 0)))) fun v91 => oEnd))
 (cCond (xW 91) (cSeq (cOps (oLet (sV ((xW 6))) fun v92 => oSet 2 (sV ((xC v92))) fun v2 => oEnd))
 cRet)
 cSkip))))
 (cOps (oLet (sV ((xW 5))) fun v82 => oLet (sV (vAdd .i64 (xC v82) (xC (.int .i64 1)))) fun v83 => oSet 5 (sV ((xC v83))) fun v5 => oEnd)))))))
 (cSeq (cSeq (cOps (oLet (sL (lLoad (some 7) (xW 1))) fun v93 => oLet (sC 66 [(xC v93)]) fun v94 => oLet (sV (vLen (xC v94))) fun v95 => oSet 96 (sV (vGt .i64 (xC v95) (xC (.int .i64 500)))) fun v96 => oEnd))
 (cCond (xW 96) (cSeq (cOps (oSet 2 (sV ((xC (.int .i64 5)))) fun v2 => oEnd))
 cRet)
 cSkip))
 (cSeq (cOps (oSet 2 (sV ((xC (.int .i64 0)))) fun v2 => oEnd))
 cRet)))))))), [.tmp (way 2)]⟩
theorem Tryz.k65_c : compF Tryz.prog [7, 8, 9, 10, 11, 12, 13, 14, 15, 16, 17, 18, 19, 20, 22, 23, 24, 25, 29, 30, 31, 32, 33, 34, 27, 28, 36, 37, 38, 39, 40, 41, 42, 43, 44, 45, 46, 47, 48, 49, 50, 52, 53, 54, 55, 59, 60, 61, 62, 63, 64, 65, 66, 67, 68, 69, 70, 71, 72, 73, 74, 75, 57, 58, 77, 78, 79, 80, 84, 85, 86, 87, 88, 89, 90, 92, 82, 83, 93, 94, 95] Tryz.f65 = some Tryz.k65 := by kernel_rfl
def Tryz.k66 : KF := ⟨[(way 0)], (cSeq (cOps (oSet 1 (sN (aBox (xW 0))) fun v1 => oSet 2 (sV ((xC (.nilslice)))) fun v2 => oEnd))
 (cSeq (cOps (oLet (sV (vAddr 0 (xW 1))) fun v14 => oLet (sL (lLoad none (xC v14))) fun v15 => oLet (sV (vAddr 1 (xW 1))) fun v16 => oLet (sL (lLoad none (xC v16))) fun v17 => oLet (sN (aRow 2 1 [1, 1] [(xC v15), (xC v17)])) fun v18 => oLet (sV (vAddr 4 (xW 1))) fun v19 => oLet (sL (lLoad none (xC v19))) fun v20 => oLet (sM (tAppend 16 1 (xC v18) (xC v20))) fun v21 => oSet 3 (sV ((xC v21))) fun v3 => oEnd))
 (cSeq (cSeq (cOps (oSet 4 (sV ((xC (.int .i64 0)))) fun v4 => oEnd))
 (cBlock 0 (cLoop (cSeq (cSeq (cOps (oLet (sV ((xW 4))) fun v22 => oLet (sV (vAddr 5 (xW 1))) fun v23 => oLet (sL (lLoad none (xC v23))) fun v24 => oLet (sV (vLen (xC v24))) fun v25 => oSet 26 (sV (vLt .i64 (xC v22) (xC v25))) fun v26 => oEnd))
 (cCond (xW 26) cSkip
 (cExit 0)))
 (cSeq (cBlock 1 (cOps (oLet (sV ((xW 3))) fun v29 => oLet (sV (vAddr 5 (xW 1))) fun v30 => oLet (sL (lLoad none (xC v30))) fun v31 => oLet (sV ((xW 4))) fun v32 => oLet (sV (vIdx 3 (xC v31) (xC v32))) fun v33 => oLet (sV (vAddr 0 (xC v33))) fun v34 => oLet (sL (lLoad none (xC v34))) fun v35 => oLet (sV (vAddr 5 (xW 1))) fun v36 => oLet (sL (lLoad none (xC v36))) fun v37 => oLet (sV (vIdx 3 (xC v37) (xC v32))) fun v39 => oLet (sV (vAddr 1 (xC v39))) fun v40 => oLet (sL (lLoad none (xC v40))) fun v41 => oLet (sN (aRow 2 1 [1, 1] [(xC v35), (xC v41)])) fun v42 => oLet (sM (tAppend 16 1 (xC v29) (xC v42))) fun v43 => oSet 3 (sV ((xC v43))) fun v3 => oEnd)))
 (cOps (oLet (sV ((xW 4))) fun v27 => oLet (sV (vAdd .i64 (xC v27) (xC (.int .i64 1)))) fun v28 => oSet 4 (sV ((xC v28))) fun v4 => oEnd)))))))
 (cSeq (cSeq (cOps (oSet 5 (sV ((xC (.int .i64 0)))) fun v5 => oEnd))
 (cBlock 2 (cLoop (cSeq (cSeq (cOps (oLet (sV ((xW 5))) fun v44 => oLet (sV (vAddr 6 (xW 1))) fun v45 => oLet (sL (lLoad none (xC v45))) fun v46 => oLet (sV (vLen (xC v46))) fun v47 => oSet 48 (sV (vLt .i64 (xC v44) (xC v47))) fun v48 => oEnd))
 (cCond (xW 48) cSkip
 (cExit 2)))
 (cSeq (cBlock 3 (cSeq (cOps (oLet (sV (vAddr 6 (xW 1))) fun v51 => oLet (sL (lLoad none (xC v51))) fun v52 => oLet (sV ((xW 5))) fun v53 => oLet (sV (vIdx 8 (xC v52) (xC v53))) fun v54 => oLet (sL (lLoad (some 8) (xC v54))) fun v55 => oSet 6 (sN (aAlloc [.str [], .str [], .bool false, .bool false, .int .i64 0, .int .i64 0, .nilslice, .nilslice])) fun v6 => oDo (sM (tStore 8 (xC v6) (xC v55))) (oEnd)))
 (cSeq (cOps (oLet (sV ((xW 3))) fun v56 => oLet (sV (vAddr 0 (xW 6))) fun v57 => oLet (sL (lLoad none (xC v57))) fun v58 => oLet (sV (vAddr 1 (xW 6))) fun v59 => oLet (sL (lLoad none (xC v59))) fun v60 => oLet (sN (aRow 2 1 [1, 1] [(xC v58), (xC v60)])) fun v61 => oLet (sM (tAppend 16 1 (xC v56) (xC v61))) fun v62 => oSet 3 (sV ((xC v62))) fun v3 => oEnd))
 (cSeq (cSeq (cOps (oSet 7 (sV ((xC (.int .i64 0)))) fun v7 => oEnd))
 (cBlock 4 (cLoop (cSeq (cSeq (cOps (oLet (sV ((xW 7))) fun v63 => oLet (sV (vAddr 6 (xW 6))) fun v64 => oLet (sL (lLoad none (xC v64))) fun v65 => oLet (sV (vLen (xC v65))) fun v66 => oSet 67 (sV (vLt .i64 (xC v63) (xC v66))) fun v67 => oEnd))
 (cCond (xW 67) cSkip
 (cExit 4)))
 (cSeq (cBlock 5 (cSeq (cOps (oLet (sV (vAddr 6 (xW 6))) fun v70 => oLet (sL (lLoad none (xC v70))) fun v71 => oLet (sV ((xW 7))) fun v72 => oLet (sV (vIdx 6 (xC v71) (xC v72))) fun v73 => oLet (sL (lLoad (some 6) (xC v73))) fun v74 => oSet 8 (sN (aAlloc [.int .i64 0, .int .i64 0, .int .i64 0, .str [], .str [], .str []])) fun v8 => oDo (sM (tStore 6 (xC v8) (xC v74))) (oEnd)))
 (cSeq (cOps (oLet (sV (vAddr 0 (xW 8))) fun v76 => oLet (sL (lLoad none (xC v76))) fun v77 => oLet (sC 69 [(xC v77)]) fun v78 => oLet (sV (vExtract 0 (xC v78))) fun v79 => oLet (sV (vExtract 1 (xC v78))) fun v80 => oSet 9 (sN (aAlloc [.bool false, .bool false, .bool false, .bool false, .bool false])) fun v9 => oDo (sM (tStore 5 (xC v9) (xC v79))) (oEnd)))
 (cSeq (cSeq (cOps (oLet (sV (vIdxP 5 1 (xW 9) (xC (.int .i64 2)))) fun v81 => oSet 82 (sL (lLoad none (xC v81))) fun v82 => oEnd))
 (cCond (xW 82) (cOps (oLet (sV ((xW 3))) fun v83 => oLet (sV (vAddr 3 (xW 8))) fun v84 => oLet (sL (lLoad none (xC v84))) fun v85 => oLet (sN (aRow 1 1 [1] [(xC v85)])) fun v86 => oLet (sM (tAppend 16 1 (xC v83) (xC v86))) fun v87 => oSet 3 (sV ((xC v87))) fun v3 => oEnd))
 cSkip))
 (cSeq (cSeq (cOps (oLet (sV (vIdxP 5 1 (xW 9) (xC (.int .i64 3)))) fun v88 => oSet 89 (sL (lLoad none (xC v88))) fun v89 => oEnd))
 (cCond (xW 89) (cOps (oLet (sV ((xW 3))) fun v90 => oLet (sV (vAddr 4 (xW 8))) fun v91 => oLet (sL (lLoad none (xC v91))) fun v92 => oLet (sN (aRow 1 1 [1] [(xC v92)])) fun v93 => oLet (sM (tAppend 16 1 (xC v90) (xC v93))) fun v94 => oSet 3 (sV ((xC v94))) fun v3 => oEnd))
 cSkip))
 (cSeq (cOps (oLet (sV (vIdxP 5 1 (xW 9) (xC (.int .i64 4)))) fun v95 => oSet 96 (sL (lLoad none (xC v95))) fun v96 => oEnd))
 (cCond (xW 96) (cOps (oLet (sV ((xW 3))) fun v97 => oLet (sV (vAddr 5 (xW 8))) fun v98 => oLet (sL (lLoad none (xC v98))) fun v99 => oLet (sN (aRow 1 1 [1] [(xC v99)])) fun v100 => oLet (sM (tAppend 16 1 (xC v97) (xC v100))) fun v101 => oSet 3 (sV ((xC v101))) fun v3 => oEnd))
 cSkip)))))))
 (cOps (oLet (sV ((xW 7))) fun v68 => oLet (sV (vAdd .i64 (xC v68) (xC (.int .i64 1)))) fun v69 => oSet 7 (sV ((xC v69))) fun v7 => oEnd)))))))
 (cSeq (cOps (oSet 11 (sV ((xC (.int .i64 0)))) fun v11 => oEnd))
 (cBlock 6 (cLoop (cSeq (cSeq (cOps (oLet (sV ((xW 11))) fun v102 => oLet (sV (vAddr 7 (xW 6))) fun v103 => oLet (sL (lLoad none (xC v103))) fun v104 => oLet (sV (vLen (xC v104))) fun v105 => oSet 106 (sV (vLt .i64 (xC v102) (xC v105))) fun v106 => oEnd))
 (cCond (xW 106) cSkip
 (cExit 6)))
 (cSeq (cBlock 7 (cOps (oLet (sV ((xW 3))) fun v109 => oLet (sV (vAddr 7 (xW 6))) fun v110 => oLet (sL (lLoad none (xC v110))) fun v111 => oLet (sV ((xW 11))) fun v112 => oLet (sV (vIdx 4 (xC v111) (xC v112))) fun v113 => oLet (sV (vAddr 3 (xC v113))) fun v114 => oLet (sL (lLoad none (xC v114))) fun v115 => oLet (sN (aRow 1 1 [1] [(xC v115)])) fun v116 => oLet (sM (tAppend 16 1 (xC v109) (xC v116))) fun v117 => oSet 3 (sV ((xC v117))) fun v3 => oEnd)))
 (cOps (oLet (sV ((xW 11))) fun v107 => oLet (sV (vAdd .i64 (xC v107) (xC (.int .i64 1)))) fun v108 => oSet 11 (sV ((xC v108))) fun v11 => oEnd)))))))))))
 (cOps (oLet (sV ((xW 5))) fun v49 => oLet (sV (vAdd .i64 (xC v49) (xC (.int .i64 1)))) fun v50 => oSet 5 (sV ((xC v50))) fun v5 => oEnd)))))))
 (cSeq (cOps (oSet 12 (sV ((xC (.nilslice)))) fun v12 => oEnd))
 (cSeq (cSeq (cOps (oSet 13 (sV ((xC (.int .i64 0)))) fun v13 => oEnd))
 (cBlock 8 (cLoop (cSeq (cSeq (cOps (oLet (sV ((xW 13))) fun v118 => oLet (sV ((xW 3))) fun v119 => oLet (sV (vLen (xC v119))) fun v120 => oSet 121 (sV (vLt .i64 (xC v118) (xC v120))) fun v121 => oEnd))
 (cCond (xW 121) cSkip
 (cExit 8)))
 (cSeq (cBlock 9 (cSeq (cOps (oLet (sV ((xW 12))) fun v124 => oLet (sV ((xW 3))) fun v125 => oLet (sV ((xW 13))) fun v126 => oLet (sV (vIdx 1 (xC v125) (xC v126))) fun v127 => oLet (sL (lLoad none (xC v127))) fun v128 => oLet (sC 115 [(xC v124), (xC v128)]) fun v129 => oSet 130 (sV (vLt .i64 (xC v129) (xC (.int .i64 0)))) fun v130 => oEnd))
 (cCond (xW 130) (cOps (oLet (sV ((xW 12))) fun v131 => oLet (sV ((xW 3))) fun v132 => oLet (sV ((xW 13))) fun v133 => oLet (sV (vIdx 1 (xC v132) (xC v133))) fun v134 => oLet (sL (lLoad none (xC v134))) fun v135 => oLet (sN (aRow 1 1 [1] [(xC v135)])) fun v136 => oLet (sM (tAppend 16 1 (xC v131) (xC v136))) fun v137 => oSet 12 (sV ((xC v137))) fun v12 => oEnd))
 cSkip)))
 (cOps (oLet (sV ((xW 13))) fun v122 => oLet (sV (vAdd .i64 (xC v122) (xC (.int .i64 1)))) fun v123 => oSet 13 (sV ((xC v123))) fun v13 => oEnd)))))))
 (cSeq (cOps (oLet (sV ((xW 12))) fun v138 => oSet 2 (sV ((xC v138))) fun v2 => oEnd))
 cRet))))))), [.tmp (way 2)]⟩
theorem Tryz.k66_c : compF Tryz.prog [14, 15, 16, 17, 18, 19, 20, 21, 22, 23, 24, 25, 29, 30, 31, 32, 33, 34, 35, 36, 37, 38, 39, 40, 41, 42, 43, 27, 28, 44, 45, 46, 47, 51, 52, 53, 54, 55, 56, 57, 58, 59, 60, 61, 62, 63, 64, 65, 66, 70, 71, 72, 73, 74, 76, 77, 78, 75, 79, 80, 10, 81, 83, 84, 85, 86, 87, 88, 90, 91, 92, 93, 94, 95, 97, 98, 99, 100, 101, 68, 69, 102, 103, 104, 105, 109, 110, 111, 112, 113, 114, 115, 116, 117, 107, 108, 49, 50, 118, 119, 120, 124, 125, 126, 127, 128, 129, 131, 132, 133, 134, 135, 136, 137, 122, 123, 138] Tryz.f66 = some Tryz.k66 := by kernel_rfl
def Tryz.k67 : KF := ⟨[(way 0), (way 1)], (cSeq (cOps (oSet 4 (sV ((xC (.nilslice)))) fun v4 => oEnd))
 (cSeq (cOps (oLet (sV ((xW 0))) fun v5 => oLet (sV ((xW 1))) fun v6 => oLet (sC 115 [(xC v5), (xC v6)]) fun v7 => oLet (sC 55 [(xC v7), (xC (.int .i64 2))]) fun v8 => oSet 4 (sV ((xC v8))) fun v4 => oEnd))
 cRet)), [.tmp (way 4)]⟩
theorem Tryz.k67_c : compF Tryz.prog [5, 6, 7, 8] Tryz.f67 = some Tryz.k67 := by kernel_rfl
def Tryz.k68 : KF := ⟨[(way 0)], (cSeq (cOps (oSet 2 (sV ((xC (.int .u8 0)))) fun v2 => oEnd))
 (cSeq (cSeq (cOps (oSet 3 (sV ((xW 0))) fun v3 => oEnd))
 (cCond (xW 3) (cSeq (cOps (oSet 2 (sV ((xC (.int .u8 1)))) fun v2 => oEnd))
 cRet)
 cSkip))
 (cSeq (cOps (oSet 2 (sV ((xC (.int .u8 0)))) fun v2 => oEnd))
 cRet))), [.tmp (way 2)]⟩
theorem Tryz.k68_c : compF Tryz.prog [] Tryz.f68 = some Tryz.k68 := by kernel_rfl
def Tryz.k69 : KF := ⟨[(way 0)], (cSeq (cOps (oSet 2 (sN (aAlloc [.bool false, .bool false, .bool false, .bool false, .bool false])) fun v2 => oSet 3 (sV ((xC (.bool false)))) fun v3 => oEnd))
 (cSeq (cSeq (cOps (oSet 4 (sV ((xW 0))) fun v4 => oEnd))
 (cBlock 0 (cSeq (cSeq (cOps (oLet (sV (vEq .i64 (xW 4) (xC (.int .i64 2)))) fun v6 => oSet 5 (sV ((xC v6))) fun v5 => oEnd))
 (cCond (xW 5) cSkip
 (cSeq (cOps (oLet (sV (vEq .i64 (xW 4) (xC (.int .i64 5)))) fun v7 => oSet 5 (sV ((xC v7))) fun v5 => oEnd))
 (cCond (xW 5) cSkip
 (cSeq (cOps (oLet (sV (vEq .i64 (xW 4) (xC (.int .i64 6)))) fun v8 => oSet 5 (sV ((xC v8))) fun v5 => oEnd))
 (cCond (xW 5) cSkip
 (cSeq (cOps (oLet (sV (vEq .i64 (xW 4) (xC (.int .i64 17)))) fun v9 => oSet 5 (sV ((xC v9))) fun v5 => oEnd))
 (cCond (xW 5) cSkip
 (cSeq (cOps (oLet (sV (vEq .i64 (xW 4) (xC (.int .i64 18)))) fun v10 => oSet 5 (sV ((xC v10))) fun v5 => oEnd))
 (cCond (xW 5) cSkip
 (cSeq (cOps (oLet (sV (vEq .i64 (xW 4) (xC (.int .i64 19)))) fun v11 => oSet 5 (sV ((xC v11))) fun v5 => oEnd))
 (cCond (xW 5) cSkip
 (cOps (oLet (sV (vEq .i64 (xW 4) (xC (.int .i64 20)))) fun v12 => oSet 5 (sV ((xC v12))) fun v5 => oEnd))))))))))))))
 (cCond (xW 5) (cSeq (cOps (oLet (sV (vFill [.bool false, .bool false, .bool false, .bool false, .bool false] [(0, 1)] [(xC (.bool true))])) fun v13 => oDo (sM (tStore 5 (xW 2) (xC v13))) (oSet 3 (sV ((xC (.bool true)))) fun v3 => oEnd)))
 cRet)
 (cSeq (cOps (oLet (sV (vEq .i64 (xW 4) (xC (.int .i64 3)))) fun v15 => oSet 14 (sV ((xC v15))) fun v14 => oEnd))
 (cCond (xW 14) (cSeq (cOps (oLet (sV (vFill [.bool false, .bool false, .bool false, .bool false, .bool false] [(0, 1), (1, 1)] [(xC (.bool true)), (xC (.bool true))])) fun v16 => oDo (sM (tStore 5 (xW 2) (xC v16))) (oSet 3 (sV ((xC (.bool true)))) fun v3 => oEnd)))
 cRet)
 (cSeq (cOps (oLet (sV (vEq .i64 (xW 4) (xC (.int .i64 21)))) fun v18 => oSet 17 (sV ((xC v18))) fun v17 => oEnd))
 (cCond (xW 17) (cSeq (cOps (oLet (sV (vFill [.bool false, .bool false, .bool false, .bool false, .bool false] [(0, 1), (1, 1), (2, 1)] [(xC (.bool false)), (xC (.bool false)), (xC (.bool true))])) fun v19 => oDo (sM (tStore 5 (xW 2) (xC v19))) (oSet 3 (sV ((xC (.bool true)))) fun v3 => oEnd)))
 cRet)
 (cSeq (cSeq (cOps (oLet (sV (vEq .i64 (xW 4) (xC (.int .i64 26)))) fun v21 => oSet 20 (sV ((xC v21))) fun v20 => oEnd))
 (cCond (xW 20) cSkip
 (cSeq (cOps (oLet (sV (vEq .i64 (xW 4) (xC (.int .i64 30)))) fun v22 => oSet 20 (sV ((xC v22))) fun v20 => oEnd))
 (cCond (xW 20) cSkip
 (cOps (oLet (sV (vEq .i64 (xW 4) (xC (.int .i64 31)))) fun v23 => oSet 20 (sV ((xC v23))) fun v20 => oEnd))))))
 (cCond (xW 20) (cSeq (cOps (oLet (sV (vCat [1, 1, 1, 1, 1] [(xC (.bool false)), (xC (.bool false)), (xC (.bool false)), (xC (.bool false)), (xC (.bool true))])) fun v24 => oDo (sM (tStore 5 (xW 2) (xC v24))) (oSet 3 (sV ((xC (.bool true)))) fun v3 => oEnd)))
 cRet)
 (cSeq (cSeq (cOps (oLet (sV (vEq .i64 (xW 4) (xC (.int .i64 22)))) fun v26 => oSet 25 (sV ((xC v26))) fun v25 => oEnd))
 (cCond (xW 25) cSkip
 (cSeq (cOps (oLet (sV (vEq .i64 (xW 4) (xC (.int .i64 23)))) fun v27 => oSet 25 (sV ((xC v27))) fun v25 => oEnd))
 (cCond (xW 25) cSkip
 (cSeq (cOps (oLet (sV (vEq .i64 (xW 4) (xC (.int .i64 24)))) fun v28 => oSet 25 (sV ((xC v28))) fun v25 => oEnd))
 (cCond (xW 25) cSkip
 (cSeq (cOps (oLet (sV (vEq .i64 (xW 4) (xC (.int .i64 25)))) fun v29 => oSet 25 (sV ((xC v29))) fun v25 => oEnd))
 (cCond (xW 25) cSkip
 (cSeq (cOps (oLet (sV (vEq .i64 (xW 4) (xC (.int .i64 32)))) fun v30 => oSet 25 (sV ((xC v30))) fun v25 => oEnd))
 (cCond (xW 25) cSkip
 (cSeq (cOps (oLet (sV (vEq .i64 (xW 4) (xC (.int .i64 33)))) fun v31 => oSet 25 (sV ((xC v31))) fun v25 => oEnd))
 (cCond (xW 25) cSkip
 (cSeq (cOps (oLet (sV (vEq .i64 (xW 4) (xC (.int .i64 34)))) fun v32 => oSet 25 (sV ((xC v32))) fun v25 => oEnd))
 (cCond (xW 25) cSkip
 (cOps (oLet (sV (vEq .i64 (xW 4) (xC (.int .i64 35)))) fun v33 => oSet 25 (sV ((xC v33))) fun v25 => oEnd))))))))))))))))
 (cCond (xW 25) (cSeq (cOps (oLet (sV (vCat [1, 1, 1, 1, 1] [(xC (.bool false)), (xC (.bool false)), (xC (.bool true)), (xC (.bool true)), (xC (.bool true))])) fun v34 => oDo (sM (tStore 5 (xW 2) (xC v34))) (oSet 3 (sV ((xC (.bool true)))) fun v3 => oEnd)))
 cRet)
 cSkip))))))))))))
 (cSeq (cOps (oLet (sV (vFill [.bool false, .bool false, .bool false, .bool false, .bool false] [] [])) fun v35 => oLet (sV ((xW 0))) fun v36 => oLet (sV (vGe .i64 (xC v36) (xC (.int .i64 1)))) fun v37 => oLet (sG (xC v37) true (sV ((xC v36)))) fun v39 => oLet (sG (xC v37) true (sV (vLe .i64 (xC v39) (xC (.int .i64 38))))) fun v40 => oLet (sV (vPick (xC v37) (xC v40) (xC (.bool false)))) fun v41 => oDo (sM (tStore 5 (xW 2) (xC v35))) (oSet 3 (sV ((xC v41))) fun v3 => oEnd)))
 cRet))), [.cell (way 2) (some 5), .tmp (way 3)]⟩
theorem Tryz.k69_c : compF Tryz.prog [6, 7, 8, 9, 10, 11, 12, 13, 15, 16, 18, 19, 21, 22, 23, 24, 26, 27, 28, 29, 30, 31, 32, 33, 34, 35, 36, 37, 38, 39, 40, 41] Tryz.f69 = some Tryz.k69 := by kernel_rfl
def Tryz.k70 : KF := ⟨[(way 0)], (cSeq (cOps (oSet 2 (sV ((xC (.nilptr)))) fun v2 => oSet 3 (sV ((xC (.int .i64 0)))) fun v3 => oSet 4 (sV ((xC (.int .i64 0)))) fun v4 => oEnd))
 (cSeq (cOps (oSet 5 (sV ((xC (.nilslice)))) fun v5 => oEnd))
 (cSeq (cSeq (cOps (oSet 14 (sV ((xW 0))) fun v14 => oSet 15 (sV (vLen (xC v14))) fun v15 => oSet 16 (sV ((xC (.int .i64 0)))) fun v16 => oEnd))
 (cBlock 0 (cLoop (cSeq (cOps (oSet 17 (sV (vLt .i64 (xW 16) (xW 15))) fun v17 => oEnd))
 (cSeq (cCond (xW 17) cSkip
 (cExit 0))
 (cSeq (cBlock 1 (cSeq (cOps (oLet (sV ((xW 16))) fun v18 => oLet (sV (vIdx 1 (xW 14) (xC v18))) fun v19 => oLet (sL (lLoad none (xC v19))) fun v20 => oSet 6 (sV ((xC v18))) fun v6 => oSet 7 (sV ((xC v20))) fun v7 => oEnd))
 (cSeq (cOps (oLet (sV ((xW 7))) fun v22 => oLet (sC 72 [(xC v22)]) fun v23 => oLet (sV (vExtract 0 (xC v23))) fun v24 => oLet (sV (vExtract 1 (xC v23))) fun v25 => oLet (sV (vExtract 2 (xC v23))) fun v26 => oSet 8 (sN (aAlloc [.str [], .str [], .bool false, .bool false, .nilslice, .nilslice, .nilslice])) fun v8 => oDo (sM (tStore 7 (xC v8) (xC v24))) (oSet 9 (sV ((xC v25))) fun v9 => oEnd)))
 (cSeq (cSeq (cOps (oLet (sV ((xW 9))) fun v27 => oSet 28 (sV (vNe .i64 (xC v27) (xC (.int .i64 0)))) fun v28 => oEnd))
 (cCond (xW 28) (cSeq (cOps (oLet (sV ((xW 9))) fun v29 => oLet (sV ((xW 6))) fun v30 => oSet 2 (sV ((xC (.nilptr)))) fun v2 => oSet 3 (sV ((xC v29))) fun v3 => oSet 4 (sV ((xC v30))) fun v4 => oEnd))
 cRet)
 cSkip))
 (cOps (oLet (sV ((xW 5))) fun v31 => oLet (sL (lLoad (some 7) (xW 8))) fun v32 => oLet (sN (aRow 1 7 [7] [(xC v32)])) fun v33 => oLet (sM (tAppend 112 7 (xC v31) (xC v33))) fun v34 => oSet 5 (sV ((xC v34))) fun v5 => oEnd))))))
 (cOps (oLet (sV (vAdd .i64 (xW 16) (xC (.int .i64 1)))) fun v35 => oSet 16 (sV ((xC v35))) fun v16 => oEnd))))))))
 (cSeq (cOps (oLet (sV ((xW 5))) fun v37 => oLet (sC 29 [(xC v37)]) fun v38 => oLet (sV (vExtract 0 (xC v38))) fun v39 => oLet (sV (vExtract 1 (xC v38))) fun v40 => oLet (sV (vExtract 2 (xC v38))) fun v41 => oSet 12 (sN (aAlloc [.int .i64 0])) fun v12 => oSet 13 (sN (aAlloc [.str []])) fun v13 => oSet 11 (sV ((xC v39))) fun v11 => oDo (sM (tStore 1 (xC v12) (xC v40))) (oDo (sM (tStore 1 (xC v13) (xC v41))) (oEnd))))
 (cSeq (cOps (oLet (sV ((xW 11))) fun v42 => oSee (seeL (lLoad none (xW 12))) fun q1 => oLet (sLo [] 0 (lLoad none (xW 12))) fun v43 => oLet (sV ((xW 5))) fun v44 => oLet (sV (vFunc 116 [(xW 12), (xW 13)])) fun v45 => oCap fun c4 => oLet (sC 109 [(xC v44), (xC v45)]) fun v46 => oCap fun d4 => oLate [q1] <| oLet (sV (vMax true [(xC v46), (xC (.int .i64 0))])) fun v47 => oSet 2 (sV ((xC v42))) fun v2 => oSet 3 (sV ((xC v43))) fun v3 => oSet 4 (sV ((xC v47))) fun v4 => oEnd))
 cRet))))), [.tmp (way 2), .tmp (way 3), .tmp (way 4)]⟩
theorem Tryz.k70_c : compF Tryz.prog [18, 19, 20, 22, 23, 21, 24, 25, 26, 10, 27, 29, 30, 31, 32, 33, 34, 35, 37, 38, 36, 39, 40, 41, 42, 43, 44, 45, 46, 47] Tryz.f70 = some Tryz.k70 := by kernel_rfl
def Tryz.k71 : KF := ⟨[(way 0), (way 1)], (cSeq (cOps (oSet 4 (sN (aAlloc [.str [], .nilslice, .nilslice, .nilslice, .nilslice, .nilslice])) fun v4 => oSet 5 (sN (aAlloc [.int .i64 0, .int .i64 0, .int .i64 0, .str [], .int .i64 0, .int .i64 0])) fun v5 => oEnd))
 (cScope (cSeq (cOps (oLet (sV ((xW 0))) fun v9 => oLet (sC 117 [(xC v9)]) fun v10 => oLet (sV (vExtract 0 (xC v10))) fun v11 => oLet (sV (vExtract 1 (xC v10))) fun v12 => oSet 7 (sN (aAlloc [.str [], .int .i64 0, .int .i64 0])) fun v7 => oSet 6 (sV ((xC v11))) fun v6 => oDo (sM (tStore 3 (xC v7) (xC v12))) (oEnd)))
 (cSeq (cSeq (cOps (oLet (sV ((xW 6))) fun v13 => oSet 14 (sV (vNe .i64 (xC v13) (xC (.int .i64 0)))) fun v14 => oEnd))
 (cCond (xW 14) (cSeq (cOps (oLet (sV ((xW 6))) fun v15 => oLet (sV (vAddr 0 (xW 7))) fun v16 => oLet (sL (lLoad none (xC v16))) fun v17 => oLet (sV (vAddr 1 (xW 7))) fun v18 => oLet (sL (lLoad none (xC v18))) fun v19 => oLet (sV (vAddr 2 (xW 7))) fun v20 => oLet (sL (lLoad none (xC v20))) fun v21 => oLet (sV (vFill [.int .i64 0, .int .i64 0, .int .i64 0, .str [], .int .i64 0, .int .i64 0] [(0, 1), (3, 1), (4, 1), (5, 1)] [(xC v15), (xC v17), (xC v19), (xC v21)])) fun v22 => oDo (sM (tStore 6 (xW 5) (xC v22))) (oEnd)))
 (cGoto 0))
 cSkip))
 (cSeq (cOps (oLet (sV ((xW 0))) fun v24 => oLet (sV ((xW 1))) fun v25 => oLet (sC 34 [(xC v24), (xC v25)]) fun v26 => oLet (sV (vExtract 0 (xC v26))) fun v27 => oLet (sV (vExtract 1 (xC v26))) fun v28 => oDo (sM (tStore 6 (xW 4) (xC v27))) (oLet (sV (vAddr 0 (xW 5))) fun v29 => oDo (sM (tStore 1 (xC v29) (xC v28))) (oEnd))))
 (cSeq cSkip
 (cSeq (cOps (oLet (sL (lLoad (some 6) (xW 4))) fun v30 => oSee (seeL (lLoad (some 6) (xW 5))) fun q1 => oLet (sLo [] 0 (lLoad (some 6) (xW 5))) fun v31 => oCap fun c2 => oDo (sM (tStore 6 (xW 4) (xC v30))) (oCap fun d2 => oLate [q1] <| oCap fun c3 => oDo (sM (tStore 6 (xW 5) (xC v31))) (oCap fun d3 => oEnd))))
 cRet))))) [(0, (cSeq cSkip
 (cSeq (cOps (oLet (sL (lLoad (some 6) (xW 4))) fun v30 => oSee (seeL (lLoad (some 6) (xW 5))) fun q1 => oLet (sLo [] 0 (lLoad (some 6) (xW 5))) fun v31 => oCap fun c2 => oDo (sM (tStore 6 (xW 4) (xC v30))) (oCap fun d2 => oLate [q1] <| oCap fun c3 => oDo (sM (tStore 6 (xW 5) (xC v31))) (oCap fun d3 => oEnd))))
 cRet)))])), [.cell (way 4) (some 6), .cell (way 5) (some 6)]⟩
theorem Tryz.k71_c : compF Tryz.prog [9, 10, 8, 11, 12, 13, 15, 16, 17, 18, 19, 20, 21, 22, 24, 25, 26, 23, 27, 28, 29, 30, 31] Tryz.f71 = some Tryz.k71 := by kernel_rfl
def Tryz.k72 : KF := ⟨[(way 0)], (cSeq (cOps (oSet 2 (sN (aAlloc [.str [], .str [], .bool false, .bool false, .nilslice, .nilslice, .nilslice])) fun v2 => oSet 3 (sV ((xC (.int .i64 0)))) fun v3 => oSet 4 (sV ((xC (.int .i64 0)))) fun v4 => oEnd))
 (cScope (cSeq (cOps (oLet (sV ((xW 0))) fun v7 => oLet (sC 40 [(xC v7)]) fun v8 => oLet (sV (vFill [.nilptr, .nilslice, .int .i64 0, .int .i64 0] [(0, 1)] [(xC v8)])) fun v9 => oLet (sN (aBox (xC v9))) fun v10 => oSet 5 (sV ((xC v10))) fun v5 => oEnd))
 (cSeq (cOps (oSet 6 (sV ((xC (.nilslice)))) fun v6 => oEnd))
 (cSeq (cSeq (cOps (oLet (sV ((xW 0))) fun v11 => oLet (sV (vLen (xC v11))) fun v12 => oSet 13 (sV (vGt .i64 (xC v12) (xC (.int .i64 262144)))) fun v13 => oEnd))
 (cCond (xW 13) (cSeq (cOps (oSet 3 (sV ((xC (.int .i64 5)))) fun v3 => oEnd))
 (cGoto 0))
 cSkip))
 (cSeq (cOps (oLet (sV ((xW 5))) fun v14 => oLet (sC 118 [(xC v14)]) fun v15 => oDo (sM (tStore 7 (xW 2) (xC v15))) (oEnd)))
 (cSeq (cSeq (cOps (oLet (sV ((xW 5))) fun v16 => oLet (sC 119 [(xC v16)]) fun v17 => oSet 18 (sV (vUn .not (xC v17))) fun v18 => oEnd))
 (cCond (xW 18) (cSeq (cOps (oLet (sV ((xW 5))) fun v19 => oLet (sV (vNil (xC v19))) fun v20 => oLet (sV (vAddr 2 (xC v20))) fun v21 => oLet (sL (lLoad none (xC v21))) fun v22 => oLet (sV (vNil (xC v19))) fun v24 => oLet (sV (vAddr 3 (xC v24))) fun v25 => oLet (sL (lLoad none (xC v25))) fun v26 => oSet 3 (sV ((xC v22))) fun v3 => oSet 4 (sV ((xC v26))) fun v4 => oEnd))
 (cGoto 0))
 cSkip))
 (cSeq (cSeq (cOps (oLet (sL (lLoad (some 7) (xW 2))) fun v28 => oLet (sC 120 [(xC v28)]) fun v29 => oLet (sV (vExtract 0 (xC v29))) fun v30 => oLet (sV (vExtract 1 (xC v29))) fun v31 => oSet 6 (sV ((xC v30))) fun v6 => oSet 3 (sV ((xC v31))) fun v3 => oEnd))
 (cSeq (cOps (oLet (sV ((xW 3))) fun v32 => oSet 33 (sV (vNe .i64 (xC v32) (xC (.int .i64 0)))) fun v33 => oEnd))
 (cCond (xW 33) (cGoto 0)
 cSkip)))
 (cSeq (cSeq (cOps (oLet (sV ((xW 6))) fun v34 => oLet (sV ((xW 0))) fun v35 => oLet (sC 48 [(xC v34), (xC v35)]) fun v36 => oSet 37 (sV (vUn .not (xC v36))) fun v37 => oEnd))
 (cCond (xW 37) (cSeq (cOps (oLet (sV ((xW 5))) fun v38 => oLet (sV (vNil (xC v38))) fun v39 => oLet (sV (vAddr 0 (xC v39))) fun v40 => oLet (sL (lLoad none (xC v40))) fun v41 => oLet (sC 103 [(xC v41)]) fun v42 => oSet 3 (sV ((xC (.int .i64 7)))) fun v3 => oSet 4 (sV ((xC v42))) fun v4 => oEnd))
 (cGoto 0))
 cSkip))
 (cSeq (cSeq (cOps (oLet (sL (lLoad (some 7) (xW 2))) fun v43 => oDo (sM (tStore 7 (xW 2) (xC v43))) (oSet 3 (sV ((xC (.int .i64 0)))) fun v3 => oSet 4 (sV ((xC (.int .i64 0)))) fun v4 => oEnd)))
 cRet)
 (cSeq cSkip
 (cSeq (cOps (oLet (sV (vFill [.str [], .str [], .bool false, .bool false, .nilslice, .nilslice, .nilslice] [] [])) fun v44 => oLet (sV ((xW 3))) fun v45 => oLet (sV ((xW 4))) fun v46 => oDo (sM (tStore 7 (xW 2) (xC v44))) (oSet 3 (sV ((xC v45))) fun v3 => oSet 4 (sV ((xC v46))) fun v4 => oEnd)))
 cRet)))))))))) [(0, (cSeq cSkip
 (cSeq (cOps (oLet (sV (vFill [.str [], .str [], .bool false, .bool false, .nilslice, .nilslice, .nilslice] [] [])) fun v44 => oLet (sV ((xW 3))) fun v45 => oLet (sV ((xW 4))) fun v46 => oDo (sM (tStore 7 (xW 2) (xC v44))) (oSet 3 (sV ((xC v45))) fun v3 => oSet 4 (sV ((xC v46))) fun v4 => oEnd)))
 cRet)))])), [.cell (way 2) (some 7), .tmp (way 3), .tmp (way 4)]⟩
theorem Tryz.k72_c : compF Tryz.prog [7, 8, 9, 10, 11, 12, 14, 15, 16, 17, 19, 20, 21, 22, 23, 24, 25, 26, 28, 29, 27, 30, 31, 32, 34, 35, 36, 38, 39, 40, 41, 42, 43, 44, 45, 46] Tryz.f72 = some Tryz.k72 := by kernel_rfl
def Tryz.k73 : KF := ⟨[(way 0)], (cSeq (cOps (oSet 1 (sN (aBox (xW 0))) fun v1 => oSet 2 (sV ((xC (.int .i64 0)))) fun v2 => oEnd))
 (cScope (cSeq (cOps (oSet 2 (sV ((xC (.int .i64 6)))) fun v2 => oEnd))
 (cSeq (cSeq (cOps (oLet (sV (vAddr 0 (xW 1))) fun v7 => oLet (sL (lLoad none (xC v7))) fun v8 => oLet (sC 121 [(xC v8)]) fun v9 => oLet (sV (vUn .not (xC v9))) fun v10 => oLet (sG (xC v10) false (sV (vAddr 1 (xW 1)))) fun v12 => oLet (sG (xC v10) false (sL (lLoad none (xC v12)))) fun v13 => oLet (sG (xC v10) false (sV (vSNe (xC v13) (xC (.str []))))) fun v14 => oLet (sG (xC v10) false (sV ((xC v14)))) fun v15 => oLet (sG (xC v15) true (sV (vAddr 1 (xW 1)))) fun v16 => oLet (sG (xC v15) true (sL (lLoad none (xC v16)))) fun v17 => oLet (sG (xC v15) true (sC 121 [(xC v17)])) fun v18 => oLet (sG (xC v15) true (sV (vUn .not (xC v18)))) fun v19 => oLet (sG (xC v10) false (sV (vPick (xC v15) (xC v19) (xC (.bool false))))) fun v20 => oLet (sV (vPick (xC v10) (xC (.bool true)) (xC v20))) fun v21 => oLet (sG (xC v21) false (sV (vAddr 4 (xW 1)))) fun v23 => oLet (sG (xC v21) false (sL (lLoad none (xC v23)))) fun v24 => oLet (sG (xC v21) false (sC 94 [(xC v24), (xC (.func 122 []))])) fun v25 => oSet 26 (sV (vPick (xC v21) (xC (.bool true)) (xC v25))) fun v26 => oEnd))
 (cCond (xW 26) (cGoto 0)
 cSkip))
 (cSeq (cOps (oSet 2 (sV ((xC (.int .i64 5)))) fun v2 => oEnd))
 (cSeq (cSeq (cOps (oLet (sV (vAddr 4 (xW 1))) fun v27 => oLet (sL (lLoad none (xC v27))) fun v28 => oLet (sV (vLen (xC v28))) fun v29 => oLet (sV (vGt .i64 (xC v29) (xC (.int .i64 30)))) fun v30 => oLet (sG (xC v30) false (sV (vAddr 5 (xW 1)))) fun v32 => oLet (sG (xC v30) false (sL (lLoad none (xC v32)))) fun v33 => oLet (sG (xC v30) false (sV (vLen (xC v33)))) fun v34 => oLet (sG (xC v30) false (sV (vGt .i64 (xC v34) (xC (.int .i64 20))))) fun v35 => oLet (sV (vPick (xC v30) (xC (.bool true)) (xC v35))) fun v36 => oLet (sG (xC v36) false (sV (vAddr 6 (xW 1)))) fun v38 => oLet (sG (xC v36) false (sL (lLoad none (xC v38)))) fun v39 => oLet (sG (xC v36) false (sV (vLen (xC v39)))) fun v40 => oLet (sG (xC v36) false (sV (vGt .i64 (xC v40) (xC (.int .i64 20))))) fun v41 => oSet 42 (sV (vPick (xC v36) (xC (.bool true)) (xC v41))) fun v42 => oEnd))
 (cCond (xW 42) (cGoto 0)
 cSkip))
 (cSeq (cOps (oSet 2 (sV ((xC (.int .i64 6)))) fun v2 => oEnd))
 (cSeq (cSeq (cOps (oLet (sV (vAddr 5 (xW 1))) fun v43 => oSet 44 (sL (lLoad none (xC v43))) fun v44 => oSet 45 (sV (vLen (xC v44))) fun v45 => oSet 46 (sV ((xC (.int .i64 0)))) fun v46 => oEnd))
 (cBlock 0 (cLoop (cSeq (cOps (oSet 47 (sV (vLt .i64 (xW 46) (xW 45))) fun v47 => oEnd))
 (cSeq (cCond (xW 47) cSkip
 (cExit 0))
 (cSeq (cBlock 1 (cSeq (cOps (oLet (sV (vIdx 3 (xW 44) (xW 46))) fun v48 => oLet (sL (lLoad (some 3) (xC v48))) fun v49 => oSet 4 (sN (aAlloc [.str [], .str [], .bool false])) fun v4 => oDo (sM (tStore 3 (xC v4) (xC v49))) (oEnd)))
 (cSeq (cOps (oLet (sV (vAddr 0 (xW 4))) fun v50 => oLet (sL (lLoad none (xC v50))) fun v51 => oLet (sC 121 [(xC v51)]) fun v52 => oLet (sV (vUn .not (xC v52))) fun v53 => oLet (sG (xC v53) false (sV (vAddr 1 (xW 4)))) fun v55 => oLet (sG (xC v53) false (sL (lLoad none (xC v55)))) fun v56 => oLet (sG (xC v53) false (sC 123 [(xC v56)])) fun v57 => oLet (sG (xC v53) false (sV (vUn .not (xC v57)))) fun v58 => oSet 59 (sV (vPick (xC v53) (xC (.bool true)) (xC v58))) fun v59 => oEnd))
 (cCond (xW 59) (cGoto 0)
 cSkip))))
 (cOps (oLet (sV (vAdd .i64 (xW 46) (xC (.int .i64 1)))) fun v60 => oSet 46 (sV ((xC v60))) fun v46 => oEnd))))))))
 (cSeq (cSeq (cOps (oLet (sV (vAddr 6 (xW 1))) fun v61 => oSet 62 (sL (lLoad none (xC v61))) fun v62 => oSet 63 (sV (vLen (xC v62))) fun v63 => oSet 64 (sV ((xC (.int .i64 0)))) fun v64 => oEnd))
 (cBlock 2 (cLoop (cSeq (cOps (oSet 65 (sV (vLt .i64 (xW 64) (xW 63))) fun v65 => oEnd))
 (cSeq (cCond (xW 65) cSkip
 (cExit 2))
 (cSeq (cBlock 3 (cSeq (cOps (oLet (sV (vIdx 8 (xW 62) (xW 64))) fun v66 => oLet (sL (lLoad (some 8) (xC v66))) fun v67 => oSet 6 (sN (aAlloc [.str [], .str [], .bool false, .bool false, .int .i64 0, .int .i64 0, .nilslice, .nilslice])) fun v6 => oDo (sM (tStore 8 (xC v6) (xC v67))) (oEnd)))
 (cSeq (cOps (oLet (sL (lLoad (some 8) (xW 6))) fun v68 => oLet (sC 124 [(xC v68)]) fun v69 => oSet 2 (sV ((xC v69))) fun v2 => oEnd))
 (cSeq (cOps (oLet (sV ((xW 2))) fun v70 => oSet 71 (sV (vNe .i64 (xC v70) (xC (.int .i64 0)))) fun v71 => oEnd))
 (cCond (xW 71) (cGoto 0)
 cSkip)))))
 (cOps (oLet (sV (vAdd .i64 (xW 64) (xC (.int .i64 1)))) fun v72 => oSet 64 (sV ((xC v72))) fun v64 => oEnd))))))))
 (cSeq (cOps (oSet 2 (sV ((xC (.int .i64 0)))) fun v2 => oEnd))
 (cSeq (cSeq (cOps (oLet (sL (lLoad (some 7) (xW 1))) fun v73 => oLet (sC 125 [(xC v73)]) fun v74 => oLet (sV (vLen (xC v74))) fun v75 => oSet 76 (sV (vGt .i64 (xC v75) (xC (.int .i64 500)))) fun v76 => oEnd))
 (cCond (xW 76) (cOps (oSet 2 (sV ((xC (.int .i64 5)))) fun v2 => oEnd))
 cSkip))
 (cSeq cSkip
 (cSeq (cOps (oLet (sV ((xW 2))) fun v77 => oSet 2 (sV ((xC v77))) fun v2 => oEnd))
 cRet))))))))))) [(0, (cSeq cSkip
 (cSeq (cOps (oLet (sV ((xW 2))) fun v77 => oSet 2 (sV ((xC v77))) fun v2 => oEnd))
 cRet)))])), [.tmp (way 2)]⟩
theorem Tryz.k73_c : compF Tryz.prog [7, 8, 9, 10, 11, 12, 13, 14, 15, 16, 17, 18, 19, 20, 21, 22, 23, 24, 25, 27, 28, 29, 30, 31, 32, 33, 34, 35, 36, 37, 38, 39, 40, 41, 43, 48, 49, 50, 51, 52, 53, 54, 55, 56, 57, 58, 60, 61, 66, 67, 68, 69, 70, 72, 73, 74, 75, 77] Tryz.f73 = some Tryz.k73 := by kernel_rfl
def Tryz.k74 : KF := ⟨[(way 0)], (cSeq (cOps (oSet 2 (sV ((xC (.str [])))) fun v2 => oSet 3 (sV ((xC (.bool false)))) fun v3 => oEnd))
 (cSeq (cSeq (cOps (oSet 7 (sV ((xW 0))) fun v7 => oSet 8 (sV (vLen (xC v7))) fun v8 => oSet 9 (sV ((xC (.int .i64 0)))) fun v9 => oEnd))
 (cBlock 0 (cLoop (cSeq (cOps (oSet 10 (sV (vLt .i64 (xW 9) (xW 8))) fun v10 => oEnd))
 (cSeq (cCond (xW 10) cSkip
 (cExit 0))
 (cSeq (cBlock 1 (cSeq (cOps (oLet (sV ((xW 9))) fun v11 => oLet (sV (vIdx 7 (xW 7) (xC v11))) fun v12 => oLet (sL (lLoad (some 7) (xC v12))) fun v13 => oSet 5 (sN (aAlloc [.str [], .str [], .bool false, .bool false, .nilslice, .nilslice, .nilslice])) fun v5 => oSet 4 (sV ((xC v11))) fun v4 => oDo (sM (tStore 7 (xC v5) (xC v13))) (oEnd)))
 (cSeq (cOps (oLet (sV (vFunc 126 [(xW 5)])) fun v14 => oSet 6 (sV ((xC v14))) fun v6 => oEnd))
 (cSeq (cOps (oLet (sC 75 []) fun v15 => oLet (sV ((xW 6))) fun v16 => oLet (sC 127 [(xC v15), (xC v16)]) fun v17 => oLet (sG (xC v17) false (sV ((xW 0)))) fun v19 => oLet (sG (xC v17) false (sV ((xW 4)))) fun v20 => oLet (sG (xC v17) false (sV (vAdd .i64 (xC v20) (xC (.int .i64 1))))) fun v21 => oLet (sG (xC v17) false (sV (vSlice 7 (xC v19) [(xC v21)] [] []))) fun v22 => oLet (sG (xC v17) false (sV ((xC v16)))) fun v23 => oLet (sG (xC v17) false (sC 127 [(xC v22), (xC v23)])) fun v24 => oSet 25 (sV (vPick (xC v17) (xC (.bool true)) (xC v24))) fun v25 => oEnd))
 (cCond (xW 25) (cSeq (cOps (oLet (sV (vAddr 0 (xW 5))) fun v26 => oLet (sL (lLoad none (xC v26))) fun v27 => oSet 2 (sV ((xC v27))) fun v2 => oSet 3 (sV ((xC (.bool true)))) fun v3 => oEnd))
 cRet)
 cSkip)))))
 (cOps (oLet (sV (vAdd .i64 (xW 9) (xC (.int .i64 1)))) fun v28 => oSet 9 (sV ((xC v28))) fun v9 => oEnd))))))))
 (cSeq (cOps (oSet 2 (sV ((xC (.str [])))) fun v2 => oSet 3 (sV ((xC (.bool false)))) fun v3 => oEnd))
 cRet))), [.tmp (way 2), .tmp (way 3)]⟩
theorem Tryz.k74_c : compF Tryz.prog [11, 12, 13, 14, 15, 16, 17, 18, 19, 20, 21, 22, 23, 24, 26, 27, 28] Tryz.f74 = some Tryz.k74 := by kernel_rfl
def Tryz.k75 : KF := ⟨[], (cSeq (cOps (oSet 0 (sV ((xC (.nilslice)))) fun v0 => oEnd))
 (cSeq (cOps (oLet (sV (vFill [.str [], .str [], .bool false, .bool false, .nilslice, .nilslice, .nilslice] [(0, 1)] [(xC (.str [79, 98, 106, 101, 99, 116]))])) fun v7 => oLet (sV (vFill [.str [], .str [], .bool false, .bool false, .nilslice, .nilslice, .nilslice] [(0, 1), (1, 1)] [(xC (.str [84, 104, 114, 111, 119, 97, 98, 108, 101])), (xC (.str [79, 98, 106, 101, 99, 116]))])) fun v8 => oLet (sN (aRow 2 7 [7, 7] [(xC v7), (xC v8)])) fun v9 => oSet 1 (sV ((xC v9))) fun v1 => oEnd))
 (cSeq (cSeq (cOps (oSet 10 (sN (aRow 8 1 [1, 1, 1, 1, 1, 1, 1, 1] [(xC (.str [78, 117, 108, 108, 69, 120])), (xC (.str [66, 111, 117, 110, 100, 115, 69, 120])), (xC (.str [83, 116, 111, 114, 101, 69, 120])), (xC (.str [67, 97, 115, 116, 69, 120])), (xC (.str [65, 114, 105, 116, 104, 69, 120])), (xC (.str [77, 101, 109, 69, 120])), (xC (.str [68, 101, 112, 116, 104, 69, 120])), (xC (.str [73, 110, 105, 116, 69, 120]))])) fun v10 => oSet 11 (sV (vLen (xC v10))) fun v11 => oSet 12 (sV ((xC (.int .i64 0)))) fun v12 => oEnd))
 (cBlock 0 (cLoop (cSeq (cOps (oSet 13 (sV (vLt .i64 (xW 12) (xW 11))) fun v13 => oEnd))
 (cSeq (cCond (xW 13) cSkip
 (cExit 0))
 (cSeq (cBlock 1 (cSeq (cOps (oLet (sV (vIdx 1 (xW 10) (xW 12))) fun v14 => oLet (sL (lLoad none (xC v14))) fun v15 => oSet 3 (sV ((xC v15))) fun v3 => oEnd))
 (cOps (oLet (sV ((xW 1))) fun v16 => oLet (sV ((xW 3))) fun v17 => oLet (sV (vFill [.str [], .str [], .bool false, .bool false, .nilslice, .nilslice, .nilslice] [(0, 1), (1, 1)] [(xC v17), (xC (.str [84, 104, 114, 111, 119, 97, 98, 108, 101]))])) fun v18 => oLet (sN (aRow 1 7 [7] [(xC v18)])) fun v19 => oLet (sM (tAppend 112 7 (xC v16) (xC v19))) fun v20 => oSet 1 (sV ((xC v20))) fun v1 => oEnd))))
 (cOps (oLet (sV (vAdd .i64 (xW 12) (xC (.int .i64 1)))) fun v21 => oSet 12 (sV ((xC v21))) fun v12 => oEnd))))))))
 (cSeq (cSeq (cOps (oLet (sV ((xW 1))) fun v22 => oSet 23 (sV (vLen (xC v22))) fun v23 => oSet 24 (sV ((xC (.int .i64 0)))) fun v24 => oEnd))
 (cBlock 2 (cLoop (cSeq (cOps (oSet 25 (sV (vLt .i64 (xW 24) (xW 23))) fun v25 => oEnd))
 (cSeq (cCond (xW 25) cSkip
 (cExit 2))
 (cSeq (cBlock 3 (cSeq (cOps (oLet (sV ((xW 24))) fun v26 => oSet 4 (sV ((xC v26))) fun v4 => oEnd))
 (cOps (oLet (sV ((xW 1))) fun v27 => oLet (sV ((xW 4))) fun v28 => oLet (sC 128 [(xC (.str [60, 105, 110, 105, 116, 62])), (xC (.str [40, 41, 86])), (xC (.bool false))]) fun v29 => oLet (sN (aRow 1 8 [8] [(xC v29)])) fun v30 => oLet (sV (vIdx 7 (xC v27) (xC v28))) fun v31 => oLet (sV (vAddr 6 (xC v31))) fun v32 => oDo (sM (tStore 1 (xC v32) (xC v30))) (oEnd)))))
 (cOps (oLet (sV (vAdd .i64 (xW 24) (xC (.int .i64 1)))) fun v33 => oSet 24 (sV ((xC v33))) fun v24 => oEnd))))))))
 (cSeq (cOps (oLet (sV (vFill [.str [], .str [], .bool false, .bool false, .int .i64 0, .int .i64 0, .nilslice, .nilslice] [(0, 1), (1, 1), (3, 1)] [(xC (.str [114, 117, 110])), (xC (.str [40, 41, 86])), (xC (.bool true))])) fun v34 => oSet 5 (sN (aAlloc [.str [], .str [], .bool false, .bool false, .int .i64 0, .int .i64 0, .nilslice, .nilslice])) fun v5 => oDo (sM (tStore 8 (xC v5) (xC v34))) (oEnd)))
 (cSeq (cOps (oLet (sV ((xW 1))) fun v35 => oLet (sL (lLoad (some 8) (xW 5))) fun v36 => oLet (sN (aRow 1 8 [8] [(xC v36)])) fun v37 => oLet (sV (vFill [.str [], .str [], .bool false, .bool false, .nilslice, .nilslice, .nilslice] [(0, 1), (1, 1), (2, 1), (3, 1), (6, 1)] [(xC (.str [84, 97, 115, 107])), (xC (.str [79, 98, 106, 101, 99, 116])), (xC (.bool true)), (xC (.bool true)), (xC v37)])) fun v38 => oLet (sN (aRow 1 7 [7] [(xC v38)])) fun v39 => oLet (sM (tAppend 112 7 (xC v35) (xC v39))) fun v40 => oSet 1 (sV ((xC v40))) fun v1 => oEnd))
 (cSeq (cOps (oLet (sV (vFill [.str [], .str [], .bool false, .bool false, .nilslice, .nilslice, .nilslice] [(0, 1), (1, 1), (3, 1)] [(xC (.str [83, 121, 115])), (xC (.str [79, 98, 106, 101, 99, 116])), (xC (.bool true))])) fun v41 => oSet 6 (sN (aAlloc [.str [], .str [], .bool false, .bool false, .nilslice, .nilslice, .nilslice])) fun v6 => oDo (sM (tStore 7 (xC v6) (xC v41))) (oEnd)))
 (cSeq (cOps (oLet (sV (vAddr 6 (xW 6))) fun v42 => oSee (seeL (lLoad none (xC v42))) fun q1 => oLet (sLo [] 0 (lLoad none (xC v42))) fun v43 => oCap fun c2 => oLet (sC 128 [(xC (.str [112, 105, 99, 107])), (xC (.str [40, 41, 73])), (xC (.bool true))]) fun v44 => oCap fun d2 => oLate [q1] <| oCap fun c3 => oLet (sC 128 [(xC (.str [101, 99, 104, 111])), (xC (.str [40, 76, 79, 98, 106, 101, 99, 116, 59, 41, 76, 79, 98, 106, 101, 99, 116, 59])), (xC (.bool true))]) fun v45 => oCap fun d3 => oLate [q1] <| oLet (sN (aRow 2 8 [8, 8] [(xC v44), (xC v45)])) fun v46 => oCap fun c5 => oLet (sM (tAppend 104 8 (xC v43) (xC v46))) fun v47 => oCap fun d5 => oLet (sV (vAddr 6 (xW 6))) fun v48 => oCap fun c7 => oDo (sM (tStore 1 (xC v48) (xC v47))) (oCap fun d7 => oEnd)))
 (cSeq (cOps (oLet (sV (vAddr 6 (xW 6))) fun v49 => oSee (seeL (lLoad none (xC v49))) fun q1 => oLet (sLo [] 0 (lLoad none (xC v49))) fun v50 => oCap fun c2 => oLet (sC 128 [(xC (.str [102, 114, 101, 115, 104])), (xC (.str [40, 41, 76, 79, 98, 106, 101, 99, 116, 59])), (xC (.bool true))]) fun v51 => oCap fun d2 => oLate [q1] <| oCap fun c3 => oLet (sC 128 [(xC (.str [99, 97, 108, 108])), (xC (.str [40, 76, 84, 97, 115, 107, 59, 41, 86])), (xC (.bool true))]) fun v52 => oCap fun d3 => oLate [q1] <| oLet (sN (aRow 2 8 [8, 8] [(xC v51), (xC v52)])) fun v53 => oCap fun c5 => oLet (sM (tAppend 104 8 (xC v50) (xC v53))) fun v54 => oCap fun d5 => oLet (sV (vAddr 6 (xW 6))) fun v55 => oCap fun c7 => oDo (sM (tStore 1 (xC v55) (xC v54))) (oCap fun d7 => oEnd)))
 (cSeq (cOps (oLet (sV ((xW 1))) fun v56 => oLet (sL (lLoad (some 7) (xW 6))) fun v57 => oLet (sN (aRow 1 7 [7] [(xC v57)])) fun v58 => oLet (sM (tAppend 112 7 (xC v56) (xC v58))) fun v59 => oSet 0 (sV ((xC v59))) fun v0 => oEnd))
 cRet)))))))))), [.tmp (way 0)]⟩
theorem Tryz.k75_c : compF Tryz.prog [7, 8, 9, 14, 15, 16, 17, 18, 19, 20, 21, 22, 26, 27, 28, 29, 30, 31, 32, 33, 34, 35, 36, 37, 38, 39, 40, 41, 42, 43, 44, 45, 46, 47, 48, 49, 50, 51, 52, 53, 54, 55, 56, 57, 58, 59] Tryz.f75 = some Tryz.k75 := by kernel_rfl
def Tryz.k76 : KF := ⟨[(way 0)], (cSeq (cOps (oSet 1 (sN (aBox (xW 0))) fun v1 => oSet 2 (sN (aAlloc [.str [], .str [], .bool false, .bool false, .nilslice, .nilslice, .nilslice])) fun v2 => oEnd))
 (cSeq (cOps (oLet (sV (vAddr 4 (xW 1))) fun v5 => oLet (sL (lLoad none (xC v5))) fun v6 => oCap fun c2 => oLet (sC 129 [(xC v6)]) fun v7 => oCap fun d2 => oLet (sV (vAddr 5 (xW 1))) fun v8 => oLet (sLo [c2] d2.next (lLoad none (xC v8))) fun v9 => oCap fun c5 => oLet (sC 130 [(xC v9)]) fun v10 => oCap fun d5 => oLet (sV (vAddr 6 (xW 1))) fun v11 => oLet (sLo [c5, c2] d5.next (lLoad none (xC v11))) fun v12 => oCap fun c8 => oLet (sC 131 [(xC v12)]) fun v13 => oCap fun d8 => oLet (sV (vAddr 4 (xW 1))) fun v14 => oCap fun c10 => oDo (sM (tStore 1 (xC v14) (xC v7))) (oCap fun d10 => oLet (sV (vAddr 5 (xW 1))) fun v15 => oCap fun c12 => oDo (sM (tStore 1 (xC v15) (xC v10))) (oCap fun d12 => oLet (sV (vAddr 6 (xW 1))) fun v16 => oCap fun c14 => oDo (sM (tStore 1 (xC v16) (xC v13))) (oCap fun d14 => oEnd)))))
 (cSeq (cSeq (cOps (oLet (sV (vAddr 6 (xW 1))) fun v17 => oSet 18 (sL (lLoad none (xC v17))) fun v18 => oSet 19 (sV (vLen (xC v18))) fun v19 => oSet 20 (sV ((xC (.int .i64 0)))) fun v20 => oEnd))
 (cBlock 0 (cLoop (cSeq (cOps (oSet 21 (sV (vLt .i64 (xW 20) (xW 19))) fun v21 => oEnd))
 (cSeq (cCond (xW 21) cSkip
 (cExit 0))
 (cSeq (cBlock 1 (cSeq (cOps (oLet (sV ((xW 20))) fun v22 => oLet (sV (vIdx 8 (xW 18) (xC v22))) fun v23 => oLet (sL (lLoad (some 8) (xC v23))) fun v24 => oSet 4 (sN (aAlloc [.str [], .str [], .bool false, .bool false, .int .i64 0, .int .i64 0, .nilslice, .nilslice])) fun v4 => oSet 3 (sV ((xC v22))) fun v3 => oDo (sM (tStore 8 (xC v4) (xC v24))) (oEnd)))
 (cOps (oLet (sV (vAddr 6 (xW 1))) fun v25 => oSee (seeL (lLoad none (xC v25))) fun q1 => oLet (sLo [] 0 (lLoad none (xC v25))) fun v26 => oLet (sV ((xW 3))) fun v27 => oLet (sL (lLoad (some 8) (xW 4))) fun v28 => oCap fun c4 => oLet (sC 132 [(xC v28)]) fun v29 => oCap fun d4 => oLate [q1] <| oLet (sV (vIdx 8 (xC v26) (xC v27))) fun v30 => oCap fun c6 => oDo (sM (tStore 8 (xC v30) (xC v29))) (oCap fun d6 => oEnd)))))
 (cOps (oLet (sV (vAdd .i64 (xW 20) (xC (.int .i64 1)))) fun v31 => oSet 20 (sV ((xC v31))) fun v20 => oEnd))))))))
 (cSeq (cOps (oLet (sL (lLoad (some 7) (xW 1))) fun v32 => oDo (sM (tStore 7 (xW 2) (xC v32))) (oEnd)))
 cRet)))), [.cell (way 2) (some 7)]⟩
theorem Tryz.k76_c : compF Tryz.prog [5, 6, 7, 8, 9, 10, 11, 12, 13, 14, 15, 16, 17, 22, 23, 24, 25, 26, 27, 28, 29, 30, 31, 32] Tryz.f76 = some Tryz.k76 := by kernel_rfl
def Tryz.k77 : KF := ⟨[(way 0), (way 1)], (cSeq (cOps (oLet (sV ((xW 0))) fun v5 => oLet (sV (vLen (xC v5))) fun v6 => oSet 4 (sV ((xC v6))) fun v4 => oEnd))
 (cOps (oLet (sV ((xW 0))) fun v7 => oLet (sV ((xW 4))) fun v8 => oLet (sV (vToI .u64 (xC v8))) fun v10 => oLet (sC 134 [(xC v10)]) fun v11 => oLet (sV ((xW 1))) fun v12 => oLet (sC 133 [(xC v7), (xC (.int .i64 0)), (xC v8), (xC v11), (xC v12)]) fun v13 => oEnd))), []⟩
theorem Tryz.k77_c : compF Tryz.prog [5, 6, 7, 8, 9, 10, 11, 12, 13] Tryz.f77 = some Tryz.k77 := by kernel_rfl
def Tryz.k78 : KF := ⟨[(way 0), (way 1)], (cSeq (cOps (oSet 2 (sN (aBox (xW 0))) fun v2 => oSet 3 (sN (aBox (xW 1))) fun v3 => oSet 4 (sV ((xC (.int .i64 0)))) fun v4 => oEnd))
 (cSeq (cOps (oLet (sV (vAddr 0 (xW 2))) fun v5 => oLet (sL (lLoad none (xC v5))) fun v6 => oLet (sV (vAddr 0 (xW 3))) fun v7 => oLet (sL (lLoad none (xC v7))) fun v8 => oLet (sC 79 [(xC v6), (xC v8)]) fun v9 => oSet 4 (sV ((xC v9))) fun v4 => oEnd))
 cRet)), [.tmp (way 4)]⟩
theorem Tryz.k78_c : compF Tryz.prog [5, 6, 7, 8, 9] Tryz.f78 = some Tryz.k78 := by kernel_rfl
def Tryz.k79 : KF := ⟨[(way 0), (way 1)], (cSeq (cOps (oSet 4 (sV ((xC (.int .i64 0)))) fun v4 => oEnd))
 (cSeq (cOps (oLet (sV ((xW 0))) fun v7 => oLet (sC 135 [(xC v7)]) fun v8 => oSet 5 (sV ((xC v8))) fun v5 => oEnd))
 (cSeq (cOps (oLet (sV ((xW 1))) fun v9 => oLet (sC 135 [(xC v9)]) fun v10 => oSet 6 (sV ((xC v10))) fun v6 => oEnd))
 (cSeq (cSeq (cOps (oSet 11 (sV ((xW 5))) fun v11 => oEnd))
 (cCond (xW 11) (cSeq (cSeq (cOps (oSet 12 (sV ((xW 6))) fun v12 => oEnd))
 (cCond (xW 12) (cSeq (cOps (oSet 4 (sV ((xC (.int .i64 0)))) fun v4 => oEnd))
 cRet)
 cSkip))
 (cSeq (cOps (oSet 4 (sV ((xC (.int .i64 (-1))))) fun v4 => oEnd))
 cRet))
 cSkip))
 (cSeq (cSeq (cOps (oSet 13 (sV ((xW 6))) fun v13 => oEnd))
 (cCond (xW 13) (cSeq (cOps (oSet 4 (sV ((xC (.int .i64 1)))) fun v4 => oEnd))
 cRet)
 cSkip))
 (cSeq (cSeq (cOps (oLet (sV ((xW 0))) fun v14 => oLet (sV ((xW 1))) fun v15 => oSet 16 (sV (vStr .lss (xC v14) (xC v15))) fun v16 => oEnd))
 (cCond (xW 16) (cSeq (cOps (oSet 4 (sV ((xC (.int .i64 (-1))))) fun v4 => oEnd))
 cRet)
 cSkip))
 (cSeq (cSeq (cOps (oLet (sV ((xW 0))) fun v17 => oLet (sV ((xW 1))) fun v18 => oSet 19 (sV (vStr .gtr (xC v17) (xC v18))) fun v19 => oEnd))
 (cCond (xW 19) (cSeq (cOps (oSet 4 (sV ((xC (.int .i64 1)))) fun v4 => oEnd))
 cRet)
 cSkip))
 (cSeq (cOps (oSet 4 (sV ((xC (.int .i64 0)))) fun v4 => oEnd))
 cRet)))))))), [.tmp (way 4)]⟩
theorem Tryz.k79_c : compF Tryz.prog [7, 8, 9, 10, 14, 15, 17, 18] Tryz.f79 = some Tryz.k79 := by kernel_rfl
def Tryz.k80 : KF := ⟨[(way 0), (way 1)], (cSeq (cOps (oSet 3 (sN (aBox (xW 1))) fun v3 => oSet 4 (sV ((xC (.bool false)))) fun v4 => oEnd))
 (cSeq (cOps (oLet (sV ((xW 0))) fun v8 => oLet (sV (vAddr 1 (xW 3))) fun v9 => oLet (sL (lLoad none (xC v9))) fun v10 => oLet (sC 136 [(xC v8), (xC v10)]) fun v11 => oLet (sV (vExtract 0 (xC v11))) fun v12 => oLet (sV (vExtract 1 (xC v11))) fun v13 => oSet 5 (sN (aAlloc [.str [], .str [], .bool false, .bool false, .nilslice, .nilslice, .nilslice])) fun v5 => oDo (sM (tStore 7 (xC v5) (xC v12))) (oSet 6 (sV ((xC v13))) fun v6 => oEnd)))
 (cSeq (cOps (oLet (sV ((xW 6))) fun v14 => oLet (sG (xC v14) true (sV (vAddr 2 (xW 5)))) fun v16 => oLet (sG (xC v14) true (sL (lLoad none (xC v16)))) fun v17 => oLet (sG (xC v14) true (sV (vUn .not (xC v17)))) fun v18 => oLet (sV (vPick (xC v14) (xC v18) (xC (.bool false)))) fun v19 => oLet (sG (xC v19) true (sV (vAddr 0 (xW 5)))) fun v21 => oLet (sG (xC v19) true (sL (lLoad none (xC v21)))) fun v22 => oLet (sG (xC v19) true (sV (vSNe (xC v22) (xC (.str [83, 121, 115]))))) fun v23 => oLet (sV (vPick (xC v19) (xC v23) (xC (.bool false)))) fun v24 => oLet (sG (xC v24) true (sV (vAddr 2 (xW 3)))) fun v26 => oLet (sG (xC v24) true (sL (lLoad none (xC v26)))) fun v27 => oLet (sG (xC v24) true (sV (vUn .not (xC v27)))) fun v28 => oLet (sG (xC v24) true (sV ((xC v28)))) fun v29 => oLet (sG (xC v29) false (sV (vAddr 0 (xW 5)))) fun v30 => oLet (sG (xC v29) false (sL (lLoad none (xC v30)))) fun v31 => oLet (sG (xC v29) false (sV (vSEq (xC v31) (xC (.str [79, 98, 106, 101, 99, 116]))))) fun v32 => oLet (sG (xC v24) true (sV (vPick (xC v29) (xC (.bool true)) (xC v32)))) fun v33 => oLet (sV (vPick (xC v24) (xC v33) (xC (.bool false)))) fun v34 => oSet 4 (sV ((xC v34))) fun v4 => oEnd))
 cRet))), [.tmp (way 4)]⟩
theorem Tryz.k80_c : compF Tryz.prog [8, 9, 10, 11, 7, 12, 13, 14, 15, 16, 17, 18, 19, 20, 21, 22, 23, 24, 25, 26, 27, 28, 29, 30, 31, 32, 33, 34] Tryz.f80 = some Tryz.k80 := by kernel_rfl
def Tryz.k81 : KF := ⟨[(way 0), (way 1)], (cSeq (cOps (oSet 3 (sN (aBox (xW 1))) fun v3 => oSet 4 (sV ((xC (.bool false)))) fun v4 => oEnd))
 (cSeq (cSeq (cOps (oLet (sV (vAddr 4 (xW 3))) fun v9 => oSet 10 (sL (lLoad none (xC v9))) fun v10 => oSet 11 (sV (vLen (xC v10))) fun v11 => oSet 12 (sV ((xC (.int .i64 0)))) fun v12 => oEnd))
 (cBlock 0 (cLoop (cSeq (cOps (oSet 13 (sV (vLt .i64 (xW 12) (xW 11))) fun v13 => oEnd))
 (cSeq (cCond (xW 13) cSkip
 (cExit 0))
 (cSeq (cBlock 1 (cSeq (cOps (oLet (sV ((xW 12))) fun v14 => oLet (sV (vIdx 1 (xW 10) (xC v14))) fun v15 => oLet (sL (lLoad none (xC v15))) fun v16 => oSet 5 (sV ((xC v14))) fun v5 => oSet 6 (sV ((xC v16))) fun v6 => oEnd))
 (cSeq (cOps (oLet (sV ((xW 0))) fun v18 => oLet (sV ((xW 6))) fun v19 => oLet (sC 136 [(xC v18), (xC v19)]) fun v20 => oLet (sV (vExtract 0 (xC v20))) fun v21 => oLet (sV (vExtract 1 (xC v20))) fun v22 => oSet 7 (sN (aAlloc [.str [], .str [], .bool false, .bool false, .nilslice, .nilslice, .nilslice])) fun v7 => oDo (sM (tStore 7 (xC v7) (xC v21))) (oSet 8 (sV ((xC v22))) fun v8 => oEnd)))
 (cSeq (cOps (oLet (sV ((xW 8))) fun v23 => oLet (sV (vUn .not (xC v23))) fun v24 => oLet (sG (xC v24) false (sV (vAddr 2 (xW 7)))) fun v26 => oLet (sG (xC v24) false (sL (lLoad none (xC v26)))) fun v27 => oLet (sG (xC v24) false (sV (vUn .not (xC v27)))) fun v28 => oLet (sV (vPick (xC v24) (xC (.bool true)) (xC v28))) fun v29 => oLet (sG (xC v29) false (sV (vAddr 4 (xW 3)))) fun v31 => oLet (sG (xC v29) false (sL (lLoad none (xC v31)))) fun v32 => oLet (sG (xC v29) false (sV ((xW 5)))) fun v33 => oLet (sG (xC v29) false (sV (vSlice 1 (xC v32) [] [(xC v33)] []))) fun v34 => oLet (sG (xC v29) false (sV ((xW 6)))) fun v35 => oLet (sG (xC v29) false (sC 137 [(xC v34), (xC v35)])) fun v36 => oSet 37 (sV (vPick (xC v29) (xC (.bool true)) (xC v36))) fun v37 => oEnd))
 (cCond (xW 37) (cSeq (cOps (oSet 4 (sV ((xC (.bool false)))) fun v4 => oEnd))
 cRet)
 cSkip)))))
 (cOps (oLet (sV (vAdd .i64 (xW 12) (xC (.int .i64 1)))) fun v38 => oSet 12 (sV ((xC v38))) fun v12 => oEnd))))))))
 (cSeq (cOps (oSet 4 (sV ((xC (.bool true)))) fun v4 => oEnd))
 cRet))), [.tmp (way 4)]⟩
theorem Tryz.k81_c : compF Tryz.prog [9, 14, 15, 16, 18, 19, 20, 17, 21, 22, 23, 24, 25, 26, 27, 28, 29, 30, 31, 32, 33, 34, 35, 36, 38] Tryz.f81 = some Tryz.k81 := by kernel_rfl
def Tryz.k82 : KF := ⟨[(way 0), (way 1)], (cSeq (cOps (oSet 3 (sN (aBox (xW 1))) fun v3 => oSet 4 (sV ((xC (.bool false)))) fun v4 => oEnd))
 (cSeq (cOps (oLet (sN (aNewMap)) fun v6 => oSet 5 (sV ((xC v6))) fun v5 => oEnd))
 (cSeq (cOps (oLet (sV ((xW 0))) fun v7 => oLet (sV (vAddr 0 (xW 3))) fun v8 => oLet (sL (lLoad none (xC v8))) fun v9 => oLet (sV ((xW 5))) fun v10 => oLet (sC 138 [(xC v7), (xC v9), (xC v10)]) fun v11 => oEnd))
 (cSeq (cOps (oLet (sV ((xW 0))) fun v12 => oLet (sV (vAddr 1 (xW 3))) fun v13 => oLet (sL (lLoad none (xC v13))) fun v14 => oCap fun c3 => oLet (sC 139 [(xC v12), (xC v14)]) fun v15 => oCap fun d3 => oLet (sV (vAddr 0 (xW 3))) fun v16 => oLet (sLo [c3] d3.next (lLoad none (xC v16))) fun v17 => oCap fun c6 => oLet (sC 137 [(xC v15), (xC v17)]) fun v18 => oCap fun d6 => oLet (sV (vUn .not (xC v18))) fun v19 => oLet (sG (xC v19) true (sV (vAddr 2 (xW 3)))) fun v21 => oLet (sG (xC v19) true (sL (lLoad none (xC v21)))) fun v22 => oLet (sG (xC v19) true (sV (vUn .not (xC v22)))) fun v23 => oLet (sG (xC v19) true (sV ((xC v23)))) fun v24 => oLet (sG (xC v24) false (sV ((xW 5)))) fun v25 => oLet (sG (xC v24) false (sV (vAddr 0 (xW 3)))) fun v26 => oLet (sG (xC v24) false (sL (lLoad none (xC v26)))) fun v27 => oLet (sG (xC v24) false (sL (lLookup (.one .str) (some (.int .i64 0)) false (xC v25) (xC v27)))) fun v28 => oLet (sG (xC v24) false (sV (vEq .i64 (xC v28) (xC (.int .i64 0))))) fun v29 => oLet (sG (xC v19) true (sV (vPick (xC v24) (xC (.bool true)) (xC v29)))) fun v30 => oLet (sV (vPick (xC v19) (xC v30) (xC (.bool false)))) fun v31 => oSet 4 (sV ((xC v31))) fun v4 => oEnd))
 cRet)))), [.tmp (way 4)]⟩
theorem Tryz.k82_c : compF Tryz.prog [6, 7, 8, 9, 10, 11, 12, 13, 14, 15, 16, 17, 18, 19, 20, 21, 22, 23, 24, 25, 26, 27, 28, 29, 30, 31] Tryz.f82 = some Tryz.k82 := by kernel_rfl
def Tryz.k83 : KF := ⟨[(way 0), (way 1)], (cSeq (cOps (oSet 3 (sN (aBox (xW 1))) fun v3 => oSet 4 (sV ((xC (.bool false)))) fun v4 => oEnd))
 (cSeq (cSeq (cOps (oLet (sV (vAddr 5 (xW 3))) fun v9 => oSet 10 (sL (lLoad none (xC v9))) fun v10 => oSet 11 (sV (vLen (xC v10))) fun v11 => oSet 12 (sV ((xC (.int .i64 0)))) fun v12 => oEnd))
 (cBlock 0 (cLoop (cSeq (cOps (oSet 13 (sV (vLt .i64 (xW 12) (xW 11))) fun v13 => oEnd))
 (cSeq (cCond (xW 13) cSkip
 (cExit 0))
 (cSeq (cBlock 1 (cSeq (cOps (oLet (sV ((xW 12))) fun v14 => oLet (sV (vIdx 3 (xW 10) (xC v14))) fun v15 => oLet (sL (lLoad (some 3) (xC v15))) fun v16 => oSet 6 (sN (aAlloc [.str [], .str [], .bool false])) fun v6 => oSet 5 (sV ((xC v14))) fun v5 => oDo (sM (tStore 3 (xC v6) (xC v16))) (oEnd)))
 (cSeq (cOps (oLet (sV (vAddr 5 (xW 3))) fun v17 => oLet (sL (lLoad none (xC v17))) fun v18 => oLet (sV ((xW 5))) fun v19 => oLet (sV (vSlice 3 (xC v18) [] [(xC v19)] [])) fun v20 => oLet (sV (vFunc 141 [(xW 6)])) fun v21 => oSet 22 (sC 140 [(xC v20), (xC v21)]) fun v22 => oEnd))
 (cCond (xW 22) (cSeq (cOps (oSet 4 (sV ((xC (.bool false)))) fun v4 => oEnd))
 cRet)
 cSkip))))
 (cOps (oLet (sV (vAdd .i64 (xW 12) (xC (.int .i64 1)))) fun v23 => oSet 12 (sV ((xC v23))) fun v12 => oEnd))))))))
 (cSeq (cSeq (cOps (oLet (sV (vAddr 6 (xW 3))) fun v24 => oSet 25 (sL (lLoad none (xC v24))) fun v25 => oSet 26 (sV (vLen (xC v25))) fun v26 => oSet 27 (sV ((xC (.int .i64 0)))) fun v27 => oEnd))
 (cBlock 2 (cLoop (cSeq (cOps (oSet 28 (sV (vLt .i64 (xW 27) (xW 26))) fun v28 => oEnd))
 (cSeq (cCond (xW 28) cSkip
 (cExit 2))
 (cSeq (cBlock 3 (cSeq (cOps (oLet (sV ((xW 27))) fun v29 => oLet (sV (vIdx 8 (xW 25) (xC v29))) fun v30 => oLet (sL (lLoad (some 8) (xC v30))) fun v31 => oSet 8 (sN (aAlloc [.str [], .str [], .bool false, .bool false, .int .i64 0, .int .i64 0, .nilslice, .nilslice])) fun v8 => oSet 7 (sV ((xC v29))) fun v7 => oDo (sM (tStore 8 (xC v8) (xC v31))) (oEnd)))
 (cSeq (cOps (oLet (sV (vAddr 6 (xW 3))) fun v32 => oLet (sL (lLoad none (xC v32))) fun v33 => oLet (sV ((xW 7))) fun v34 => oLet (sV (vSlice 8 (xC v33) [] [(xC v34)] [])) fun v35 => oLet (sV (vFunc 143 [(xW 8)])) fun v36 => oSet 37 (sC 142 [(xC v35), (xC v36)]) fun v37 => oEnd))
 (cCond (xW 37) (cSeq (cOps (oSet 4 (sV ((xC (.bool false)))) fun v4 => oEnd))
 cRet)
 cSkip))))
 (cOps (oLet (sV (vAdd .i64 (xW 27) (xC (.int .i64 1)))) fun v38 => oSet 27 (sV ((xC v38))) fun v27 => oEnd))))))))
 (cSeq (cOps (oSet 4 (sV ((xC (.bool true)))) fun v4 => oEnd))
 cRet)))), [.tmp (way 4)]⟩
theorem Tryz.k83_c : compF Tryz.prog [9, 14, 15, 16, 17, 18, 19, 20, 21, 23, 24, 29, 30, 31, 32, 33, 34, 35, 36, 38] Tryz.f83 = some Tryz.k83 := by kernel_rfl
def Tryz.k84 : KF := ⟨[(way 0), (way 1)], (cSeq (cOps (oSet 3 (sN (aBox (xW 1))) fun v3 => oSet 4 (sV ((xC (.bool false)))) fun v4 => oEnd))
 (cSeq (cSeq (cOps (oLet (sV (vAddr 2 (xW 3))) fun v6 => oLet (sL (lLoad none (xC v6))) fun v7 => oSet 8 (sV (vUn .not (xC v7))) fun v8 => oEnd))
 (cCond (xW 8) (cSeq (cOps (oSet 4 (sV ((xC (.bool true)))) fun v4 => oEnd))
 cRet)
 cSkip))
 (cSeq (cOps (oLet (sV (vAddr 6 (xW 3))) fun v9 => oLet (sL (lLoad none (xC v9))) fun v10 => oLet (sC 142 [(xC v10), (xC (.func 144 []))]) fun v11 => oSet 5 (sV ((xC v11))) fun v5 => oEnd))
 (cSeq (cOps (oLet (sV (vAddr 3 (xW 3))) fun v12 => oLet (sL (lLoad none (xC v12))) fun v13 => oLet (sG (xC v13) true (sV ((xW 5)))) fun v15 => oLet (sG (xC v13) true (sV (vUn .not (xC v15)))) fun v16 => oLet (sV (vPick (xC v13) (xC v16) (xC (.bool false)))) fun v17 => oLet (sG (xC v17) true (sV (vAddr 5 (xW 3)))) fun v19 => oLet (sG (xC v17) true (sL (lLoad none (xC v19)))) fun v20 => oLet (sG (xC v17) true (sC 140 [(xC v20), (xC (.func 145 []))])) fun v21 => oLet (sG (xC v17) true (sV (vUn .not (xC v21)))) fun v22 => oLet (sV (vPick (xC v17) (xC v22) (xC (.bool false)))) fun v23 => oSet 4 (sV ((xC v23))) fun v4 => oEnd))
 cRet)))), [.tmp (way 4)]⟩
theorem Tryz.k84_c : compF Tryz.prog [6, 7, 9, 10, 11, 12, 13, 14, 15, 16, 17, 18, 19, 20, 21, 22, 23] Tryz.f84 = some Tryz.k84 := by kernel_rfl
def Tryz.k85 : KF := ⟨[(way 0), (way 1)], (cSeq (cOps (oSet 3 (sN (aBox (xW 1))) fun v3 => oSet 4 (sV ((xC (.bool false)))) fun v4 => oEnd))
 (cSeq (cOps (oLet (sV (vAddr 3 (xW 3))) fun v5 => oLet (sL (lLoad none (xC v5))) fun v6 => oLet (sG (xC v6) false (sV (vAddr 6 (xW 3)))) fun v8 => oLet (sG (xC v6) false (sL (lLoad none (xC v8)))) fun v9 => oLet (sG (xC v6) false (sC 142 [(xC v9), (xC (.func 146 []))])) fun v10 => oLet (sG (xC v6) false (sV (vUn .not (xC v10)))) fun v11 => oLet (sV (vPick (xC v6) (xC (.bool true)) (xC v11))) fun v12 => oSet 4 (sV ((xC v12))) fun v4 => oEnd))
 cRet)), [.tmp (way 4)]⟩
theorem Tryz.k85_c : compF Tryz.prog [5, 6, 7, 8, 9, 10, 11, 12] Tryz.f85 = some Tryz.k85 := by kernel_rfl
def Tryz.k86 : KF := ⟨[(way 0), (way 1)], (cSeq (cOps (oSet 3 (sN (aBox (xW 1))) fun v3 => oSet 4 (sV ((xC (.bool false)))) fun v4 => oEnd))
 (cSeq (cSeq (cOps (oLet (sV (vAddr 3 (xW 3))) fun v13 => oSet 14 (sL (lLoad none (xC v13))) fun v14 => oEnd))
 (cCond (xW 14) (cSeq (cOps (oSet 4 (sV ((xC (.bool true)))) fun v4 => oEnd))
 cRet)
 cSkip))
 (cSeq (cSeq (cOps (oLet (sV ((xW 0))) fun v15 => oLet (sV (vAddr 0 (xW 3))) fun v16 => oLet (sL (lLoad none (xC v16))) fun v17 => oCap fun c3 => oLet (sC 139 [(xC v15), (xC v17)]) fun v18 => oCap fun d3 => oLet (sV (vAddr 0 (xW 3))) fun v20 => oLet (sLo [c3] d3.next (lLoad none (xC v20))) fun v21 => oCap fun c7 => oLet (sC 147 [(xC v15), (xC v21)]) fun v22 => oCap fun d7 => oCap fun c8 => oSet 23 (sM (tAppend 16 1 (xC v18) (xC v22))) fun v23 => oCap fun d8 => oSet 24 (sV (vLen (xC v23))) fun v24 => oSet 25 (sV ((xC (.int .i64 0)))) fun v25 => oEnd))
 (cBlock 0 (cLoop (cSeq (cOps (oSet 26 (sV (vLt .i64 (xW 25) (xW 24))) fun v26 => oEnd))
 (cSeq (cCond (xW 26) cSkip
 (cExit 0))
 (cSeq (cBlock 1 (cSeq (cOps (oLet (sV (vIdx 1 (xW 23) (xW 25))) fun v27 => oLet (sL (lLoad none (xC v27))) fun v28 => oSet 6 (sV ((xC v28))) fun v6 => oEnd))
 (cSeq (cOps (oLet (sV ((xW 0))) fun v30 => oLet (sV ((xW 6))) fun v31 => oLet (sC 136 [(xC v30), (xC v31)]) fun v32 => oLet (sV (vExtract 0 (xC v32))) fun v33 => oLet (sV (vExtract 1 (xC v32))) fun v34 => oSet 7 (sN (aAlloc [.str [], .str [], .bool false, .bool false, .nilslice, .nilslice, .nilslice])) fun v7 => oDo (sM (tStore 7 (xC v7) (xC v33))) (oEnd)))
 (cSeq (cOps (oLet (sV (vAddr 6 (xW 7))) fun v35 => oSet 36 (sL (lLoad none (xC v35))) fun v36 => oSet 37 (sV (vLen (xC v36))) fun v37 => oSet 38 (sV ((xC (.int .i64 0)))) fun v38 => oEnd))
 (cBlock 2 (cLoop (cSeq (cOps (oSet 39 (sV (vLt .i64 (xW 38) (xW 37))) fun v39 => oEnd))
 (cSeq (cCond (xW 39) cSkip
 (cExit 2))
 (cSeq (cBlock 3 (cSeq (cOps (oLet (sV (vIdx 8 (xW 36) (xW 38))) fun v40 => oLet (sL (lLoad (some 8) (xC v40))) fun v41 => oSet 10 (sN (aAlloc [.str [], .str [], .bool false, .bool false, .int .i64 0, .int .i64 0, .nilslice, .nilslice])) fun v10 => oDo (sM (tStore 8 (xC v10) (xC v41))) (oEnd)))
 (cSeq (cOps (oLet (sV ((xW 0))) fun v43 => oLet (sV (vAddr 0 (xW 3))) fun v44 => oLet (sL (lLoad none (xC v44))) fun v45 => oLet (sV (vAddr 0 (xW 10))) fun v46 => oLet (sL (lLoad none (xC v46))) fun v47 => oLet (sV (vAddr 1 (xW 10))) fun v48 => oLet (sL (lLoad none (xC v48))) fun v49 => oLet (sC 148 [(xC v43), (xC v45), (xC v47), (xC v49)]) fun v50 => oLet (sV (vExtract 0 (xC v50))) fun v51 => oLet (sV (vExtract 1 (xC v50))) fun v52 => oSet 12 (sV ((xC v52))) fun v12 => oEnd))
 (cSeq (cOps (oLet (sV (vAddr 3 (xW 10))) fun v53 => oLet (sL (lLoad none (xC v53))) fun v54 => oLet (sG (xC v54) true (sV ((xW 12)))) fun v56 => oLet (sG (xC v54) true (sV (vUn .not (xC v56)))) fun v57 => oSet 58 (sV (vPick (xC v54) (xC v57) (xC (.bool false)))) fun v58 => oEnd))
 (cCond (xW 58) (cSeq (cOps (oSet 4 (sV ((xC (.bool false)))) fun v4 => oEnd))
 cRet)
 cSkip)))))
 (cOps (oLet (sV (vAdd .i64 (xW 38) (xC (.int .i64 1)))) fun v59 => oSet 38 (sV ((xC v59))) fun v38 => oEnd)))))))))))
 (cOps (oLet (sV (vAdd .i64 (xW 25) (xC (.int .i64 1)))) fun v60 => oSet 25 (sV ((xC v60))) fun v25 => oEnd))))))))
 (cSeq (cOps (oSet 4 (sV ((xC (.bool true)))) fun v4 => oEnd))
 cRet)))), [.tmp (way 4)]⟩
theorem Tryz.k86_c : compF Tryz.prog [13, 15, 16, 17, 18, 19, 20, 21, 22, 27, 28, 30, 31, 32, 29, 33, 34, 8, 35, 40, 41, 43, 44, 45, 46, 47, 48, 49, 50, 42, 51, 52, 11, 53, 54, 55, 56, 57, 59, 60] Tryz.f86 = some Tryz.k86 := by kernel_rfl
def Tryz.k94 : KF := ⟨[(way 0), (way 1)], (cSeq (cOps (oSet 4 (sV ((xC (.bool false)))) fun v4 => oEnd))
 (cSeq (cOps (oLet (sV ((xW 0))) fun v5 => oLet (sV ((xW 1))) fun v6 => oLet (sC 157 [(xC v5), (xC v6)]) fun v7 => oLet (sV (vGe .i64 (xC v7) (xC (.int .i64 0)))) fun v8 => oSet 4 (sV ((xC v8))) fun v4 => oEnd))
 cRet)), [.tmp (way 4)]⟩
theorem Tryz.k94_c : compF Tryz.prog [5, 6, 7, 8] Tryz.f94 = some Tryz.k94 := by kernel_rfl
def Tryz.k96 : KF := ⟨[(way 0), (way 1)], (cSeq (cOps (oSet 4 (sN (aAlloc [.nilslice, .nilslice, .nilslice, .nilslice])) fun v4 => oSet 5 (sV ((xC (.int .i64 0)))) fun v5 => oEnd))
 (cSeq (cOps (oLet (sV ((xW 0))) fun v9 => oLet (sV ((xW 1))) fun v10 => oLet (sC 158 [(xC v9), (xC v10)]) fun v11 => oLet (sV (vExtract 0 (xC v11))) fun v12 => oLet (sV (vExtract 1 (xC v11))) fun v13 => oSet 6 (sV ((xC v12))) fun v6 => oSet 7 (sV ((xC v13))) fun v7 => oEnd))
 (cSeq (cSeq (cOps (oLet (sV ((xW 7))) fun v14 => oSet 15 (sV (vNe .i64 (xC v14) (xC (.int .i64 0)))) fun v15 => oEnd))
 (cCond (xW 15) (cSeq (cOps (oLet (sV (vFill [.nilslice, .nilslice, .nilslice, .nilslice] [] [])) fun v16 => oLet (sV ((xW 7))) fun v17 => oDo (sM (tStore 4 (xW 4) (xC v16))) (oSet 5 (sV ((xC v17))) fun v5 => oEnd)))
 cRet)
 cSkip))
 (cSeq (cOps (oLet (sV ((xW 6))) fun v18 => oLet (sC 159 [(xC v18)]) fun v19 => oDo (sM (tStore 4 (xW 4) (xC v19))) (oSet 5 (sV ((xC (.int .i64 0)))) fun v5 => oEnd)))
 cRet)))), [.cell (way 4) (some 4), .tmp (way 5)]⟩
theorem Tryz.k96_c : compF Tryz.prog [9, 10, 11, 8, 12, 13, 14, 16, 17, 18, 19] Tryz.f96 = some Tryz.k96 := by kernel_rfl
def Tryz.k97 : KF := ⟨[(way 0)], (cSeq (cOps (oSet 2 (sV ((xC (.nilptr)))) fun v2 => oSet 3 (sV ((xC (.int .i64 0)))) fun v3 => oEnd))
 (cSeq (cOps (oLet (sV ((xW 0))) fun v7 => oLet (sC 149 [(xC v7)]) fun v8 => oLet (sV (vExtract 0 (xC v8))) fun v9 => oLet (sV (vExtract 1 (xC v8))) fun v10 => oSet 4 (sV ((xC v9))) fun v4 => oSet 5 (sV ((xC v10))) fun v5 => oEnd))
 (cSeq (cSeq (cOps (oLet (sV ((xW 5))) fun v11 => oSet 12 (sV (vNe .i64 (xC v11) (xC (.int .i64 0)))) fun v12 => oEnd))
 (cCond (xW 12) (cSeq (cOps (oLet (sV ((xW 5))) fun v13 => oSet 2 (sV ((xC (.nilptr)))) fun v2 => oSet 3 (sV ((xC v13))) fun v3 => oEnd))
 cRet)
 cSkip))
 (cSeq (cOps (oLet (sV ((xW 0))) fun v14 => oLet (sV ((xW 4))) fun v15 => oLet (sC 160 [(xC v14), (xC v15)]) fun v16 => oSet 2 (sV ((xC v16))) fun v2 => oSet 3 (sV ((xC (.int .i64 0)))) fun v3 => oEnd))
 cRet)))), [.tmp (way 2), .tmp (way 3)]⟩
theorem Tryz.k97_c : compF Tryz.prog [7, 8, 6, 9, 10, 11, 13, 14, 15, 16] Tryz.f97 = some Tryz.k97 := by kernel_rfl
def Tryz.k98 : KF := ⟨[(way 0)], (cSeq (cOps (oSet 2 (sV ((xC (.nilslice)))) fun v2 => oEnd))
 (cSeq (cSeq (cOps (oLet (sV ((xW 0))) fun v3 => oSet 4 (sL (lEq (.ptr true) (xC v3) (xC (.nilptr)))) fun v4 => oEnd))
 (cCond (xW 4) (cSeq (cOps (oSet 2 (sV ((xC (.nilslice)))) fun v2 => oEnd))
 cRet)
 cSkip))
 (cSeq (cOps (oLet (sV ((xW 0))) fun v5 => oLet (sV (vNil (xC v5))) fun v6 => oLet (sV (vAddr 1 (xC v6))) fun v7 => oLet (sL (lLoad none (xC v7))) fun v8 => oLet (sC 129 [(xC v8)]) fun v9 => oSet 2 (sV ((xC v9))) fun v2 => oEnd))
 cRet))), [.tmp (way 2)]⟩
theorem Tryz.k98_c : compF Tryz.prog [3, 5, 6, 7, 8, 9] Tryz.f98 = some Tryz.k98 := by kernel_rfl
def Tryz.k99 : KF := ⟨[(way 0), (way 1), (way 2), (way 3), (way 4)], (cSeq (cOps (oSet 10 (sV ((xC (.nilptr)))) fun v10 => oEnd))
 (cSeq (cSeq (cOps (oLet (sV ((xW 0))) fun v11 => oSet 12 (sL (lEq (.ptr true) (xC v11) (xC (.nilptr)))) fun v12 => oEnd))
 (cCond (xW 12) (cSeq (cOps (oSet 10 (sV ((xC (.nilptr)))) fun v10 => oEnd))
 cRet)
 cSkip))
 (cSeq (cSeq (cOps (oLet (sV ((xW 0))) fun v13 => oLet (sV (vNil (xC v13))) fun v15 => oLet (sV (vAddr 1 (xC v15))) fun v16 => oLet (sL (lLoad none (xC v16))) fun v17 => oLet (sG (xC v17) false (sV ((xW 1)))) fun v19 => oLet (sG (xC v17) false (sV ((xW 3)))) fun v20 => oLet (sG (xC v17) false (sV (vLt .i64 (xC v19) (xC v20)))) fun v21 => oLet (sV (vPick (xC v17) (xC (.bool true)) (xC v21))) fun v22 => oLet (sG (xC v22) false (sV ((xW 1)))) fun v24 => oLet (sG (xC v22) false (sV ((xW 4)))) fun v25 => oLet (sG (xC v22) false (sV (vGt .i64 (xC v24) (xC v25)))) fun v26 => oLet (sV (vPick (xC v22) (xC (.bool true)) (xC v26))) fun v27 => oLet (sV (vNil (xC v13))) fun v28 => oLet (sV (vAddr 1 (xC v28))) fun v29 => oDo (sM (tStore 1 (xC v29) (xC v27))) (oEnd)))
 (cSeq (cOps (oLet (sV ((xW 0))) fun v30 => oLet (sV (vNil (xC v30))) fun v31 => oLet (sV (vAddr 1 (xC v31))) fun v32 => oSet 33 (sL (lLoad none (xC v32))) fun v33 => oEnd))
 (cCond (xW 33) (cSeq (cOps (oLet (sV ((xW 0))) fun v34 => oSet 10 (sV ((xC v34))) fun v10 => oEnd))
 cRet)
 cSkip)))
 (cSeq (cBlock 0 (cLoop (cSeq (cSeq (cOps (oLet (sV ((xW 2))) fun v35 => oSet 36 (sV (vGt .i64 (xC v35) (xC (.int .i64 0)))) fun v36 => oEnd))
 (cCond (xW 36) cSkip
 (cExit 0)))
 (cBlock 1 (cSeq (cOps (oLet (sV ((xW 2))) fun v37 => oLet (sV (vSub .i64 (xC v37) (xC (.int .i64 1)))) fun v38 => oSet 2 (sV ((xC v38))) fun v2 => oEnd))
 (cOps (oLet (sV ((xW 0))) fun v39 => oLet (sV (vNil (xC v39))) fun v41 => oLet (sV (vAddr 0 (xC v41))) fun v42 => oLet (sL (lLoad none (xC v42))) fun v43 => oLet (sV ((xW 1))) fun v44 => oLet (sV ((xW 2))) fun v45 => oLet (sV (vMul .i64 (xC (.int .i64 8)) (xC v45))) fun v46 => oLet (sV (vSh .shr .i64 (xC v44) (xC v46))) fun v47 => oLet (sV (vToI .u8 (xC v47))) fun v48 => oLet (sN (aRow 1 1 [1] [(xC v48)])) fun v49 => oLet (sM (tAppend 1 1 (xC v43) (xC v49))) fun v50 => oLet (sV (vNil (xC v39))) fun v51 => oLet (sV (vAddr 0 (xC v51))) fun v52 => oDo (sM (tStore 1 (xC v52) (xC v50))) (oEnd))))))))
 (cSeq (cOps (oLet (sV ((xW 0))) fun v53 => oSet 10 (sV ((xC v53))) fun v10 => oEnd))
 cRet))))), [.tmp (way 10)]⟩
theorem Tryz.k99_c : compF Tryz.prog [11, 13, 14, 15, 16, 17, 18, 19, 20, 21, 22, 23, 24, 25, 26, 27, 28, 29, 30, 31, 32, 34, 35, 37, 38, 39, 40, 41, 42, 43, 44, 45, 46, 47, 48, 49, 50, 51, 52, 53] Tryz.f99 = some Tryz.k99 := by kernel_rfl
def Tryz.k100 : KF := ⟨[(way 0)], (cSeq (cOps (oSet 2 (sV ((xC (.bool false)))) fun v2 => oEnd))
 (cSeq (cOps (oLet (sV ((xW 0))) fun v3 => oLet (sL (lEq (.ptr true) (xC v3) (xC (.nilptr)))) fun v4 => oLet (sG (xC v4) false (sV ((xC v3)))) fun v6 => oLet (sG (xC v4) false (sV (vNil (xC v6)))) fun v7 => oLet (sG (xC v4) false (sV (vAddr 1 (xC v7)))) fun v8 => oLet (sG (xC v4) false (sL (lLoad none (xC v8)))) fun v9 => oLet (sV (vPick (xC v4) (xC (.bool true)) (xC v9))) fun v10 => oSet 2 (sV ((xC v10))) fun v2 => oEnd))
 cRet)), [.tmp (way 2)]⟩
theorem Tryz.k100_c : compF Tryz.prog [3, 4, 5, 6, 7, 8, 9, 10] Tryz.f100 = some Tryz.k100 := by kernel_rfl
end
end Go.Proofs
