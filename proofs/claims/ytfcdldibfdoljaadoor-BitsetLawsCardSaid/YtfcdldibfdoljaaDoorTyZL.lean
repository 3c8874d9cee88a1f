/- The loops of functions, named. -/
import Derived.Test.YtfcdldibfdoljaaDoorTyZKT
set_option linter.unusedVariables false
set_option linter.unusedSimpArgs false
set_option linter.unusedSectionVars false
namespace Go.Proofs
open Go.Sh
set_option linter.unusedVariables false
noncomputable section
def Tryd.l3_0 : Cd := (cSeq (cSeq (cOps (oLet (sV ((xW 14))) fun v32 => oLet (sV ((xW 9))) fun v33 => oLet (sV (vLen (xC v33))) fun v34 => oSet 35 (sV (vLt .i64 (xC v32) (xC v34))) fun v35 => oEnd))
 (cCond (xW 35) cSkip
 (cExit 0)))
 (cSeq (cBlock 1 (cSeq (cOps (oLet (sV ((xW 10))) fun v38 => oLet (sV ((xW 9))) fun v39 => oLet (sV ((xW 14))) fun v40 => oLet (sV (vIdx 1 (xC v39) (xC v40))) fun v41 => oLet (sL (lLoad none (xC v41))) fun v42 => oSet 43 (sC 8 [(xC v38), (xC v42)]) fun v43 => oEnd))
 (cCond (xW 43) (cOps (oLet (sV ((xW 12))) fun v44 => oLet (sV ((xW 9))) fun v45 => oLet (sV ((xW 14))) fun v46 => oLet (sV (vIdx 1 (xC v45) (xC v46))) fun v47 => oLet (sL (lLoad none (xC v47))) fun v48 => oLet (sN (aRow 1 1 [1] [(xC v48)])) fun v49 => oLet (sM (tAppend 8 1 (xC v44) (xC v49))) fun v50 => oSet 12 (sV ((xC v50))) fun v12 => oEnd))
 (cSeq (cOps (oLet (sV ((xW 11))) fun v51 => oLet (sV ((xW 9))) fun v52 => oLet (sV ((xW 14))) fun v53 => oLet (sV (vIdx 1 (xC v52) (xC v53))) fun v54 => oLet (sL (lLoad none (xC v54))) fun v55 => oLet (sN (aRow 1 1 [1] [(xC v55)])) fun v56 => oLet (sM (tAppend 8 1 (xC v51) (xC v56))) fun v57 => oSet 11 (sV ((xC v57))) fun v11 => oEnd))
 (cOps (oSet 13 (sV ((xC (.bool false)))) fun v13 => oEnd))))))
 (cOps (oLet (sV ((xW 14))) fun v36 => oLet (sV (vAdd .i64 (xC v36) (xC (.int .i64 1)))) fun v37 => oSet 14 (sV ((xC v37))) fun v14 => oEnd))))
theorem Tryd.k3_eq : Tryd.k3 = ⟨[(way 0), (way 1), (way 2)], (cSeq (cOps (oSet 6 (sV ((xC (.bool false)))) fun v6 => oEnd))
 (cSeq (cSeq (cOps (oLet (sV ((xW 0))) fun v15 => oLet (sV (vLen (xC v15))) fun v16 => oLet (sV (vGt .i64 (xC v16) (xC (.int .i64 200)))) fun v17 => oLet (sG (xC v17) false (sV ((xW 1)))) fun v19 => oLet (sG (xC v17) false (sV (vLen (xC v19)))) fun v20 => oLet (sG (xC v17) false (sV (vGt .i64 (xC v20) (xC (.int .i64 200))))) fun v21 => oSet 22 (sV (vPick (xC v17) (xC (.bool true)) (xC v21))) fun v22 => oEnd))
 (cCond (xW 22) (cSeq (cOps (oLet (sC 5 []) fun v23 => oSet 6 (sV ((xC v23))) fun v6 => oEnd))
 cRet)
 cSkip))
 (cSeq (cOps (oLet (sV ((xW 0))) fun v24 => oLet (sC 6 [(xC v24)]) fun v25 => oLet (sV ((xW 1))) fun v26 => oLet (sC 6 [(xC v26)]) fun v27 => oSet 7 (sN (aAlloc [.nilslice])) fun v7 => oSet 8 (sN (aAlloc [.nilslice])) fun v8 => oDo (sM (tStore 1 (xC v7) (xC v25))) (oDo (sM (tStore 1 (xC v8) (xC v27))) (oEnd))))
 (cSeq (cOps (oLet (sV ((xW 0))) fun v28 => oLet (sC 7 [(xC v28)]) fun v29 => oLet (sV ((xW 1))) fun v30 => oLet (sC 7 [(xC v30)]) fun v31 => oSet 9 (sV ((xC v29))) fun v9 => oSet 10 (sV ((xC v31))) fun v10 => oEnd))
 (cSeq (cOps (oSet 11 (sV ((xC (.nilslice)))) fun v11 => oSet 12 (sV ((xC (.nilslice)))) fun v12 => oEnd))
 (cSeq (cOps (oSet 13 (sV ((xC (.bool true)))) fun v13 => oEnd))
 (cSeq (cSeq (cOps (oSet 14 (sV ((xC (.int .i64 0)))) fun v14 => oEnd))
 (cBlock 0 (cLoop Tryd.l3_0)))
 (cSeq (cOps (oLet (sL (lLoad (some 1) (xW 7))) fun v58 => oLet (sC 10 [(xC v58)]) fun v59 => oLet (sV ((xW 9))) fun v60 => oLet (sC 9 [(xC v59), (xC v60)]) fun v61 => oLet (sG (xC v61) true (sL (lLoad (some 1) (xW 7)))) fun v63 => oLet (sG (xC v61) true (sC 11 [(xC v63)])) fun v64 => oLet (sG (xC v61) true (sV ((xC v60)))) fun v65 => oLet (sG (xC v61) true (sV (vLen (xC v65)))) fun v66 => oLet (sG (xC v61) true (sV (vEq .i64 (xC v64) (xC v66)))) fun v67 => oLet (sV (vPick (xC v61) (xC v67) (xC (.bool false)))) fun v68 => oLet (sG (xC v68) true (sL (lLoad (some 1) (xW 7)))) fun v70 => oLet (sG (xC v68) true (sC 12 [(xC v70)])) fun v71 => oLet (sG (xC v68) true (sV ((xC v60)))) fun v72 => oLet (sG (xC v68) true (sV (vLen (xC v72)))) fun v73 => oLet (sG (xC v68) true (sV (vEq .i64 (xC v73) (xC (.int .i64 0))))) fun v74 => oLet (sG (xC v68) true (sL (lEq .bool (xC v71) (xC v74)))) fun v75 => oLet (sV (vPick (xC v68) (xC v75) (xC (.bool false)))) fun v76 => oLet (sG (xC v76) true (sL (lLoad (some 1) (xW 7)))) fun v78 => oLet (sG (xC v76) true (sV ((xW 2)))) fun v79 => oLet (sG (xC v76) true (sC 13 [(xC v78), (xC v79)])) fun v80 => oLet (sG (xC v76) true (sV ((xC v60)))) fun v81 => oLet (sG (xC v76) true (sV ((xW 2)))) fun v82 => oLet (sG (xC v76) true (sC 8 [(xC v81), (xC v82)])) fun v83 => oLet (sG (xC v76) true (sL (lEq .bool (xC v80) (xC v83)))) fun v84 => oLet (sV (vPick (xC v76) (xC v84) (xC (.bool false)))) fun v85 => oLet (sG (xC v85) true (sL (lLoad (some 1) (xW 7)))) fun v87 => oLet (sG (xC v85) true (sV ((xW 2)))) fun v88 => oLet (sG (xC v85) true (sC 14 [(xC v87), (xC v88)])) fun v89 => oLet (sG (xC v85) true (sC 10 [(xC v89)])) fun v90 => oLet (sG (xC v85) true (sN (aRow 0 1 [] []))) fun v91 => oLet (sG (xC v85) true (sV ((xW 0)))) fun v92 => oLet (sG (xC v85) true (sM (tAppend 8 1 (xC v91) (xC v92)))) fun v93 => oLet (sG (xC v85) true (sV ((xW 2)))) fun v94 => oLet (sG (xC v85) true (sN (aRow 1 1 [1] [(xC v94)]))) fun v95 => oLet (sG (xC v85) true (sM (tAppend 8 1 (xC v93) (xC v95)))) fun v96 => oLet (sG (xC v85) true (sC 7 [(xC v96)])) fun v97 => oLet (sG (xC v85) true (sC 9 [(xC v90), (xC v97)])) fun v98 => oLet (sV (vPick (xC v85) (xC v98) (xC (.bool false)))) fun v99 => oLet (sG (xC v99) true (sL (lLoad (some 1) (xW 7)))) fun v101 => oLet (sG (xC v99) true (sL (lLoad (some 1) (xW 8)))) fun v102 => oLet (sG (xC v99) true (sC 15 [(xC v101), (xC v102)])) fun v103 => oLet (sG (xC v99) true (sC 10 [(xC v103)])) fun v104 => oLet (sG (xC v99) true (sN (aRow 0 1 [] []))) fun v105 => oLet (sG (xC v99) true (sV ((xW 0)))) fun v106 => oLet (sG (xC v99) true (sM (tAppend 8 1 (xC v105) (xC v106)))) fun v107 => oLet (sG (xC v99) true (sV ((xW 1)))) fun v108 => oLet (sG (xC v99) true (sM (tAppend 8 1 (xC v107) (xC v108)))) fun v109 => oLet (sG (xC v99) true (sC 7 [(xC v109)])) fun v110 => oLet (sG (xC v99) true (sC 9 [(xC v104), (xC v110)])) fun v111 => oLet (sV (vPick (xC v99) (xC v111) (xC (.bool false)))) fun v112 => oLet (sG (xC v112) true (sL (lLoad (some 1) (xW 7)))) fun v114 => oLet (sG (xC v112) true (sL (lLoad (some 1) (xW 8)))) fun v115 => oLet (sG (xC v112) true (sC 16 [(xC v114), (xC v115)])) fun v116 => oLet (sG (xC v112) true (sC 10 [(xC v116)])) fun v117 => oLet (sG (xC v112) true (sV ((xW 11)))) fun v118 => oLet (sG (xC v112) true (sC 9 [(xC v117), (xC v118)])) fun v119 => oLet (sV (vPick (xC v112) (xC v119) (xC (.bool false)))) fun v120 => oLet (sG (xC v120) true (sL (lLoad (some 1) (xW 7)))) fun v122 => oLet (sG (xC v120) true (sL (lLoad (some 1) (xW 8)))) fun v123 => oLet (sG (xC v120) true (sC 17 [(xC v122), (xC v123)])) fun v124 => oLet (sG (xC v120) true (sC 10 [(xC v124)])) fun v125 => oLet (sG (xC v120) true (sV ((xW 12)))) fun v126 => oLet (sG (xC v120) true (sC 9 [(xC v125), (xC v126)])) fun v127 => oLet (sV (vPick (xC v120) (xC v127) (xC (.bool false)))) fun v128 => oLet (sG (xC v128) true (sL (lLoad (some 1) (xW 7)))) fun v130 => oLet (sG (xC v128) true (sL (lLoad (some 1) (xW 8)))) fun v131 => oLet (sG (xC v128) true (sC 18 [(xC v130), (xC v131)])) fun v132 => oLet (sG (xC v128) true (sV ((xW 13)))) fun v133 => oLet (sG (xC v128) true (sL (lEq .bool (xC v132) (xC v133)))) fun v134 => oLet (sV (vPick (xC v128) (xC v134) (xC (.bool false)))) fun v135 => oLet (sG (xC v135) true (sL (lLoad (some 1) (xW 7)))) fun v137 => oLet (sG (xC v135) true (sL (lLoad (some 1) (xW 8)))) fun v138 => oLet (sG (xC v135) true (sC 19 [(xC v137), (xC v138)])) fun v139 => oLet (sG (xC v135) true (sV ((xC v60)))) fun v140 => oLet (sG (xC v135) true (sV ((xW 10)))) fun v141 => oLet (sG (xC v135) true (sC 9 [(xC v140), (xC v141)])) fun v142 => oLet (sG (xC v135) true (sL (lEq .bool (xC v139) (xC v142)))) fun v143 => oLet (sV (vPick (xC v135) (xC v143) (xC (.bool false)))) fun v144 => oLet (sG (xC v144) true (sC 5 [])) fun v146 => oLet (sV (vPick (xC v144) (xC v146) (xC (.bool false)))) fun v147 => oSet 6 (sV ((xC v147))) fun v6 => oEnd))
 cRet)))))))), [.tmp (way 6)]⟩ := rfl
theorem Tryd.k4_eq : Tryd.k4 = ⟨[(way 0), (way 1), (way 2)], (cSeq (cOps (oSet 6 (sV ((xC (.bool false)))) fun v6 => oEnd))
 (cSeq (cSeq (cOps (oLet (sV ((xW 0))) fun v14 => oLet (sV (vLen (xC v14))) fun v15 => oLet (sV (vGt .i64 (xC v15) (xC (.int .i64 200)))) fun v16 => oLet (sG (xC v16) false (sV ((xW 1)))) fun v18 => oLet (sG (xC v16) false (sV (vLen (xC v18)))) fun v19 => oLet (sG (xC v16) false (sV (vGt .i64 (xC v19) (xC (.int .i64 200))))) fun v20 => oLet (sV (vPick (xC v16) (xC (.bool true)) (xC v20))) fun v21 => oLet (sG (xC v21) false (sV ((xW 2)))) fun v23 => oLet (sG (xC v21) false (sV (vLen (xC v23)))) fun v24 => oLet (sG (xC v21) false (sV (vGt .i64 (xC v24) (xC (.int .i64 200))))) fun v25 => oSet 26 (sV (vPick (xC v21) (xC (.bool true)) (xC v25))) fun v26 => oEnd))
 (cCond (xW 26) (cSeq (cOps (oLet (sC 5 []) fun v27 => oSet 6 (sV ((xC v27))) fun v6 => oEnd))
 cRet)
 cSkip))
 (cSeq (cOps (oLet (sV ((xW 0))) fun v28 => oLet (sC 6 [(xC v28)]) fun v29 => oLet (sV ((xW 1))) fun v30 => oLet (sC 6 [(xC v30)]) fun v31 => oLet (sV ((xW 2))) fun v32 => oLet (sC 6 [(xC v32)]) fun v33 => oSet 7 (sN (aAlloc [.nilslice])) fun v7 => oSet 8 (sN (aAlloc [.nilslice])) fun v8 => oSet 9 (sN (aAlloc [.nilslice])) fun v9 => oDo (sM (tStore 1 (xC v7) (xC v29))) (oDo (sM (tStore 1 (xC v8) (xC v31))) (oDo (sM (tStore 1 (xC v9) (xC v33))) (oEnd)))))
 (cSeq (cOps (oLet (sL (lLoad (some 1) (xW 7))) fun v34 => oLet (sC 10 [(xC v34)]) fun v35 => oSet 10 (sV ((xC v35))) fun v10 => oEnd))
 (cSeq (cOps (oSet 11 (sV ((xC (.func 15 [])))) fun v11 => oEnd))
 (cSeq (cOps (oLet (sV ((xW 11))) fun v36 => oLet (sL (lLoad (some 1) (xW 7))) fun v37 => oLet (sL (lLoad (some 1) (xW 8))) fun v38 => oCap fun c3 => oLet (sX (xC v36) [(xC v37), (xC v38)]) fun v39 => oCap fun d3 => oLet (sLo [c3] d3.next (lLoad (some 1) (xW 8))) fun v41 => oLet (sLo [c3] d3.next (lLoad (some 1) (xW 7))) fun v42 => oCap fun c7 => oLet (sX (xC v36) [(xC v41), (xC v42)]) fun v43 => oCap fun d7 => oCap fun c8 => oLet (sC 19 [(xC v39), (xC v43)]) fun v44 => oCap fun d8 => oLet (sG (xC v44) true (sV ((xC v36)))) fun v46 => oLet (sG (xC v44) true (sV ((xC v36)))) fun v47 => oLet (sG (xC v44) true (sL (lLoad (some 1) (xW 7)))) fun v48 => oLet (sG (xC v44) true (sL (lLoad (some 1) (xW 8)))) fun v49 => oCap fun c14 => oLet (sG (xC v44) true (sXs (xC v47) [(xC v48), (xC v49)])) fun v50 => oCap fun d14 => oLet (sG (xC v44) true (sLo [c14] d14.next (lLoad (some 1) (xW 9)))) fun v51 => oCap fun c16 => oLet (sG (xC v44) true (sXs (xC v46) [(xC v50), (xC v51)])) fun v52 => oCap fun d16 => oLet (sG (xC v44) true (sV ((xC v36)))) fun v53 => oLet (sG (xC v44) true (sLs (lLoad (some 1) (xW 7)))) fun v54 => oLet (sG (xC v44) true (sV ((xC v36)))) fun v55 => oLet (sG (xC v44) true (sLo [c16, c14] d16.next (lLoad (some 1) (xW 8)))) fun v56 => oLet (sG (xC v44) true (sLo [c16, c14] d16.next (lLoad (some 1) (xW 9)))) fun v57 => oCap fun c22 => oLet (sG (xC v44) true (sXs (xC v55) [(xC v56), (xC v57)])) fun v58 => oCap fun d22 => oCap fun c23 => oLet (sG (xC v44) true (sX (xC v53) [(xC v54), (xC v58)])) fun v59 => oCap fun d23 => oCap fun c24 => oLet (sG (xC v44) true (sC 19 [(xC v52), (xC v59)])) fun v60 => oCap fun d24 => oLet (sV (vPick (xC v44) (xC v60) (xC (.bool false)))) fun v61 => oLet (sG (xC v61) true (sL (lLoad (some 1) (xW 7)))) fun v63 => oLet (sG (xC v61) true (sL (lLoad (some 1) (xW 8)))) fun v64 => oCap fun c29 => oLet (sG (xC v61) true (sC 16 [(xC v63), (xC v64)])) fun v65 => oCap fun d29 => oLet (sG (xC v61) true (sLo [c29] d29.next (lLoad (some 1) (xW 7)))) fun v66 => oLet (sG (xC v61) true (sLo [c29] d29.next (lLoad (some 1) (xW 8)))) fun v67 => oCap fun c32 => oLet (sG (xC v61) true (sC 17 [(xC v66), (xC v67)])) fun v68 => oCap fun d32 => oCap fun c33 => oLet (sG (xC v61) true (sC 15 [(xC v65), (xC v68)])) fun v69 => oCap fun d33 => oLet (sG (xC v61) true (sLo [c33, c32, c29] d33.next (lLoad (some 1) (xW 7)))) fun v70 => oCap fun c35 => oLet (sG (xC v61) true (sC 19 [(xC v69), (xC v70)])) fun v71 => oCap fun d35 => oLet (sV (vPick (xC v61) (xC v71) (xC (.bool false)))) fun v72 => oLet (sG (xC v72) true (sL (lLoad (some 1) (xW 7)))) fun v74 => oLet (sG (xC v72) true (sL (lLoad (some 1) (xW 8)))) fun v75 => oCap fun c40 => oLet (sG (xC v72) true (sC 17 [(xC v74), (xC v75)])) fun v76 => oCap fun d40 => oLet (sG (xC v72) true (sLo [c40] d40.next (lLoad (some 1) (xW 8)))) fun v77 => oCap fun c42 => oLet (sG (xC v72) true (sC 18 [(xC v76), (xC v77)])) fun v78 => oCap fun d42 => oLet (sV (vPick (xC v72) (xC v78) (xC (.bool false)))) fun v79 => oLet (sG (xC v79) true (sLs (lLoad (some 1) (xW 7)))) fun v81 => oLet (sG (xC v79) true (sV ((xC v36)))) fun v82 => oLet (sG (xC v79) true (sL (lLoad (some 1) (xW 7)))) fun v83 => oLet (sG (xC v79) true (sL (lLoad (some 1) (xW 8)))) fun v84 => oCap fun c49 => oLet (sG (xC v79) true (sXs (xC v82) [(xC v83), (xC v84)])) fun v85 => oCap fun d49 => oCap fun c50 => oLet (sG (xC v79) true (sC 18 [(xC v81), (xC v85)])) fun v86 => oCap fun d50 => oLet (sV (vPick (xC v79) (xC v86) (xC (.bool false)))) fun v87 => oLet (sG (xC v87) true (sL (lLoad (some 1) (xW 7)))) fun v89 => oLet (sG (xC v87) true (sL (lLoad (some 1) (xW 8)))) fun v90 => oCap fun c55 => oLet (sG (xC v87) true (sC 16 [(xC v89), (xC v90)])) fun v91 => oCap fun d55 => oLet (sG (xC v87) true (sLo [c55] d55.next (lLoad (some 1) (xW 8)))) fun v92 => oCap fun c57 => oLet (sG (xC v87) true (sC 17 [(xC v91), (xC v92)])) fun v93 => oCap fun d57 => oCap fun c58 => oLet (sG (xC v87) true (sC 12 [(xC v93)])) fun v94 => oCap fun d58 => oLet (sV (vPick (xC v87) (xC v94) (xC (.bool false)))) fun v95 => oLet (sG (xC v95) true (sL (lLoad (some 1) (xW 7)))) fun v97 => oCap fun c62 => oLet (sG (xC v95) true (sCs 14 [(xC v97), (xC (.int .i64 5))])) fun v98 => oCap fun d62 => oLet (sG (xC v95) true (sN (aRow 1 1 [1] [(xC (.int .i64 5))]))) fun v99 => oCap fun c64 => oLet (sG (xC v95) true (sCs 6 [(xC v99)])) fun v100 => oCap fun d64 => oCap fun c65 => oLet (sG (xC v95) true (sCs 16 [(xC v98), (xC v100)])) fun v101 => oCap fun d65 => oLet (sG (xC v95) true (sLs (lLoad (some 1) (xW 7)))) fun v102 => oLet (sG (xC v95) true (sN (aRow 1 1 [1] [(xC (.int .i64 5))]))) fun v103 => oCap fun c68 => oLet (sG (xC v95) true (sCs 6 [(xC v103)])) fun v104 => oCap fun d68 => oCap fun c69 => oLet (sG (xC v95) true (sC 16 [(xC v102), (xC v104)])) fun v105 => oCap fun d69 => oCap fun c70 => oLet (sG (xC v95) true (sC 19 [(xC v101), (xC v105)])) fun v106 => oCap fun d70 => oLet (sV (vPick (xC v95) (xC v106) (xC (.bool false)))) fun v107 => oSet 12 (sV ((xC v107))) fun v12 => oEnd))
 (cSeq (cOps (oSet 13 (sN (aAlloc [.nilslice])) fun v13 => oEnd))
 (cSeq (cOps (oLet (sV ((xW 12))) fun v108 => oLet (sG (xC v108) true (sL (lLoad (some 1) (xW 7)))) fun v110 => oCap fun c3 => oLet (sG (xC v108) true (sC 10 [(xC v110)])) fun v111 => oCap fun d3 => oLet (sG (xC v108) true (sV ((xW 10)))) fun v112 => oCap fun c5 => oLet (sG (xC v108) true (sC 9 [(xC v111), (xC v112)])) fun v113 => oCap fun d5 => oLet (sV (vPick (xC v108) (xC v113) (xC (.bool false)))) fun v114 => oLet (sG (xC v114) true (sL (lLoad (some 1) (xW 13)))) fun v116 => oCap fun c9 => oLet (sG (xC v114) true (sC 12 [(xC v116)])) fun v117 => oCap fun d9 => oLet (sV (vPick (xC v114) (xC v117) (xC (.bool false)))) fun v118 => oLet (sG (xC v118) true (sL (lLoad (some 1) (xW 13)))) fun v120 => oLet (sG (xC v118) true (sL (lLoad (some 1) (xW 7)))) fun v121 => oCap fun c14 => oLet (sG (xC v118) true (sC 15 [(xC v120), (xC v121)])) fun v122 => oCap fun d14 => oLet (sG (xC v118) true (sLo [c14] d14.next (lLoad (some 1) (xW 7)))) fun v123 => oCap fun c16 => oLet (sG (xC v118) true (sC 19 [(xC v122), (xC v123)])) fun v124 => oCap fun d16 => oLet (sV (vPick (xC v118) (xC v124) (xC (.bool false)))) fun v125 => oLet (sG (xC v125) true (sL (lLoad (some 1) (xW 13)))) fun v127 => oLet (sG (xC v125) true (sL (lLoad (some 1) (xW 7)))) fun v128 => oCap fun c21 => oLet (sG (xC v125) true (sC 18 [(xC v127), (xC v128)])) fun v129 => oCap fun d21 => oLet (sV (vPick (xC v125) (xC v129) (xC (.bool false)))) fun v130 => oLet (sG (xC v130) true (sL (lLoad (some 1) (xW 13)))) fun v132 => oCap fun c25 => oLet (sG (xC v130) true (sC 11 [(xC v132)])) fun v133 => oCap fun d25 => oLet (sG (xC v130) true (sV (vEq .i64 (xC v133) (xC (.int .i64 0))))) fun v134 => oLet (sV (vPick (xC v130) (xC v134) (xC (.bool false)))) fun v135 => oCap fun c29 => oLet (sG (xC v135) true (sC 5 [])) fun v137 => oCap fun d29 => oLet (sV (vPick (xC v135) (xC v137) (xC (.bool false)))) fun v138 => oSet 6 (sV ((xC v138))) fun v6 => oEnd))
 cRet)))))))), [.tmp (way 6)]⟩ := rfl
theorem Tryd.k5_eq : Tryd.k5 = ⟨[], (cSeq (cOps (oSet 0 (sV ((xC (.bool false)))) fun v0 => oEnd))
 (cSeq (cOps (oLet (sN (aRow 5 1 [1, 1, 1, 1, 1] [(xC (.int .i64 3)), (xC (.int .i64 1)), (xC (.int .i64 3)), (xC (.int .i64 (-1))), (xC (.int .i64 65536))])) fun v2 => oLet (sC 6 [(xC v2)]) fun v3 => oSet 1 (sN (aAlloc [.nilslice])) fun v1 => oDo (sM (tStore 1 (xC v1) (xC v3))) (oEnd)))
 (cSeq (cOps (oLet (sL (lLoad (some 1) (xW 1))) fun v4 => oLet (sC 10 [(xC v4)]) fun v5 => oLet (sN (aRow 2 1 [1, 1] [(xC (.int .i64 1)), (xC (.int .i64 3))])) fun v6 => oLet (sC 9 [(xC v5), (xC v6)]) fun v7 => oLet (sG (xC v7) true (sL (lLoad (some 1) (xW 1)))) fun v9 => oLet (sG (xC v7) true (sC 13 [(xC v9), (xC (.int .i64 3))])) fun v10 => oLet (sV (vPick (xC v7) (xC v10) (xC (.bool false)))) fun v11 => oLet (sG (xC v11) true (sL (lLoad (some 1) (xW 1)))) fun v13 => oLet (sG (xC v11) true (sC 13 [(xC v13), (xC (.int .i64 2))])) fun v14 => oLet (sG (xC v11) true (sV (vUn .not (xC v14)))) fun v15 => oLet (sV (vPick (xC v11) (xC v15) (xC (.bool false)))) fun v16 => oLet (sG (xC v16) true (sL (lLoad (some 1) (xW 1)))) fun v18 => oLet (sG (xC v16) true (sC 12 [(xC v18)])) fun v19 => oLet (sG (xC v16) true (sV (vUn .not (xC v19)))) fun v20 => oLet (sV (vPick (xC v16) (xC v20) (xC (.bool false)))) fun v21 => oSet 0 (sV ((xC v21))) fun v0 => oEnd))
 cRet))), [.tmp (way 0)]⟩ := rfl
def Tryd.l6_0 : Cd := (cSeq (cOps (oSet 8 (sV (vLt .i64 (xW 7) (xW 6))) fun v8 => oEnd))
 (cSeq (cCond (xW 8) cSkip
 (cExit 0))
 (cSeq (cBlock 1 (cSeq (cOps (oLet (sV (vIdx 1 (xW 5) (xW 7))) fun v9 => oLet (sL (lLoad none (xC v9))) fun v10 => oSet 4 (sV ((xC v10))) fun v4 => oEnd))
 (cOps (oLet (sL (lLoad (some 1) (xW 2))) fun v11 => oLet (sV ((xW 4))) fun v12 => oLet (sC 14 [(xC v11), (xC v12)]) fun v13 => oDo (sM (tStore 1 (xW 2) (xC v13))) (oEnd)))))
 (cOps (oLet (sV (vAdd .i64 (xW 7) (xC (.int .i64 1)))) fun v14 => oSet 7 (sV ((xC v14))) fun v7 => oEnd)))))
theorem Tryd.k6_eq : Tryd.k6 = ⟨[(way 0)], (cSeq (cOps (oSet 2 (sN (aAlloc [.nilslice])) fun v2 => oEnd))
 (cSeq (cSeq (cOps (oSet 5 (sV ((xW 0))) fun v5 => oSet 6 (sV (vLen (xC v5))) fun v6 => oSet 7 (sV ((xC (.int .i64 0)))) fun v7 => oEnd))
 (cBlock 0 (cLoop Tryd.l6_0)))
 (cSeq (cOps (oLet (sL (lLoad (some 1) (xW 2))) fun v15 => oDo (sM (tStore 1 (xW 2) (xC v15))) (oEnd)))
 cRet))), [.cell (way 2) (some 1)]⟩ := rfl
def Tryd.l7_0 : Cd := (cSeq (cSeq (cOps (oLet (sV ((xW 4))) fun v5 => oLet (sV ((xW 0))) fun v6 => oLet (sV (vLen (xC v6))) fun v7 => oSet 8 (sV (vLt .i64 (xC v5) (xC v7))) fun v8 => oEnd))
 (cCond (xW 8) cSkip
 (cExit 0)))
 (cSeq (cBlock 1 (cSeq (cOps (oLet (sV ((xW 0))) fun v11 => oLet (sV ((xW 4))) fun v12 => oLet (sV (vIdx 1 (xC v11) (xC v12))) fun v13 => oLet (sL (lLoad none (xC v13))) fun v14 => oLet (sV (vGe .i64 (xC v14) (xC (.int .i64 0)))) fun v15 => oLet (sG (xC v15) true (sV ((xC v11)))) fun v17 => oLet (sG (xC v15) true (sV ((xC v12)))) fun v18 => oLet (sG (xC v15) true (sV (vIdx 1 (xC v17) (xC v18)))) fun v19 => oLet (sG (xC v15) true (sL (lLoad none (xC v19)))) fun v20 => oLet (sG (xC v15) true (sV (vLt .i64 (xC v20) (xC (.int .i64 65536))))) fun v21 => oSet 22 (sV (vPick (xC v15) (xC v21) (xC (.bool false)))) fun v22 => oEnd))
 (cCond (xW 22) (cOps (oLet (sV ((xW 3))) fun v23 => oLet (sV ((xW 0))) fun v24 => oLet (sV ((xW 4))) fun v25 => oLet (sV (vIdx 1 (xC v24) (xC v25))) fun v26 => oLet (sL (lLoad none (xC v26))) fun v27 => oLet (sN (aRow 1 1 [1] [(xC v27)])) fun v28 => oLet (sM (tAppend 8 1 (xC v23) (xC v28))) fun v29 => oSet 3 (sV ((xC v29))) fun v3 => oEnd))
 cSkip)))
 (cOps (oLet (sV ((xW 4))) fun v9 => oLet (sV (vAdd .i64 (xC v9) (xC (.int .i64 1)))) fun v10 => oSet 4 (sV ((xC v10))) fun v4 => oEnd))))
theorem Tryd.k7_eq : Tryd.k7 = ⟨[(way 0)], (cSeq (cOps (oSet 2 (sV ((xC (.nilslice)))) fun v2 => oEnd))
 (cSeq (cOps (oSet 3 (sV ((xC (.nilslice)))) fun v3 => oEnd))
 (cSeq (cSeq (cOps (oSet 4 (sV ((xC (.int .i64 0)))) fun v4 => oEnd))
 (cBlock 0 (cLoop Tryd.l7_0)))
 (cSeq (cOps (oLet (sV ((xW 3))) fun v30 => oLet (sC 20 [(xC v30)]) fun v31 => oSet 2 (sV ((xC v31))) fun v2 => oEnd))
 cRet)))), [.tmp (way 2)]⟩ := rfl
def Tryd.l8_0 : Cd := (cSeq (cSeq (cOps (oLet (sV ((xW 5))) fun v6 => oLet (sV ((xW 0))) fun v7 => oLet (sV (vLen (xC v7))) fun v8 => oSet 9 (sV (vLt .i64 (xC v6) (xC v8))) fun v9 => oEnd))
 (cCond (xW 9) cSkip
 (cExit 0)))
 (cSeq (cBlock 1 (cSeq (cOps (oLet (sV ((xW 0))) fun v12 => oLet (sV ((xW 5))) fun v13 => oLet (sV (vIdx 1 (xC v12) (xC v13))) fun v14 => oLet (sL (lLoad none (xC v14))) fun v15 => oLet (sV ((xW 1))) fun v16 => oSet 17 (sV (vEq .i64 (xC v15) (xC v16))) fun v17 => oEnd))
 (cCond (xW 17) (cSeq (cOps (oSet 4 (sV ((xC (.bool true)))) fun v4 => oEnd))
 cRet)
 cSkip)))
 (cOps (oLet (sV ((xW 5))) fun v10 => oLet (sV (vAdd .i64 (xC v10) (xC (.int .i64 1)))) fun v11 => oSet 5 (sV ((xC v11))) fun v5 => oEnd))))
theorem Tryd.k8_eq : Tryd.k8 = ⟨[(way 0), (way 1)], (cSeq (cOps (oSet 4 (sV ((xC (.bool false)))) fun v4 => oEnd))
 (cSeq (cSeq (cOps (oSet 5 (sV ((xC (.int .i64 0)))) fun v5 => oEnd))
 (cBlock 0 (cLoop Tryd.l8_0)))
 (cSeq (cOps (oSet 4 (sV ((xC (.bool false)))) fun v4 => oEnd))
 cRet))), [.tmp (way 4)]⟩ := rfl
def Tryd.l9_0 : Cd := (cSeq (cSeq (cOps (oLet (sV ((xW 5))) fun v11 => oLet (sV ((xW 0))) fun v12 => oLet (sV (vLen (xC v12))) fun v13 => oSet 14 (sV (vLt .i64 (xC v11) (xC v13))) fun v14 => oEnd))
 (cCond (xW 14) cSkip
 (cExit 0)))
 (cSeq (cBlock 1 (cSeq (cOps (oLet (sV ((xW 0))) fun v17 => oLet (sV ((xW 5))) fun v18 => oLet (sV (vIdx 1 (xC v17) (xC v18))) fun v19 => oLet (sL (lLoad none (xC v19))) fun v20 => oLet (sV ((xW 1))) fun v21 => oLet (sV (vIdx 1 (xC v21) (xC v18))) fun v23 => oLet (sL (lLoad none (xC v23))) fun v24 => oSet 25 (sV (vNe .i64 (xC v20) (xC v24))) fun v25 => oEnd))
 (cCond (xW 25) (cSeq (cOps (oSet 4 (sV ((xC (.bool false)))) fun v4 => oEnd))
 cRet)
 cSkip)))
 (cOps (oLet (sV ((xW 5))) fun v15 => oLet (sV (vAdd .i64 (xC v15) (xC (.int .i64 1)))) fun v16 => oSet 5 (sV ((xC v16))) fun v5 => oEnd))))
theorem Tryd.k9_eq : Tryd.k9 = ⟨[(way 0), (way 1)], (cSeq (cOps (oSet 4 (sV ((xC (.bool false)))) fun v4 => oEnd))
 (cSeq (cSeq (cOps (oLet (sV ((xW 0))) fun v6 => oLet (sV (vLen (xC v6))) fun v7 => oLet (sV ((xW 1))) fun v8 => oLet (sV (vLen (xC v8))) fun v9 => oSet 10 (sV (vNe .i64 (xC v7) (xC v9))) fun v10 => oEnd))
 (cCond (xW 10) (cSeq (cOps (oSet 4 (sV ((xC (.bool false)))) fun v4 => oEnd))
 cRet)
 cSkip))
 (cSeq (cSeq (cOps (oSet 5 (sV ((xC (.int .i64 0)))) fun v5 => oEnd))
 (cBlock 0 (cLoop Tryd.l9_0)))
 (cSeq (cOps (oSet 4 (sV ((xC (.bool true)))) fun v4 => oEnd))
 cRet)))), [.tmp (way 4)]⟩ := rfl
def Tryd.l10_0 : Cd := (cSeq (cSeq (cOps (oLet (sV ((xW 4))) fun v13 => oSet 14 (sV (vNe .u64 (xC v13) (xC (.int .u64 0)))) fun v14 => oEnd))
 (cCond (xW 14) cSkip
 (cExit 2)))
 (cSeq (cBlock 3 (cOps (oLet (sV ((xW 2))) fun v19 => oLet (sV ((xW 3))) fun v20 => oLet (sV (vMul .i64 (xC (.int .i64 64)) (xC v20))) fun v21 => oLet (sV ((xW 4))) fun v22 => oLet (sC 21 [(xC v22)]) fun v23 => oLet (sV (vAdd .i64 (xC v21) (xC v23))) fun v24 => oLet (sN (aRow 1 1 [1] [(xC v24)])) fun v25 => oLet (sM (tAppend 8 1 (xC v19) (xC v25))) fun v26 => oSet 2 (sV ((xC v26))) fun v2 => oEnd)))
 (cOps (oLet (sV ((xW 4))) fun v15 => oLet (sV (vSub .u64 (xC v15) (xC (.int .u64 1)))) fun v17 => oLet (sV (vAr .and .u64 (xC v15) (xC v17))) fun v18 => oSet 4 (sV ((xC v18))) fun v4 => oEnd))))
def Tryd.l10_1 : Cd := (cSeq (cOps (oSet 9 (sV (vLt .i64 (xW 8) (xW 7))) fun v9 => oEnd))
 (cSeq (cCond (xW 9) cSkip
 (cExit 0))
 (cSeq (cBlock 1 (cSeq (cOps (oLet (sV ((xW 8))) fun v10 => oLet (sV (vIdx 1 (xW 6) (xC v10))) fun v11 => oLet (sL (lLoad none (xC v11))) fun v12 => oSet 3 (sV ((xC v10))) fun v3 => oSet 4 (sV ((xC v12))) fun v4 => oEnd))
 (cBlock 2 (cLoop Tryd.l10_0))))
 (cOps (oLet (sV (vAdd .i64 (xW 8) (xC (.int .i64 1)))) fun v27 => oSet 8 (sV ((xC v27))) fun v8 => oEnd)))))
theorem Tryd.k10_eq : Tryd.k10 = ⟨[(way 0)], (cSeq (cOps (oSet 1 (sN (aBox (xW 0))) fun v1 => oSet 2 (sV ((xC (.nilslice)))) fun v2 => oEnd))
 (cSeq (cSeq (cOps (oLet (sV (vAddr 0 (xW 1))) fun v5 => oSet 6 (sL (lLoad none (xC v5))) fun v6 => oSet 7 (sV (vLen (xC v6))) fun v7 => oSet 8 (sV ((xC (.int .i64 0)))) fun v8 => oEnd))
 (cBlock 0 (cLoop Tryd.l10_1)))
 (cSeq (cOps (oLet (sV ((xW 2))) fun v28 => oSet 2 (sV ((xC v28))) fun v2 => oEnd))
 cRet))), [.tmp (way 2)]⟩ := rfl
def Tryd.l11_0 : Cd := (cSeq (cOps (oSet 9 (sV (vLt .i64 (xW 8) (xW 7))) fun v9 => oEnd))
 (cSeq (cCond (xW 9) cSkip
 (cExit 0))
 (cSeq (cBlock 1 (cSeq (cOps (oLet (sV (vIdx 1 (xW 6) (xW 8))) fun v10 => oLet (sL (lLoad none (xC v10))) fun v11 => oSet 4 (sV ((xC v11))) fun v4 => oEnd))
 (cOps (oLet (sV ((xW 2))) fun v12 => oLet (sV ((xW 4))) fun v13 => oLet (sC 22 [(xC v13)]) fun v14 => oLet (sV (vAdd .i64 (xC v12) (xC v14))) fun v15 => oSet 2 (sV ((xC v15))) fun v2 => oEnd))))
 (cOps (oLet (sV (vAdd .i64 (xW 8) (xC (.int .i64 1)))) fun v16 => oSet 8 (sV ((xC v16))) fun v8 => oEnd)))))
theorem Tryd.k11_eq : Tryd.k11 = ⟨[(way 0)], (cSeq (cOps (oSet 1 (sN (aBox (xW 0))) fun v1 => oSet 2 (sV ((xC (.int .i64 0)))) fun v2 => oEnd))
 (cSeq (cSeq (cOps (oLet (sV (vAddr 0 (xW 1))) fun v5 => oSet 6 (sL (lLoad none (xC v5))) fun v6 => oSet 7 (sV (vLen (xC v6))) fun v7 => oSet 8 (sV ((xC (.int .i64 0)))) fun v8 => oEnd))
 (cBlock 0 (cLoop Tryd.l11_0)))
 (cSeq (cOps (oLet (sV ((xW 2))) fun v17 => oSet 2 (sV ((xC v17))) fun v2 => oEnd))
 cRet))), [.tmp (way 2)]⟩ := rfl
theorem Tryd.k12_eq : Tryd.k12 = ⟨[(way 0)], (cSeq (cOps (oSet 1 (sN (aBox (xW 0))) fun v1 => oSet 2 (sV ((xC (.bool false)))) fun v2 => oEnd))
 (cSeq (cOps (oLet (sV (vAddr 0 (xW 1))) fun v3 => oLet (sL (lLoad none (xC v3))) fun v4 => oLet (sV (vLen (xC v4))) fun v5 => oLet (sV (vEq .i64 (xC v5) (xC (.int .i64 0)))) fun v6 => oSet 2 (sV ((xC v6))) fun v2 => oEnd))
 cRet)), [.tmp (way 2)]⟩ := rfl
theorem Tryd.k13_eq : Tryd.k13 = ⟨[(way 0), (way 1)], (cSeq (cOps (oSet 2 (sN (aBox (xW 0))) fun v2 => oSet 4 (sV ((xC (.bool false)))) fun v4 => oEnd))
 (cSeq (cOps (oLet (sV ((xW 1))) fun v5 => oLet (sV (vGe .i64 (xC v5) (xC (.int .i64 0)))) fun v6 => oLet (sG (xC v6) true (sV ((xC v5)))) fun v8 => oLet (sG (xC v6) true (sV (vAr .quo .i64 (xC v8) (xC (.int .i64 64))))) fun v9 => oLet (sG (xC v6) true (sV (vAddr 0 (xW 2)))) fun v10 => oLet (sG (xC v6) true (sL (lLoad none (xC v10)))) fun v11 => oLet (sG (xC v6) true (sV (vLen (xC v11)))) fun v12 => oLet (sG (xC v6) true (sV (vLt .i64 (xC v9) (xC v12)))) fun v13 => oLet (sV (vPick (xC v6) (xC v13) (xC (.bool false)))) fun v14 => oLet (sG (xC v14) true (sV (vAddr 0 (xW 2)))) fun v16 => oLet (sG (xC v14) true (sL (lLoad none (xC v16)))) fun v17 => oLet (sG (xC v14) true (sV ((xC v5)))) fun v18 => oLet (sG (xC v14) true (sV (vAr .quo .i64 (xC v18) (xC (.int .i64 64))))) fun v19 => oLet (sG (xC v14) true (sV (vIdx 1 (xC v17) (xC v19)))) fun v20 => oLet (sG (xC v14) true (sL (lLoad none (xC v20)))) fun v21 => oLet (sG (xC v14) true (sV ((xC v5)))) fun v22 => oLet (sG (xC v14) true (sV (vAr .rem .i64 (xC v22) (xC (.int .i64 64))))) fun v23 => oLet (sG (xC v14) true (sV (vSh .shr .u64 (xC v21) (xC v23)))) fun v24 => oLet (sG (xC v14) true (sV (vAr .and .u64 (xC v24) (xC (.int .u64 1))))) fun v25 => oLet (sG (xC v14) true (sV (vEq .u64 (xC v25) (xC (.int .u64 1))))) fun v26 => oLet (sV (vPick (xC v14) (xC v26) (xC (.bool false)))) fun v27 => oSet 4 (sV ((xC v27))) fun v4 => oEnd))
 cRet)), [.tmp (way 4)]⟩ := rfl
theorem Tryd.k14_eq : Tryd.k14 = ⟨[(way 0), (way 1)], (cSeq (cOps (oSet 2 (sN (aBox (xW 0))) fun v2 => oSet 4 (sN (aAlloc [.nilslice])) fun v4 => oEnd))
 (cSeq (cSeq (cOps (oLet (sV ((xW 1))) fun v6 => oLet (sV (vLt .i64 (xC v6) (xC (.int .i64 0)))) fun v7 => oLet (sG (xC v7) false (sV ((xC v6)))) fun v9 => oLet (sG (xC v7) false (sV (vGt .i64 (xC v9) (xC (.int .i64 65535))))) fun v10 => oSet 11 (sV (vPick (xC v7) (xC (.bool true)) (xC v10))) fun v11 => oEnd))
 (cCond (xW 11) (cSeq (cOps (oLet (sL (lLoad (some 1) (xW 2))) fun v12 => oDo (sM (tStore 1 (xW 4) (xC v12))) (oEnd)))
 cRet)
 cSkip))
 (cSeq (cOps (oLet (sV (vAddr 0 (xW 2))) fun v13 => oLet (sL (lLoad none (xC v13))) fun v14 => oLet (sV (vLen (xC v14))) fun v15 => oLet (sV ((xW 1))) fun v16 => oLet (sV (vAr .quo .i64 (xC v16) (xC (.int .i64 64)))) fun v17 => oLet (sV (vAdd .i64 (xC v17) (xC (.int .i64 1)))) fun v18 => oLet (sV (vMax true [(xC v15), (xC v18)])) fun v19 => oLet (sN (aMakeSlice 8 1 [.int .u64 0] (xC v19) (xC v19))) fun v20 => oSet 5 (sV ((xC v20))) fun v5 => oEnd))
 (cSeq (cOps (oLet (sV ((xW 5))) fun v21 => oLet (sV (vAddr 0 (xW 2))) fun v22 => oLet (sL (lLoad none (xC v22))) fun v23 => oLet (sM (tCopy 1 (xC v21) (xC v23))) fun v24 => oEnd))
 (cSeq (cOps (oLet (sV ((xW 5))) fun v25 => oLet (sV ((xW 1))) fun v26 => oLet (sV (vAr .quo .i64 (xC v26) (xC (.int .i64 64)))) fun v27 => oLet (sV (vIdx 1 (xC v25) (xC v27))) fun v28 => oLet (sL (lLoad none (xC v28))) fun v29 => oLet (sV (vAr .rem .i64 (xC v26) (xC (.int .i64 64)))) fun v31 => oLet (sV (vSh .shl .u64 (xC (.int .u64 1)) (xC v31))) fun v32 => oLet (sV (vAr .or .u64 (xC v29) (xC v32))) fun v33 => oLet (sV (vIdx 1 (xC v25) (xC v27))) fun v34 => oDo (sM (tStore 1 (xC v34) (xC v33))) (oEnd)))
 (cSeq (cOps (oLet (sV ((xW 5))) fun v35 => oLet (sV (vCat [1] [(xC v35)])) fun v36 => oDo (sM (tStore 1 (xW 4) (xC v36))) (oEnd)))
 cRet)))))), [.cell (way 4) (some 1)]⟩ := rfl
theorem Tryd.k15_eq : Tryd.k15 = ⟨[(way 0), (way 1)], (cSeq (cOps (oSet 2 (sN (aBox (xW 0))) fun v2 => oSet 3 (sN (aBox (xW 1))) fun v3 => oSet 4 (sN (aAlloc [.nilslice])) fun v4 => oEnd))
 (cSeq (cOps (oLet (sL (lLoad (some 1) (xW 2))) fun v5 => oLet (sL (lLoad (some 1) (xW 3))) fun v6 => oLet (sC 23 [(xC v5), (xC v6), (xC (.func 24 []))]) fun v7 => oDo (sM (tStore 1 (xW 4) (xC v7))) (oEnd)))
 cRet)), [.cell (way 4) (some 1)]⟩ := rfl
theorem Tryd.k16_eq : Tryd.k16 = ⟨[(way 0), (way 1)], (cSeq (cOps (oSet 2 (sN (aBox (xW 0))) fun v2 => oSet 3 (sN (aBox (xW 1))) fun v3 => oSet 4 (sN (aAlloc [.nilslice])) fun v4 => oEnd))
 (cSeq (cOps (oLet (sL (lLoad (some 1) (xW 2))) fun v5 => oLet (sL (lLoad (some 1) (xW 3))) fun v6 => oLet (sC 23 [(xC v5), (xC v6), (xC (.func 25 []))]) fun v7 => oDo (sM (tStore 1 (xW 4) (xC v7))) (oEnd)))
 cRet)), [.cell (way 4) (some 1)]⟩ := rfl
theorem Tryd.k17_eq : Tryd.k17 = ⟨[(way 0), (way 1)], (cSeq (cOps (oSet 2 (sN (aBox (xW 0))) fun v2 => oSet 3 (sN (aBox (xW 1))) fun v3 => oSet 4 (sN (aAlloc [.nilslice])) fun v4 => oEnd))
 (cSeq (cOps (oLet (sL (lLoad (some 1) (xW 2))) fun v5 => oLet (sL (lLoad (some 1) (xW 3))) fun v6 => oLet (sC 23 [(xC v5), (xC v6), (xC (.func 26 []))]) fun v7 => oDo (sM (tStore 1 (xW 4) (xC v7))) (oEnd)))
 cRet)), [.cell (way 4) (some 1)]⟩ := rfl
theorem Tryd.k18_eq : Tryd.k18 = ⟨[(way 0), (way 1)], (cSeq (cOps (oSet 2 (sN (aBox (xW 0))) fun v2 => oSet 3 (sN (aBox (xW 1))) fun v3 => oSet 4 (sV ((xC (.bool false)))) fun v4 => oEnd))
 (cSeq (cOps (oLet (sL (lLoad (some 1) (xW 2))) fun v5 => oLet (sL (lLoad (some 1) (xW 3))) fun v6 => oLet (sC 16 [(xC v5), (xC v6)]) fun v7 => oLet (sC 12 [(xC v7)]) fun v8 => oSet 4 (sV ((xC v8))) fun v4 => oEnd))
 cRet)), [.tmp (way 4)]⟩ := rfl
theorem Tryd.k19_eq : Tryd.k19 = ⟨[(way 0), (way 1)], (cSeq (cOps (oSet 2 (sN (aBox (xW 0))) fun v2 => oSet 3 (sN (aBox (xW 1))) fun v3 => oSet 4 (sV ((xC (.bool false)))) fun v4 => oEnd))
 (cSeq (cOps (oLet (sV (vAddr 0 (xW 2))) fun v5 => oLet (sL (lLoad none (xC v5))) fun v6 => oLet (sV (vAddr 0 (xW 3))) fun v7 => oLet (sL (lLoad none (xC v7))) fun v8 => oLet (sC 27 [(xC v6), (xC v8)]) fun v9 => oSet 4 (sV ((xC v9))) fun v4 => oEnd))
 cRet)), [.tmp (way 4)]⟩ := rfl
def Tryd.l20_0 : Cd := (cSeq (cSeq (cOps (oLet (sV ((xW 6))) fun v51 => oLet (sV ((xW 5))) fun v52 => oSet 53 (sV (vGt .i64 (xC v51) (xC v52))) fun v53 => oEnd))
 (cCond (xW 53) cSkip
 (cExit 4)))
 (cSeq (cBlock 5 (cOps (oLet (sV ((xW 3))) fun v56 => oLet (sV ((xW 6))) fun v57 => oLet (sV (vSub .i64 (xC v57) (xC (.int .i64 1)))) fun v60 => oLet (sV (vIdx 1 (xC v56) (xC v60))) fun v61 => oLet (sL (lLoad none (xC v61))) fun v62 => oLet (sV (vIdx 1 (xC v56) (xC v57))) fun v63 => oDo (sM (tStore 1 (xC v63) (xC v62))) (oEnd))))
 (cOps (oLet (sV ((xW 6))) fun v54 => oLet (sV (vSub .i64 (xC v54) (xC (.int .i64 1)))) fun v55 => oSet 6 (sV ((xC v55))) fun v6 => oEnd))))
def Tryd.l20_1 : Cd := (cSeq (cSeq (cOps (oLet (sV ((xW 5))) fun v15 => oLet (sV (vGt .i64 (xC v15) (xC (.int .i64 0)))) fun v16 => oLet (sG (xC v16) true (sV ((xW 3)))) fun v18 => oLet (sG (xC v16) true (sV ((xC v15)))) fun v19 => oLet (sG (xC v16) true (sV (vSub .i64 (xC v19) (xC (.int .i64 1))))) fun v20 => oLet (sG (xC v16) true (sV (vIdx 1 (xC v18) (xC v20)))) fun v21 => oLet (sG (xC v16) true (sL (lLoad none (xC v21)))) fun v22 => oLet (sG (xC v16) true (sV ((xW 0)))) fun v23 => oLet (sG (xC v16) true (sV ((xW 4)))) fun v24 => oLet (sG (xC v16) true (sV (vIdx 1 (xC v23) (xC v24)))) fun v25 => oLet (sG (xC v16) true (sL (lLoad none (xC v25)))) fun v26 => oLet (sG (xC v16) true (sV (vGt .i64 (xC v22) (xC v26)))) fun v27 => oSet 28 (sV (vPick (xC v16) (xC v27) (xC (.bool false)))) fun v28 => oEnd))
 (cCond (xW 28) cSkip
 (cExit 2)))
 (cBlock 3 (cOps (oLet (sV ((xW 5))) fun v29 => oLet (sV (vSub .i64 (xC v29) (xC (.int .i64 1)))) fun v30 => oSet 5 (sV ((xC v30))) fun v5 => oEnd))))
def Tryd.l20_2 : Cd := (cSeq (cSeq (cOps (oLet (sV ((xW 4))) fun v7 => oLet (sV ((xW 0))) fun v8 => oLet (sV (vLen (xC v8))) fun v9 => oSet 10 (sV (vLt .i64 (xC v7) (xC v9))) fun v10 => oEnd))
 (cCond (xW 10) cSkip
 (cExit 0)))
 (cSeq (cBlock 1 (cSeq (cOps (oLet (sV ((xW 3))) fun v13 => oLet (sV (vLen (xC v13))) fun v14 => oSet 5 (sV ((xC v14))) fun v5 => oEnd))
 (cSeq (cBlock 2 (cLoop Tryd.l20_1))
 (cSeq (cSeq (cOps (oLet (sV ((xW 5))) fun v31 => oLet (sV (vGt .i64 (xC v31) (xC (.int .i64 0)))) fun v32 => oLet (sG (xC v32) true (sV ((xW 3)))) fun v34 => oLet (sG (xC v32) true (sV ((xC v31)))) fun v35 => oLet (sG (xC v32) true (sV (vSub .i64 (xC v35) (xC (.int .i64 1))))) fun v36 => oLet (sG (xC v32) true (sV (vIdx 1 (xC v34) (xC v36)))) fun v37 => oLet (sG (xC v32) true (sL (lLoad none (xC v37)))) fun v38 => oLet (sG (xC v32) true (sV ((xW 0)))) fun v39 => oLet (sG (xC v32) true (sV ((xW 4)))) fun v40 => oLet (sG (xC v32) true (sV (vIdx 1 (xC v39) (xC v40)))) fun v41 => oLet (sG (xC v32) true (sL (lLoad none (xC v41)))) fun v42 => oLet (sG (xC v32) true (sV (vEq .i64 (xC v38) (xC v42)))) fun v43 => oSet 44 (sV (vPick (xC v32) (xC v43) (xC (.bool false)))) fun v44 => oEnd))
 (cCond (xW 44) (cExit 1)
 cSkip))
 (cSeq (cOps (oLet (sV ((xW 3))) fun v45 => oLet (sN (aRow 1 1 [1] [(xC (.int .i64 0))])) fun v46 => oLet (sM (tAppend 8 1 (xC v45) (xC v46))) fun v47 => oSet 3 (sV ((xC v47))) fun v3 => oEnd))
 (cSeq (cSeq (cOps (oLet (sV ((xW 3))) fun v48 => oLet (sV (vLen (xC v48))) fun v49 => oLet (sV (vSub .i64 (xC v49) (xC (.int .i64 1)))) fun v50 => oSet 6 (sV ((xC v50))) fun v6 => oEnd))
 (cBlock 4 (cLoop Tryd.l20_0)))
 (cOps (oLet (sV ((xW 3))) fun v64 => oLet (sV ((xW 5))) fun v65 => oLet (sV ((xW 0))) fun v66 => oLet (sV ((xW 4))) fun v67 => oLet (sV (vIdx 1 (xC v66) (xC v67))) fun v68 => oLet (sL (lLoad none (xC v68))) fun v69 => oLet (sV (vIdx 1 (xC v64) (xC v65))) fun v70 => oDo (sM (tStore 1 (xC v70) (xC v69))) (oEnd)))))))))
 (cOps (oLet (sV ((xW 4))) fun v11 => oLet (sV (vAdd .i64 (xC v11) (xC (.int .i64 1)))) fun v12 => oSet 4 (sV ((xC v12))) fun v4 => oEnd))))
theorem Tryd.k20_eq : Tryd.k20 = ⟨[(way 0)], (cSeq (cOps (oSet 2 (sV ((xC (.nilslice)))) fun v2 => oEnd))
 (cSeq (cOps (oSet 3 (sV ((xC (.nilslice)))) fun v3 => oEnd))
 (cSeq (cSeq (cOps (oSet 4 (sV ((xC (.int .i64 0)))) fun v4 => oEnd))
 (cBlock 0 (cLoop Tryd.l20_2)))
 (cSeq (cOps (oLet (sV ((xW 3))) fun v71 => oSet 2 (sV ((xC v71))) fun v2 => oEnd))
 cRet)))), [.tmp (way 2)]⟩ := rfl
theorem Tryd.k22_eq : Tryd.k22 = ⟨[(way 0)], (cSeq (cOps (oSet 2 (sV ((xC (.int .i64 0)))) fun v2 => oEnd))
 (cSeq (cOps (oLet (sV ((xW 0))) fun v3 => oLet (sV (vSh .shr .u64 (xC v3) (xC (.int .u64 1)))) fun v4 => oLet (sV (vAr .and .u64 (xC v4) (xC (.int .u64 6148914691236517205)))) fun v5 => oLet (sV (vAr .and .u64 (xC v3) (xC (.int .u64 6148914691236517205)))) fun v7 => oLet (sV (vAdd .u64 (xC v5) (xC v7))) fun v8 => oSet 0 (sV ((xC v8))) fun v0 => oEnd))
 (cSeq (cOps (oLet (sV ((xW 0))) fun v9 => oLet (sV (vSh .shr .u64 (xC v9) (xC (.int .u64 2)))) fun v10 => oLet (sV (vAr .and .u64 (xC v10) (xC (.int .u64 3689348814741910323)))) fun v11 => oLet (sV (vAr .and .u64 (xC v9) (xC (.int .u64 3689348814741910323)))) fun v13 => oLet (sV (vAdd .u64 (xC v11) (xC v13))) fun v14 => oSet 0 (sV ((xC v14))) fun v0 => oEnd))
 (cSeq (cOps (oLet (sV ((xW 0))) fun v15 => oLet (sV (vSh .shr .u64 (xC v15) (xC (.int .u64 4)))) fun v16 => oLet (sV (vAdd .u64 (xC v16) (xC v15))) fun v18 => oLet (sV (vAr .and .u64 (xC v18) (xC (.int .u64 1085102592571150095)))) fun v19 => oSet 0 (sV ((xC v19))) fun v0 => oEnd))
 (cSeq (cOps (oLet (sV ((xW 0))) fun v20 => oLet (sV (vSh .shr .u64 (xC v20) (xC (.int .u64 8)))) fun v22 => oLet (sV (vAdd .u64 (xC v20) (xC v22))) fun v23 => oSet 0 (sV ((xC v23))) fun v0 => oEnd))
 (cSeq (cOps (oLet (sV ((xW 0))) fun v24 => oLet (sV (vSh .shr .u64 (xC v24) (xC (.int .u64 16)))) fun v26 => oLet (sV (vAdd .u64 (xC v24) (xC v26))) fun v27 => oSet 0 (sV ((xC v27))) fun v0 => oEnd))
 (cSeq (cOps (oLet (sV ((xW 0))) fun v28 => oLet (sV (vSh .shr .u64 (xC v28) (xC (.int .u64 32)))) fun v30 => oLet (sV (vAdd .u64 (xC v28) (xC v30))) fun v31 => oSet 0 (sV ((xC v31))) fun v0 => oEnd))
 (cSeq (cOps (oLet (sV ((xW 0))) fun v32 => oLet (sV (vToI .i64 (xC v32))) fun v33 => oLet (sV (vAr .and .i64 (xC v33) (xC (.int .i64 127)))) fun v34 => oSet 2 (sV ((xC v34))) fun v2 => oEnd))
 cRet)))))))), [.tmp (way 2)]⟩ := rfl
def Tryd.l23_0 : Cd := (cSeq (cOps (oSet 22 (sV (vLt .i64 (xW 21) (xW 20))) fun v22 => oEnd))
 (cSeq (cCond (xW 22) cSkip
 (cExit 0))
 (cSeq (cBlock 1 (cSeq (cOps (oLet (sV ((xW 21))) fun v23 => oSet 8 (sV ((xC v23))) fun v8 => oEnd))
 (cSeq (cOps (oSet 9 (sV ((xC (.int .u64 0)))) fun v9 => oSet 10 (sV ((xC (.int .u64 0)))) fun v10 => oEnd))
 (cSeq (cSeq (cOps (oLet (sV ((xW 8))) fun v24 => oLet (sV (vAddr 0 (xW 3))) fun v25 => oLet (sL (lLoad none (xC v25))) fun v26 => oLet (sV (vLen (xC v26))) fun v27 => oSet 28 (sV (vLt .i64 (xC v24) (xC v27))) fun v28 => oEnd))
 (cCond (xW 28) (cOps (oLet (sV (vAddr 0 (xW 3))) fun v29 => oLet (sL (lLoad none (xC v29))) fun v30 => oLet (sV ((xW 8))) fun v31 => oLet (sV (vIdx 1 (xC v30) (xC v31))) fun v32 => oLet (sL (lLoad none (xC v32))) fun v33 => oSet 9 (sV ((xC v33))) fun v9 => oEnd))
 cSkip))
 (cSeq (cSeq (cOps (oLet (sV ((xW 8))) fun v34 => oLet (sV (vAddr 0 (xW 4))) fun v35 => oLet (sL (lLoad none (xC v35))) fun v36 => oLet (sV (vLen (xC v36))) fun v37 => oSet 38 (sV (vLt .i64 (xC v34) (xC v37))) fun v38 => oEnd))
 (cCond (xW 38) (cOps (oLet (sV (vAddr 0 (xW 4))) fun v39 => oLet (sL (lLoad none (xC v39))) fun v40 => oLet (sV ((xW 8))) fun v41 => oLet (sV (vIdx 1 (xC v40) (xC v41))) fun v42 => oLet (sL (lLoad none (xC v42))) fun v43 => oSet 10 (sV ((xC v43))) fun v10 => oEnd))
 cSkip))
 (cOps (oLet (sV ((xW 7))) fun v44 => oLet (sV ((xW 8))) fun v45 => oLet (sV ((xW 2))) fun v46 => oLet (sV ((xW 9))) fun v47 => oLet (sV ((xW 10))) fun v48 => oLet (sX (xC v46) [(xC v47), (xC v48)]) fun v49 => oLet (sV (vIdx 1 (xC v44) (xC v45))) fun v50 => oDo (sM (tStore 1 (xC v50) (xC v49))) (oEnd))))))))
 (cOps (oLet (sV (vAdd .i64 (xW 21) (xC (.int .i64 1)))) fun v51 => oSet 21 (sV ((xC v51))) fun v21 => oEnd)))))
theorem Tryd.k23_eq : Tryd.k23 = ⟨[(way 0), (way 1), (way 2)], (cSeq (cOps (oSet 3 (sN (aBox (xW 0))) fun v3 => oSet 4 (sN (aBox (xW 1))) fun v4 => oSet 6 (sN (aAlloc [.nilslice])) fun v6 => oEnd))
 (cSeq (cOps (oLet (sV (vAddr 0 (xW 3))) fun v11 => oLet (sL (lLoad none (xC v11))) fun v12 => oLet (sV (vLen (xC v12))) fun v13 => oLet (sV (vAddr 0 (xW 4))) fun v14 => oLet (sL (lLoad none (xC v14))) fun v15 => oLet (sV (vLen (xC v15))) fun v16 => oLet (sV (vMax true [(xC v13), (xC v16)])) fun v17 => oLet (sN (aMakeSlice 8 1 [.int .u64 0] (xC v17) (xC v17))) fun v18 => oSet 7 (sV ((xC v18))) fun v7 => oEnd))
 (cSeq (cSeq (cOps (oLet (sV ((xW 7))) fun v19 => oSet 20 (sV (vLen (xC v19))) fun v20 => oSet 21 (sV ((xC (.int .i64 0)))) fun v21 => oEnd))
 (cBlock 0 (cLoop Tryd.l23_0)))
 (cSeq (cOps (oLet (sV ((xW 7))) fun v52 => oLet (sC 28 [(xC v52)]) fun v53 => oDo (sM (tStore 1 (xW 6) (xC v53))) (oEnd)))
 cRet)))), [.cell (way 6) (some 1)]⟩ := rfl
theorem Tryd.k24_eq : Tryd.k24 = ⟨[(way 0), (way 1)], (cSeq (cOps (oSet 4 (sV ((xC (.int .u64 0)))) fun v4 => oEnd))
 (cSeq (cOps (oLet (sV ((xW 0))) fun v5 => oLet (sV ((xW 1))) fun v6 => oLet (sV (vAr .or .u64 (xC v5) (xC v6))) fun v7 => oSet 4 (sV ((xC v7))) fun v4 => oEnd))
 cRet)), [.tmp (way 4)]⟩ := rfl
theorem Tryd.k25_eq : Tryd.k25 = ⟨[(way 0), (way 1)], (cSeq (cOps (oSet 4 (sV ((xC (.int .u64 0)))) fun v4 => oEnd))
 (cSeq (cOps (oLet (sV ((xW 0))) fun v5 => oLet (sV ((xW 1))) fun v6 => oLet (sV (vAr .andNot .u64 (xC v5) (xC v6))) fun v7 => oSet 4 (sV ((xC v7))) fun v4 => oEnd))
 cRet)), [.tmp (way 4)]⟩ := rfl
theorem Tryd.k26_eq : Tryd.k26 = ⟨[(way 0), (way 1)], (cSeq (cOps (oSet 4 (sV ((xC (.int .u64 0)))) fun v4 => oEnd))
 (cSeq (cOps (oLet (sV ((xW 0))) fun v5 => oLet (sV ((xW 1))) fun v6 => oLet (sV (vAr .and .u64 (xC v5) (xC v6))) fun v7 => oSet 4 (sV ((xC v7))) fun v4 => oEnd))
 cRet)), [.tmp (way 4)]⟩ := rfl
def Tryd.l27_0 : Cd := (cSeq (cOps (oSet 14 (sV (vLt .i64 (xW 13) (xW 12))) fun v14 => oEnd))
 (cSeq (cCond (xW 14) cSkip
 (cExit 0))
 (cSeq (cBlock 1 (cSeq (cOps (oLet (sV ((xW 13))) fun v15 => oSet 5 (sV ((xC v15))) fun v5 => oEnd))
 (cSeq (cOps (oLet (sV ((xW 0))) fun v16 => oLet (sV ((xW 5))) fun v17 => oLet (sV (vIdx 1 (xC v16) (xC v17))) fun v18 => oLet (sL (lLoad none (xC v18))) fun v19 => oLet (sV ((xW 1))) fun v20 => oLet (sV (vIdx 1 (xC v20) (xC v17))) fun v22 => oLet (sL (lLoad none (xC v22))) fun v23 => oSet 24 (sV (vNe .u64 (xC v19) (xC v23))) fun v24 => oEnd))
 (cCond (xW 24) (cSeq (cOps (oSet 4 (sV ((xC (.bool false)))) fun v4 => oEnd))
 cRet)
 cSkip))))
 (cOps (oLet (sV (vAdd .i64 (xW 13) (xC (.int .i64 1)))) fun v25 => oSet 13 (sV ((xC v25))) fun v13 => oEnd)))))
theorem Tryd.k27_eq : Tryd.k27 = ⟨[(way 0), (way 1)], (cSeq (cOps (oSet 4 (sV ((xC (.bool false)))) fun v4 => oEnd))
 (cSeq (cSeq (cOps (oLet (sV ((xW 0))) fun v6 => oLet (sV (vLen (xC v6))) fun v7 => oLet (sV ((xW 1))) fun v8 => oLet (sV (vLen (xC v8))) fun v9 => oSet 10 (sV (vNe .i64 (xC v7) (xC v9))) fun v10 => oEnd))
 (cCond (xW 10) (cSeq (cOps (oSet 4 (sV ((xC (.bool false)))) fun v4 => oEnd))
 cRet)
 cSkip))
 (cSeq (cSeq (cOps (oLet (sV ((xW 0))) fun v11 => oSet 12 (sV (vLen (xC v11))) fun v12 => oSet 13 (sV ((xC (.int .i64 0)))) fun v13 => oEnd))
 (cBlock 0 (cLoop Tryd.l27_0)))
 (cSeq (cOps (oSet 4 (sV ((xC (.bool true)))) fun v4 => oEnd))
 cRet)))), [.tmp (way 4)]⟩ := rfl
theorem Tryd.k28_eq : Tryd.k28 = ⟨[(way 0)], (cSeq (cOps (oSet 2 (sN (aAlloc [.nilslice])) fun v2 => oEnd))
 (cScope (cSeq cSkip
 (cSeq (cSeq (cOps (oLet (sV ((xW 0))) fun v4 => oLet (sV (vLen (xC v4))) fun v5 => oSet 3 (sV ((xC v5))) fun v3 => oEnd))
 (cSeq (cOps (oLet (sV ((xW 3))) fun v6 => oLet (sV (vGt .i64 (xC v6) (xC (.int .i64 0)))) fun v7 => oLet (sG (xC v7) true (sV ((xW 0)))) fun v9 => oLet (sG (xC v7) true (sV ((xC v6)))) fun v10 => oLet (sG (xC v7) true (sV (vSub .i64 (xC v10) (xC (.int .i64 1))))) fun v11 => oLet (sG (xC v7) true (sV (vIdx 1 (xC v9) (xC v11)))) fun v12 => oLet (sG (xC v7) true (sL (lLoad none (xC v12)))) fun v13 => oLet (sG (xC v7) true (sV (vEq .u64 (xC v13) (xC (.int .u64 0))))) fun v14 => oSet 15 (sV (vPick (xC v7) (xC v14) (xC (.bool false)))) fun v15 => oEnd))
 (cCond (xW 15) (cSeq (cOps (oLet (sV ((xW 0))) fun v16 => oLet (sV ((xW 3))) fun v17 => oLet (sV (vSub .i64 (xC v17) (xC (.int .i64 1)))) fun v18 => oLet (sV (vSlice 1 (xC v16) [] [(xC v18)] [])) fun v19 => oSet 0 (sV ((xC v19))) fun v0 => oEnd))
 (cGoto 0))
 cSkip)))
 (cSeq (cOps (oLet (sV ((xW 0))) fun v20 => oLet (sV (vCat [1] [(xC v20)])) fun v21 => oDo (sM (tStore 1 (xW 2) (xC v21))) (oEnd)))
 cRet))) [(0, (cSeq cSkip
 (cSeq (cSeq (cOps (oLet (sV ((xW 0))) fun v4 => oLet (sV (vLen (xC v4))) fun v5 => oSet 3 (sV ((xC v5))) fun v3 => oEnd))
 (cSeq (cOps (oLet (sV ((xW 3))) fun v6 => oLet (sV (vGt .i64 (xC v6) (xC (.int .i64 0)))) fun v7 => oLet (sG (xC v7) true (sV ((xW 0)))) fun v9 => oLet (sG (xC v7) true (sV ((xC v6)))) fun v10 => oLet (sG (xC v7) true (sV (vSub .i64 (xC v10) (xC (.int .i64 1))))) fun v11 => oLet (sG (xC v7) true (sV (vIdx 1 (xC v9) (xC v11)))) fun v12 => oLet (sG (xC v7) true (sL (lLoad none (xC v12)))) fun v13 => oLet (sG (xC v7) true (sV (vEq .u64 (xC v13) (xC (.int .u64 0))))) fun v14 => oSet 15 (sV (vPick (xC v7) (xC v14) (xC (.bool false)))) fun v15 => oEnd))
 (cCond (xW 15) (cSeq (cOps (oLet (sV ((xW 0))) fun v16 => oLet (sV ((xW 3))) fun v17 => oLet (sV (vSub .i64 (xC v17) (xC (.int .i64 1)))) fun v18 => oLet (sV (vSlice 1 (xC v16) [] [(xC v18)] [])) fun v19 => oSet 0 (sV ((xC v19))) fun v0 => oEnd))
 (cGoto 0))
 cSkip)))
 (cSeq (cOps (oLet (sV ((xW 0))) fun v20 => oLet (sV (vCat [1] [(xC v20)])) fun v21 => oDo (sM (tStore 1 (xW 2) (xC v21))) (oEnd)))
 cRet))))])), [.cell (way 2) (some 1)]⟩ := rfl
end
end Go.Proofs
