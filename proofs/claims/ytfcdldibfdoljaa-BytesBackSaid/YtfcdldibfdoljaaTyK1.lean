/- What functions of the program are compiled to, and that they are. -/
import Derived.Test.YtfcdldibfdoljaaSh10
import Derived.Test.YtfcdldibfdoljaaProg
import Derived.KernelRfl
set_option linter.unusedVariables false
set_option linter.unusedSimpArgs false
set_option linter.unusedSectionVars false
namespace Go.Proofs
open Go.Sh
noncomputable section
set_option linter.unusedVariables false
def Try.k3 : KF := ⟨[(way 0)], (cSeq (cOps (oSet 2 (sV ((xC (.bool false)))) fun v2 => oEnd))
 (cSeq (cSeq (cOps (oLet (sV ((xW 0))) fun v10 => oLet (sC 7 [(xC v10)]) fun v11 => oSet 12 (sV (vUn .not (xC v11))) fun v12 => oEnd))
 (cCond (xW 12) (cSeq (cOps (oLet (sC 8 []) fun v13 => oSet 2 (sV ((xC v13))) fun v2 => oEnd))
 cRet)
 cSkip))
 (cSeq (cOps (oSet 3 (sN (aAlloc [.nilslice, .bool false])) fun v3 => oEnd))
 (cSeq (cOps (oSet 4 (sV ((xC (.nilptr)))) fun v4 => oEnd))
 (cSeq (cOps (oSet 5 (sV ((xC (.nilslice)))) fun v5 => oEnd))
 (cSeq (cOps (oSet 6 (sV ((xC (.bool true)))) fun v6 => oEnd))
 (cSeq (cSeq (cOps (oSet 7 (sV ((xC (.int .i64 0)))) fun v7 => oEnd))
 (cBlock 0 (cLoop (cSeq (cSeq (cOps (oLet (sV ((xW 7))) fun v14 => oLet (sV ((xW 0))) fun v15 => oLet (sV (vLen (xC v15))) fun v16 => oSet 17 (sV (vLt .i64 (xC v14) (xC v16))) fun v17 => oEnd))
 (cCond (xW 17) cSkip
 (cExit 0)))
 (cSeq (cBlock 1 (cSeq (cSeq (cOps (oLet (sV ((xW 0))) fun v20 => oLet (sV ((xW 7))) fun v21 => oLet (sV (vIdx 3 (xC v20) (xC v21))) fun v22 => oLet (sL (lLoad (some 3) (xC v22))) fun v23 => oLet (sC 9 [(xW 3), (xC v23)]) fun v24 => oLet (sL (lNe (.ptr true) (xC v24) (xW 3))) fun v25 => oLet (sG (xC v25) false (sV ((xW 4)))) fun v27 => oLet (sG (xC v25) false (sV ((xC v20)))) fun v28 => oLet (sG (xC v25) false (sV ((xC v21)))) fun v29 => oLet (sG (xC v25) false (sV (vIdx 3 (xC v28) (xC v29)))) fun v30 => oLet (sG (xC v25) false (sL (lLoad (some 3) (xC v30)))) fun v31 => oLet (sG (xC v25) false (sC 9 [(xC v27), (xC v31)])) fun v32 => oLet (sG (xC v25) false (sL (lNe (.ptr true) (xC v32) (xC (.nilptr))))) fun v33 => oSet 34 (sV (vPick (xC v25) (xC (.bool true)) (xC v33))) fun v34 => oEnd))
 (cCond (xW 34) (cSeq (cOps (oSet 2 (sV ((xC (.bool false)))) fun v2 => oEnd))
 cRet)
 cSkip))
 (cSeq (cOps (oLet (sV ((xW 0))) fun v36 => oLet (sV ((xW 7))) fun v37 => oLet (sV (vIdx 3 (xC v36) (xC v37))) fun v38 => oLet (sL (lLoad (some 3) (xC v38))) fun v39 => oLet (sC 10 [(xC v39)]) fun v40 => oLet (sV (vExtract 0 (xC v40))) fun v41 => oLet (sV (vExtract 1 (xC v40))) fun v42 => oSet 8 (sV ((xC v41))) fun v8 => oSet 9 (sV ((xC v42))) fun v9 => oEnd))
 (cSeq (cOps (oLet (sV ((xW 6))) fun v43 => oLet (sG (xC v43) true (sV ((xW 9)))) fun v45 => oLet (sV (vPick (xC v43) (xC v45) (xC (.bool false)))) fun v46 => oSet 6 (sV ((xC v46))) fun v6 => oEnd))
 (cSeq (cOps (oLet (sV ((xW 5))) fun v47 => oLet (sV ((xW 8))) fun v48 => oLet (sM (tAppend 1 1 (xC v47) (xC v48))) fun v49 => oSet 5 (sV ((xC v49))) fun v5 => oEnd))
 (cSeq (cOps (oLet (sC 11 [(xW 3)]) fun v50 => oLet (sV ((xW 6))) fun v51 => oLet (sV (vUn .not (xC v51))) fun v52 => oSet 53 (sL (lNe .bool (xC v50) (xC v52))) fun v53 => oEnd))
 (cCond (xW 53) (cSeq (cOps (oSet 2 (sV ((xC (.bool false)))) fun v2 => oEnd))
 cRet)
 cSkip)))))))
 (cOps (oLet (sV ((xW 7))) fun v18 => oLet (sV (vAdd .i64 (xC v18) (xC (.int .i64 1)))) fun v19 => oSet 7 (sV ((xC v19))) fun v7 => oEnd)))))))
 (cSeq (cSeq (cOps (oLet (sV ((xW 6))) fun v54 => oSet 55 (sV (vUn .not (xC v54))) fun v55 => oEnd))
 (cCond (xW 55) (cOps (oSet 5 (sV ((xC (.nilslice)))) fun v5 => oEnd))
 cSkip))
 (cSeq (cOps (oCap fun c0 => oLet (sC 12 [(xW 3)]) fun v56 => oCap fun d0 => oLet (sL (lToStr (xC v56))) fun v57 => oLet (sV ((xW 5))) fun v58 => oLet (sLo [c0] d0.next (lToStr (xC v58))) fun v59 => oLet (sV (vSEq (xC v57) (xC v59))) fun v60 => oLet (sG (xC v60) true (sV ((xW 4)))) fun v62 => oCap fun c7 => oLet (sG (xC v60) true (sC 12 [(xC v62)])) fun v63 => oCap fun d7 => oLet (sG (xC v60) true (sV (vLen (xC v63)))) fun v64 => oLet (sG (xC v60) true (sV (vEq .i64 (xC v64) (xC (.int .i64 0))))) fun v65 => oLet (sV (vPick (xC v60) (xC v65) (xC (.bool false)))) fun v66 => oLet (sG (xC v66) true (sV ((xW 4)))) fun v68 => oCap fun c13 => oLet (sG (xC v66) true (sC 11 [(xC v68)])) fun v69 => oCap fun d13 => oLet (sV (vPick (xC v66) (xC v69) (xC (.bool false)))) fun v70 => oCap fun c16 => oLet (sG (xC v70) true (sC 8 [])) fun v72 => oCap fun d16 => oLet (sV (vPick (xC v70) (xC v72) (xC (.bool false)))) fun v73 => oSet 2 (sV ((xC v73))) fun v2 => oEnd))
 cRet))))))))), [.tmp (way 2)]⟩
theorem Try.k3_c : compF Try.prog [10, 11, 13, 14, 15, 16, 20, 21, 22, 23, 24, 25, 26, 27, 28, 29, 30, 31, 32, 33, 36, 37, 38, 39, 40, 35, 41, 42, 43, 44, 45, 46, 47, 48, 49, 50, 51, 52, 18, 19, 54, 56, 57, 58, 59, 60, 61, 62, 63, 64, 65, 66, 67, 68, 69, 70, 71, 72, 73] Try.f3 = some Try.k3 := by kernel_rfl
def Try.k4 : KF := ⟨[(way 0), (way 1), (way 2), (way 3)], (cSeq (cOps (oSet 8 (sV ((xC (.bool false)))) fun v8 => oEnd))
 (cSeq (cOps (oLet (sV ((xW 0))) fun v13 => oLet (sV (vToI .i64 (xC v13))) fun v14 => oLet (sV (vSh .shl .i64 (xC v14) (xC (.int .u64 24)))) fun v15 => oLet (sV ((xW 1))) fun v16 => oLet (sV (vToI .i64 (xC v16))) fun v17 => oLet (sV (vSh .shl .i64 (xC v17) (xC (.int .u64 16)))) fun v18 => oLet (sV (vAr .or .i64 (xC v15) (xC v18))) fun v19 => oLet (sV ((xW 2))) fun v20 => oLet (sV (vToI .i64 (xC v20))) fun v21 => oLet (sV (vSh .shl .i64 (xC v21) (xC (.int .u64 8)))) fun v22 => oLet (sV (vAr .or .i64 (xC v19) (xC v22))) fun v23 => oLet (sV ((xW 3))) fun v24 => oLet (sV (vToI .i64 (xC v24))) fun v25 => oLet (sV (vAr .or .i64 (xC v23) (xC v25))) fun v26 => oSet 9 (sV ((xC v26))) fun v9 => oEnd))
 (cSeq (cSeq (cOps (oLet (sV ((xW 0))) fun v27 => oSet 28 (sV (vGe .u8 (xC v27) (xC (.int .u8 128)))) fun v28 => oEnd))
 (cCond (xW 28) (cOps (oLet (sV ((xW 9))) fun v29 => oLet (sV (vSub .i64 (xC v29) (xC (.int .i64 4294967296)))) fun v30 => oSet 9 (sV ((xC v30))) fun v9 => oEnd))
 cSkip))
 (cSeq (cOps (oLet (sV ((xW 0))) fun v31 => oLet (sV ((xW 1))) fun v32 => oLet (sV ((xW 2))) fun v33 => oLet (sV ((xW 3))) fun v34 => oLet (sN (aRow 4 1 [1, 1, 1, 1] [(xC v31), (xC v32), (xC v33), (xC v34)])) fun v35 => oLet (sC 13 [(xC v35)]) fun v36 => oSet 10 (sV ((xC v36))) fun v10 => oEnd))
 (cSeq (cOps (oLet (sV ((xW 0))) fun v37 => oLet (sV ((xW 1))) fun v38 => oLet (sV ((xW 2))) fun v39 => oLet (sV ((xW 3))) fun v40 => oLet (sN (aRow 4 1 [1, 1, 1, 1] [(xC v37), (xC v38), (xC v39), (xC v40)])) fun v41 => oLet (sC 13 [(xC v41)]) fun v42 => oSet 11 (sV ((xC v42))) fun v11 => oEnd))
 (cSeq (cSeq (cOps (oLet (sV ((xW 10))) fun v43 => oLet (sL (lEq (.ptr true) (xC v43) (xC (.nilptr)))) fun v44 => oLet (sG (xC v44) false (sV ((xW 11)))) fun v46 => oLet (sG (xC v44) false (sL (lEq (.ptr true) (xC v46) (xC (.nilptr))))) fun v47 => oSet 48 (sV (vPick (xC v44) (xC (.bool true)) (xC v47))) fun v48 => oEnd))
 (cCond (xW 48) (cSeq (cOps (oSet 8 (sV ((xC (.bool false)))) fun v8 => oEnd))
 cRet)
 cSkip))
 (cSeq (cOps (oSet 12 (sN (aAlloc [.nilslice, .bool false])) fun v12 => oEnd))
 (cSeq (cOps (oLet (sV ((xW 10))) fun v49 => oCap fun c1 => oLet (sC 14 [(xC v49)]) fun v50 => oCap fun d1 => oLet (sV ((xW 9))) fun v51 => oLet (sV (vEq .i64 (xC v50) (xC v51))) fun v52 => oLet (sG (xC v52) true (sV ((xW 11)))) fun v54 => oCap fun c6 => oLet (sG (xC v52) true (sC 15 [(xC v54)])) fun v55 => oCap fun d6 => oLet (sG (xC v52) true (sV ((xW 0)))) fun v56 => oLet (sG (xC v52) true (sV (vToI .i64 (xC v56)))) fun v57 => oLet (sG (xC v52) true (sV (vMul .i64 (xC v57) (xC (.int .i64 256))))) fun v58 => oLet (sG (xC v52) true (sV ((xW 1)))) fun v59 => oLet (sG (xC v52) true (sV (vToI .i64 (xC v59)))) fun v60 => oLet (sG (xC v52) true (sV (vAdd .i64 (xC v58) (xC v60)))) fun v61 => oLet (sG (xC v52) true (sV (vEq .i64 (xC v55) (xC v61)))) fun v62 => oLet (sV (vPick (xC v52) (xC v62) (xC (.bool false)))) fun v63 => oLet (sG (xC v63) true (sV ((xW 11)))) fun v65 => oCap fun c17 => oLet (sG (xC v63) true (sC 16 [(xC v65)])) fun v66 => oCap fun d17 => oLet (sG (xC v63) true (sV ((xW 2)))) fun v67 => oLet (sG (xC v63) true (sV (vToI .i64 (xC v67)))) fun v68 => oLet (sG (xC v63) true (sV (vEq .i64 (xC v66) (xC v68)))) fun v69 => oLet (sV (vPick (xC v63) (xC v69) (xC (.bool false)))) fun v70 => oLet (sG (xC v70) true (sV ((xW 11)))) fun v72 => oCap fun c24 => oLet (sG (xC v70) true (sC 17 [(xC v72)])) fun v73 => oCap fun d24 => oLet (sG (xC v70) true (sV (vEq .i64 (xC v73) (xC (.int .i64 3))))) fun v74 => oLet (sV (vPick (xC v70) (xC v74) (xC (.bool false)))) fun v75 => oLet (sG (xC v75) true (sV ((xW 11)))) fun v77 => oCap fun c29 => oLet (sG (xC v75) true (sC 18 [(xC v77)])) fun v78 => oCap fun d29 => oLet (sG (xC v75) true (sV (vEq .i64 (xC v78) (xC (.int .i64 1))))) fun v79 => oLet (sV (vPick (xC v75) (xC v79) (xC (.bool false)))) fun v80 => oLet (sG (xC v80) true (sV ((xC v51)))) fun v82 => oCap fun c34 => oLet (sG (xC v80) true (sC 19 [(xW 12), (xC v82)])) fun v83 => oCap fun d34 => oCap fun c35 => oLet (sG (xC v80) true (sC 12 [(xC v83)])) fun v84 => oCap fun d35 => oLet (sG (xC v80) true (sL (lToStr (xC v84)))) fun v85 => oLet (sG (xC v80) true (sV ((xW 0)))) fun v86 => oLet (sG (xC v80) true (sV ((xW 1)))) fun v87 => oLet (sG (xC v80) true (sV ((xW 2)))) fun v88 => oLet (sG (xC v80) true (sV ((xW 3)))) fun v89 => oLet (sG (xC v80) true (sN (aRow 4 1 [1, 1, 1, 1] [(xC v86), (xC v87), (xC v88), (xC v89)]))) fun v90 => oLet (sG (xC v80) true (sLo [c35, c34] d35.next (lToStr (xC v90)))) fun v91 => oLet (sG (xC v80) true (sV (vSEq (xC v85) (xC v91)))) fun v92 => oLet (sV (vPick (xC v80) (xC v92) (xC (.bool false)))) fun v93 => oCap fun c46 => oLet (sG (xC v93) true (sC 8 [])) fun v95 => oCap fun d46 => oLet (sV (vPick (xC v93) (xC v95) (xC (.bool false)))) fun v96 => oSet 8 (sV ((xC v96))) fun v8 => oEnd))
 cRet)))))))), [.tmp (way 8)]⟩
theorem Try.k4_c : compF Try.prog [13, 14, 15, 16, 17, 18, 19, 20, 21, 22, 23, 24, 25, 26, 27, 29, 30, 31, 32, 33, 34, 35, 36, 37, 38, 39, 40, 41, 42, 43, 44, 45, 46, 47, 49, 50, 51, 52, 53, 54, 55, 56, 57, 58, 59, 60, 61, 62, 63, 64, 65, 66, 67, 68, 69, 70, 71, 72, 73, 74, 75, 76, 77, 78, 79, 80, 81, 82, 83, 84, 85, 86, 87, 88, 89, 90, 91, 92, 93, 94, 95, 96] Try.f4 = some Try.k4 := by kernel_rfl
def Try.k5 : KF := ⟨[(way 0), (way 1)], (cSeq (cOps (oSet 4 (sV ((xC (.bool false)))) fun v4 => oEnd))
 (cSeq (cSeq (cOps (oLet (sV ((xW 0))) fun v24 => oLet (sV (vLen (xC v24))) fun v25 => oLet (sV (vGt .i64 (xC v25) (xC (.int .i64 2000)))) fun v26 => oLet (sG (xC v26) false (sV ((xW 1)))) fun v28 => oLet (sG (xC v26) false (sV (vLen (xC v28)))) fun v29 => oLet (sG (xC v26) false (sV (vGt .i64 (xC v29) (xC (.int .i64 60))))) fun v30 => oSet 31 (sV (vPick (xC v26) (xC (.bool true)) (xC v30))) fun v31 => oEnd))
 (cCond (xW 31) (cSeq (cOps (oLet (sC 8 []) fun v32 => oSet 4 (sV ((xC v32))) fun v4 => oEnd))
 cRet)
 cSkip))
 (cSeq (cOps (oLet (sV ((xW 0))) fun v33 => oLet (sC 13 [(xC v33)]) fun v34 => oSet 5 (sV ((xC v34))) fun v5 => oEnd))
 (cSeq (cSeq (cOps (oLet (sV ((xW 5))) fun v35 => oSet 36 (sL (lEq (.ptr true) (xC v35) (xC (.nilptr)))) fun v36 => oEnd))
 (cCond (xW 36) (cSeq (cOps (oSet 4 (sV ((xC (.bool false)))) fun v4 => oEnd))
 cRet)
 cSkip))
 (cSeq (cOps (oSet 6 (sV ((xC (.int .i64 0)))) fun v6 => oEnd))
 (cSeq (cOps (oSet 7 (sV ((xC (.bool false)))) fun v7 => oEnd))
 (cSeq (cSeq (cOps (oSet 8 (sV ((xC (.int .i64 0)))) fun v8 => oEnd))
 (cBlock 0 (cLoop (cSeq (cSeq (cOps (oLet (sV ((xW 8))) fun v37 => oLet (sV ((xW 1))) fun v38 => oLet (sV (vLen (xC v38))) fun v39 => oSet 40 (sV (vLt .i64 (xC v37) (xC v39))) fun v40 => oEnd))
 (cCond (xW 40) cSkip
 (cExit 0)))
 (cSeq (cBlock 1 (cSeq (cOps (oLet (sV ((xW 1))) fun v43 => oLet (sV ((xW 8))) fun v44 => oLet (sV (vIdx 1 (xC v43) (xC v44))) fun v45 => oLet (sL (lLoad none (xC v45))) fun v46 => oLet (sC 20 [(xC v46), (xC (.int .i64 4))]) fun v47 => oLet (sV (vAdd .i64 (xC (.int .i64 1)) (xC v47))) fun v48 => oSet 9 (sV ((xC v48))) fun v9 => oEnd))
 (cSeq (cOps (oLet (sN (aRow 5 1 [1, 1, 1, 1, 1] [(xC (.int .i64 0)), (xC (.int .i64 1)), (xC (.int .i64 2)), (xC (.int .i64 4)), (xC (.int .i64 2))])) fun v49 => oLet (sV ((xW 9))) fun v50 => oLet (sV (vIdx 1 (xC v49) (xC v50))) fun v51 => oLet (sL (lLoad none (xC v51))) fun v52 => oSet 10 (sV ((xC v52))) fun v10 => oEnd))
 (cSeq (cOps (oSet 11 (sV ((xC (.int .i64 0)))) fun v11 => oSet 12 (sV ((xC (.str [])))) fun v12 => oEnd))
 (cSeq (cOps (oLet (sV ((xW 7))) fun v53 => oLet (sV (vUn .not (xC v53))) fun v54 => oLet (sG (xC v54) true (sV ((xW 0)))) fun v56 => oLet (sG (xC v54) true (sV (vLen (xC v56)))) fun v57 => oLet (sG (xC v54) true (sV ((xW 6)))) fun v58 => oLet (sG (xC v54) true (sV (vSub .i64 (xC v57) (xC v58)))) fun v59 => oLet (sG (xC v54) true (sV ((xW 10)))) fun v60 => oLet (sG (xC v54) true (sV (vGe .i64 (xC v59) (xC v60)))) fun v61 => oLet (sV (vPick (xC v54) (xC v61) (xC (.bool false)))) fun v62 => oSet 13 (sV ((xC v62))) fun v13 => oEnd))
 (cSeq (cSeq (cOps (oSet 63 (sV ((xW 13))) fun v63 => oEnd))
 (cCond (xW 63) (cSeq (cOps (oLet (sV ((xW 0))) fun v64 => oLet (sV ((xW 6))) fun v65 => oLet (sV (vSlice 1 (xC v64) [(xC v65)] [] [])) fun v66 => oLet (sV ((xW 10))) fun v67 => oLet (sC 21 [(xC v66), (xC v67)]) fun v68 => oSet 11 (sV ((xC v68))) fun v11 => oEnd))
 (cSeq (cOps (oLet (sV ((xW 9))) fun v69 => oSet 70 (sV (vEq .i64 (xC v69) (xC (.int .i64 4)))) fun v70 => oEnd))
 (cCond (xW 70) (cSeq (cOps (oLet (sV ((xW 0))) fun v71 => oLet (sV (vLen (xC v71))) fun v72 => oLet (sV ((xW 6))) fun v73 => oLet (sV (vSub .i64 (xC v72) (xC v73))) fun v74 => oLet (sV (vSub .i64 (xC v74) (xC (.int .i64 2)))) fun v75 => oLet (sV ((xW 11))) fun v76 => oLet (sV (vGe .i64 (xC v75) (xC v76))) fun v77 => oSet 13 (sV ((xC v77))) fun v13 => oEnd))
 (cSeq (cSeq (cOps (oSet 78 (sV ((xW 13))) fun v78 => oEnd))
 (cCond (xW 78) (cSeq (cOps (oLet (sV ((xW 0))) fun v79 => oLet (sV ((xW 6))) fun v80 => oLet (sV (vAdd .i64 (xC v80) (xC (.int .i64 2)))) fun v81 => oLet (sV (vAdd .i64 (xC v80) (xC (.int .i64 2)))) fun v83 => oLet (sV ((xW 11))) fun v84 => oLet (sV (vAdd .i64 (xC v83) (xC v84))) fun v85 => oLet (sV (vSlice 1 (xC v79) [(xC v81)] [(xC v85)] [])) fun v86 => oLet (sL (lToStr (xC v86))) fun v87 => oSet 12 (sV ((xC v87))) fun v12 => oEnd))
 (cOps (oLet (sV ((xW 11))) fun v88 => oLet (sV (vAdd .i64 (xC (.int .i64 2)) (xC v88))) fun v89 => oSet 10 (sV ((xC v89))) fun v10 => oEnd)))
 cSkip))
 (cOps (oSet 11 (sV ((xC (.int .i64 0)))) fun v11 => oEnd))))
 cSkip)))
 cSkip))
 (cSeq (cSeq (cOps (oLet (sV ((xW 13))) fun v90 => oSet 91 (sV (vUn .not (xC v90))) fun v91 => oEnd))
 (cCond (xW 91) (cOps (oSet 11 (sV ((xC (.int .i64 0)))) fun v11 => oSet 12 (sV ((xC (.str [])))) fun v12 => oSet 7 (sV ((xC (.bool true)))) fun v7 => oEnd))
 (cOps (oLet (sV ((xW 6))) fun v92 => oLet (sV ((xW 10))) fun v93 => oLet (sV (vAdd .i64 (xC v92) (xC v93))) fun v94 => oSet 6 (sV ((xC v94))) fun v6 => oEnd))))
 (cSeq (cOps (oSet 14 (sV ((xC (.int .i64 0)))) fun v14 => oSet 15 (sV ((xC (.str [])))) fun v15 => oEnd))
 (cSeq (cSeq (cOps (oSet 95 (sV ((xW 9))) fun v95 => oEnd))
 (cBlock 2 (cSeq (cOps (oLet (sV (vEq .i64 (xW 95) (xC (.int .i64 1)))) fun v97 => oSet 96 (sV ((xC v97))) fun v96 => oEnd))
 (cCond (xW 96) (cOps (oLet (sV ((xW 5))) fun v98 => oLet (sC 16 [(xC v98)]) fun v99 => oSet 14 (sV ((xC v99))) fun v14 => oEnd))
 (cSeq (cOps (oLet (sV (vEq .i64 (xW 95) (xC (.int .i64 2)))) fun v101 => oSet 100 (sV ((xC v101))) fun v100 => oEnd))
 (cCond (xW 100) (cOps (oLet (sV ((xW 5))) fun v102 => oLet (sC 15 [(xC v102)]) fun v103 => oSet 14 (sV ((xC v103))) fun v14 => oEnd))
 (cSeq (cOps (oLet (sV (vEq .i64 (xW 95) (xC (.int .i64 3)))) fun v105 => oSet 104 (sV ((xC v105))) fun v104 => oEnd))
 (cCond (xW 104) (cOps (oLet (sV ((xW 5))) fun v106 => oLet (sC 14 [(xC v106)]) fun v107 => oSet 14 (sV ((xC v107))) fun v14 => oEnd))
 (cSeq (cOps (oLet (sV (vEq .i64 (xW 95) (xC (.int .i64 4)))) fun v109 => oSet 108 (sV ((xC v109))) fun v108 => oEnd))
 (cCond (xW 108) (cOps (oLet (sV ((xW 5))) fun v110 => oLet (sC 22 [(xC v110)]) fun v111 => oSet 15 (sV ((xC v111))) fun v15 => oEnd))
 cSkip))))))))))
 (cSeq (cOps (oLet (sV ((xW 5))) fun v113 => oLet (sC 23 [(xC v113)]) fun v114 => oLet (sV (vExtract 0 (xC v114))) fun v115 => oLet (sV (vExtract 1 (xC v114))) fun v116 => oSet 16 (sV ((xC v115))) fun v16 => oSet 17 (sV ((xC v116))) fun v17 => oEnd))
 (cSeq (cOps (oLet (sV ((xW 0))) fun v117 => oLet (sV (vLen (xC v117))) fun v118 => oLet (sV ((xW 6))) fun v119 => oLet (sV (vSub .i64 (xC v118) (xC v119))) fun v120 => oSet 18 (sV ((xC v120))) fun v18 => oEnd))
 (cSeq (cOps (oSet 19 (sV ((xC (.int .i64 0)))) fun v19 => oSet 20 (sV ((xC (.int .i64 0)))) fun v20 => oEnd))
 (cSeq (cSeq (cOps (oSet 121 (sV ((xW 7))) fun v121 => oEnd))
 (cCond (xW 121) (cOps (oLet (sV ((xW 6))) fun v122 => oSet 18 (sV ((xC (.int .i64 0)))) fun v18 => oSet 19 (sV ((xC (.int .i64 2)))) fun v19 => oSet 20 (sV ((xC v122))) fun v20 => oEnd))
 cSkip))
 (cSeq (cOps (oLet (sV ((xW 14))) fun v123 => oLet (sV ((xW 11))) fun v124 => oLet (sV (vNe .i64 (xC v123) (xC v124))) fun v125 => oLet (sG (xC v125) false (sV ((xW 15)))) fun v127 => oLet (sG (xC v125) false (sV ((xW 12)))) fun v128 => oLet (sG (xC v125) false (sV (vSNe (xC v127) (xC v128)))) fun v129 => oLet (sV (vPick (xC v125) (xC (.bool true)) (xC v129))) fun v130 => oLet (sG (xC v130) false (sV ((xW 5)))) fun v132 => oLet (sG (xC v130) false (sC 17 [(xC v132)])) fun v133 => oLet (sG (xC v130) false (sV ((xW 6)))) fun v134 => oLet (sG (xC v130) false (sV (vNe .i64 (xC v133) (xC v134)))) fun v135 => oLet (sV (vPick (xC v130) (xC (.bool true)) (xC v135))) fun v136 => oLet (sG (xC v136) false (sV ((xW 5)))) fun v138 => oLet (sG (xC v136) false (sC 18 [(xC v138)])) fun v139 => oLet (sG (xC v136) false (sV ((xW 18)))) fun v140 => oLet (sG (xC v136) false (sV (vNe .i64 (xC v139) (xC v140)))) fun v141 => oLet (sV (vPick (xC v136) (xC (.bool true)) (xC v141))) fun v142 => oLet (sG (xC v142) false (sV ((xW 16)))) fun v144 => oLet (sG (xC v142) false (sV ((xW 19)))) fun v145 => oLet (sG (xC v142) false (sV (vNe .i64 (xC v144) (xC v145)))) fun v146 => oLet (sV (vPick (xC v142) (xC (.bool true)) (xC v146))) fun v147 => oLet (sG (xC v147) false (sV ((xW 17)))) fun v149 => oLet (sG (xC v147) false (sV ((xW 20)))) fun v150 => oLet (sG (xC v147) false (sV (vNe .i64 (xC v149) (xC v150)))) fun v151 => oSet 152 (sV (vPick (xC v147) (xC (.bool true)) (xC v151))) fun v152 => oEnd))
 (cCond (xW 152) (cSeq (cOps (oSet 4 (sV ((xC (.bool false)))) fun v4 => oEnd))
 cRet)
 cSkip)))))))))))))))
 (cOps (oLet (sV ((xW 8))) fun v41 => oLet (sV (vAdd .i64 (xC v41) (xC (.int .i64 1)))) fun v42 => oSet 8 (sV ((xC v42))) fun v8 => oEnd)))))))
 (cSeq (cOps (oSet 21 (sV ((xC (.nilptr)))) fun v21 => oEnd))
 (cSeq (cOps (oLet (sV ((xW 21))) fun v154 => oLet (sC 23 [(xC v154)]) fun v155 => oLet (sV (vExtract 0 (xC v155))) fun v156 => oLet (sV (vExtract 1 (xC v155))) fun v157 => oSet 22 (sV ((xC v156))) fun v22 => oSet 23 (sV ((xC v157))) fun v23 => oEnd))
 (cSeq (cOps (oLet (sV ((xW 21))) fun v158 => oLet (sC 16 [(xC v158)]) fun v159 => oLet (sV (vEq .i64 (xC v159) (xC (.int .i64 0)))) fun v160 => oLet (sG (xC v160) true (sV ((xC v158)))) fun v162 => oLet (sG (xC v160) true (sC 22 [(xC v162)])) fun v163 => oLet (sG (xC v160) true (sV (vSEq (xC v163) (xC (.str []))))) fun v164 => oLet (sV (vPick (xC v160) (xC v164) (xC (.bool false)))) fun v165 => oLet (sG (xC v165) true (sV ((xC v158)))) fun v167 => oLet (sG (xC v165) true (sC 18 [(xC v167)])) fun v168 => oLet (sG (xC v165) true (sV (vEq .i64 (xC v168) (xC (.int .i64 0))))) fun v169 => oLet (sV (vPick (xC v165) (xC v169) (xC (.bool false)))) fun v170 => oLet (sG (xC v170) true (sV ((xC v158)))) fun v172 => oLet (sG (xC v170) true (sC 17 [(xC v172)])) fun v173 => oLet (sG (xC v170) true (sV (vEq .i64 (xC v173) (xC (.int .i64 0))))) fun v174 => oLet (sV (vPick (xC v170) (xC v174) (xC (.bool false)))) fun v175 => oLet (sG (xC v175) true (sV ((xW 22)))) fun v177 => oLet (sG (xC v175) true (sV (vEq .i64 (xC v177) (xC (.int .i64 0))))) fun v178 => oLet (sV (vPick (xC v175) (xC v178) (xC (.bool false)))) fun v179 => oLet (sG (xC v179) true (sV ((xW 23)))) fun v181 => oLet (sG (xC v179) true (sV (vEq .i64 (xC v181) (xC (.int .i64 0))))) fun v182 => oLet (sV (vPick (xC v179) (xC v182) (xC (.bool false)))) fun v183 => oLet (sG (xC v183) true (sC 8 [])) fun v185 => oLet (sV (vPick (xC v183) (xC v185) (xC (.bool false)))) fun v186 => oSet 4 (sV ((xC v186))) fun v4 => oEnd))
 cRet)))))))))), [.tmp (way 4)]⟩
theorem Try.k5_c : compF Try.prog [24, 25, 26, 27, 28, 29, 30, 32, 33, 34, 35, 37, 38, 39, 43, 44, 45, 46, 47, 48, 49, 50, 51, 52, 53, 54, 55, 56, 57, 58, 59, 60, 61, 62, 64, 65, 66, 67, 68, 69, 71, 72, 73, 74, 75, 76, 77, 79, 80, 81, 82, 83, 84, 85, 86, 87, 88, 89, 90, 92, 93, 94, 97, 98, 99, 101, 102, 103, 105, 106, 107, 109, 110, 111, 113, 114, 112, 115, 116, 117, 118, 119, 120, 122, 123, 124, 125, 126, 127, 128, 129, 130, 131, 132, 133, 134, 135, 136, 137, 138, 139, 140, 141, 142, 143, 144, 145, 146, 147, 148, 149, 150, 151, 41, 42, 154, 155, 153, 156, 157, 158, 159, 160, 161, 162, 163, 164, 165, 166, 167, 168, 169, 170, 171, 172, 173, 174, 175, 176, 177, 178, 179, 180, 181, 182, 183, 184, 185, 186] Try.f5 = some Try.k5 := by kernel_rfl
def Try.k6 : KF := ⟨[(way 0), (way 1)], (cSeq (cOps (oSet 4 (sV ((xC (.bool false)))) fun v4 => oEnd))
 (cSeq (cSeq (cOps (oLet (sV ((xW 0))) fun v17 => oLet (sC 7 [(xC v17)]) fun v18 => oSet 19 (sV (vUn .not (xC v18))) fun v19 => oEnd))
 (cCond (xW 19) (cSeq (cOps (oLet (sC 8 []) fun v20 => oSet 4 (sV ((xC v20))) fun v4 => oEnd))
 cRet)
 cSkip))
 (cSeq (cOps (oSet 5 (sN (aAlloc [.nilslice, .bool false])) fun v5 => oEnd))
 (cSeq (cSeq (cOps (oSet 6 (sV ((xC (.int .i64 0)))) fun v6 => oEnd))
 (cBlock 0 (cLoop (cSeq (cSeq (cOps (oLet (sV ((xW 6))) fun v21 => oLet (sV ((xW 0))) fun v22 => oLet (sV (vLen (xC v22))) fun v23 => oSet 24 (sV (vLt .i64 (xC v21) (xC v23))) fun v24 => oEnd))
 (cCond (xW 24) cSkip
 (cExit 0)))
 (cSeq (cBlock 1 (cSeq (cOps (oLet (sV ((xW 0))) fun v28 => oLet (sV ((xW 6))) fun v29 => oLet (sV (vIdx 3 (xC v28) (xC v29))) fun v30 => oLet (sL (lLoad (some 3) (xC v30))) fun v31 => oLet (sC 10 [(xC v31)]) fun v32 => oLet (sV (vExtract 0 (xC v32))) fun v33 => oLet (sV (vExtract 1 (xC v32))) fun v34 => oSet 8 (sV ((xC v34))) fun v8 => oEnd))
 (cSeq (cSeq (cOps (oLet (sV ((xW 8))) fun v35 => oLet (sV (vUn .not (xC v35))) fun v36 => oLet (sG (xC v36) false (sV ((xW 0)))) fun v38 => oLet (sG (xC v36) false (sV ((xW 6)))) fun v39 => oLet (sG (xC v36) false (sV (vIdx 3 (xC v38) (xC v39)))) fun v40 => oLet (sG (xC v36) false (sV (vAddr 0 (xC v40)))) fun v41 => oLet (sG (xC v36) false (sL (lLoad none (xC v41)))) fun v42 => oLet (sG (xC v36) false (sV (vLt .i64 (xC v42) (xC (.int .i64 1))))) fun v43 => oLet (sV (vPick (xC v36) (xC (.bool true)) (xC v43))) fun v44 => oLet (sG (xC v44) false (sV ((xW 0)))) fun v46 => oLet (sG (xC v44) false (sV ((xW 6)))) fun v47 => oLet (sG (xC v44) false (sV (vIdx 3 (xC v46) (xC v47)))) fun v48 => oLet (sG (xC v44) false (sV (vAddr 0 (xC v48)))) fun v49 => oLet (sG (xC v44) false (sL (lLoad none (xC v49)))) fun v50 => oLet (sG (xC v44) false (sV (vGt .i64 (xC v50) (xC (.int .i64 4))))) fun v51 => oSet 52 (sV (vPick (xC v44) (xC (.bool true)) (xC v51))) fun v52 => oEnd))
 (cCond (xW 52) (cSeq (cOps (oLet (sC 8 []) fun v53 => oSet 4 (sV ((xC v53))) fun v4 => oEnd))
 cRet)
 cSkip))
 (cOps (oLet (sV ((xW 0))) fun v54 => oLet (sV ((xW 6))) fun v55 => oLet (sV (vIdx 3 (xC v54) (xC v55))) fun v56 => oLet (sL (lLoad (some 3) (xC v56))) fun v57 => oLet (sC 9 [(xW 5), (xC v57)]) fun v58 => oEnd)))))
 (cOps (oLet (sV ((xW 6))) fun v25 => oLet (sV (vAdd .i64 (xC v25) (xC (.int .i64 1)))) fun v26 => oSet 6 (sV ((xC v26))) fun v6 => oEnd)))))))
 (cSeq (cOps (oLet (sC 12 [(xW 5)]) fun v59 => oSet 9 (sV ((xC v59))) fun v9 => oEnd))
 (cSeq (cOps (oLet (sV ((xW 9))) fun v60 => oLet (sC 13 [(xC v60)]) fun v61 => oSet 10 (sV ((xC v61))) fun v10 => oEnd))
 (cSeq (cOps (oLet (sV ((xW 9))) fun v62 => oLet (sV ((xW 1))) fun v63 => oLet (sV (vLen (xC v62))) fun v65 => oLet (sV (vAdd .i64 (xC v65) (xC (.int .i64 1)))) fun v66 => oLet (sC 20 [(xC v63), (xC v66)]) fun v67 => oLet (sV (vSlice 1 (xC v62) [] [(xC v67)] [])) fun v68 => oLet (sC 13 [(xC v68)]) fun v69 => oSet 11 (sV ((xC v69))) fun v11 => oEnd))
 (cSeq (cSeq (cOps (oLet (sV ((xW 10))) fun v70 => oLet (sL (lEq (.ptr true) (xC v70) (xC (.nilptr)))) fun v71 => oLet (sG (xC v71) false (sV ((xW 11)))) fun v73 => oLet (sG (xC v71) false (sL (lEq (.ptr true) (xC v73) (xC (.nilptr))))) fun v74 => oSet 75 (sV (vPick (xC v71) (xC (.bool true)) (xC v74))) fun v75 => oEnd))
 (cCond (xW 75) (cSeq (cOps (oSet 4 (sV ((xC (.bool false)))) fun v4 => oEnd))
 cRet)
 cSkip))
 (cSeq (cSeq (cOps (oSet 12 (sV ((xC (.int .i64 0)))) fun v12 => oEnd))
 (cBlock 2 (cLoop (cSeq (cSeq (cOps (oLet (sV ((xW 12))) fun v76 => oLet (sV ((xW 0))) fun v77 => oLet (sV (vLen (xC v77))) fun v78 => oSet 79 (sV (vLt .i64 (xC v76) (xC v78))) fun v79 => oEnd))
 (cCond (xW 79) cSkip
 (cExit 2)))
 (cSeq (cBlock 3 (cSeq (cSeq (cOps (oLet (sV ((xW 10))) fun v82 => oLet (sV ((xW 0))) fun v83 => oLet (sV ((xW 12))) fun v84 => oLet (sV (vIdx 3 (xC v83) (xC v84))) fun v85 => oLet (sL (lLoad (some 3) (xC v85))) fun v86 => oLet (sC 24 [(xC v82), (xC v86)]) fun v87 => oSet 88 (sV (vUn .not (xC v87))) fun v88 => oEnd))
 (cCond (xW 88) (cSeq (cOps (oSet 4 (sV ((xC (.bool false)))) fun v4 => oEnd))
 cRet)
 cSkip))
 (cOps (oLet (sV ((xW 11))) fun v89 => oLet (sV ((xW 0))) fun v90 => oLet (sV ((xW 12))) fun v91 => oLet (sV (vIdx 3 (xC v90) (xC v91))) fun v92 => oLet (sL (lLoad (some 3) (xC v92))) fun v93 => oLet (sC 24 [(xC v89), (xC v93)]) fun v94 => oEnd))))
 (cOps (oLet (sV ((xW 12))) fun v80 => oLet (sV (vAdd .i64 (xC v80) (xC (.int .i64 1)))) fun v81 => oSet 12 (sV ((xC v81))) fun v12 => oEnd)))))))
 (cSeq (cOps (oLet (sV ((xW 10))) fun v96 => oLet (sC 23 [(xC v96)]) fun v97 => oLet (sV (vExtract 0 (xC v97))) fun v98 => oLet (sV (vExtract 1 (xC v97))) fun v99 => oSet 13 (sV ((xC v98))) fun v13 => oEnd))
 (cSeq (cOps (oLet (sV ((xW 11))) fun v101 => oLet (sC 23 [(xC v101)]) fun v102 => oLet (sV (vExtract 0 (xC v102))) fun v103 => oLet (sV (vExtract 1 (xC v102))) fun v104 => oSet 15 (sV ((xC v103))) fun v15 => oEnd))
 (cSeq (cOps (oLet (sV ((xW 13))) fun v105 => oLet (sV (vEq .i64 (xC v105) (xC (.int .i64 0)))) fun v106 => oLet (sG (xC v106) true (sV ((xW 10)))) fun v108 => oLet (sG (xC v106) true (sC 18 [(xC v108)])) fun v109 => oLet (sG (xC v106) true (sV (vEq .i64 (xC v109) (xC (.int .i64 0))))) fun v110 => oLet (sV (vPick (xC v106) (xC v110) (xC (.bool false)))) fun v111 => oLet (sG (xC v111) true (sV ((xW 10)))) fun v113 => oLet (sG (xC v111) true (sC 17 [(xC v113)])) fun v114 => oLet (sG (xC v111) true (sV ((xW 9)))) fun v115 => oLet (sG (xC v111) true (sV (vLen (xC v115)))) fun v116 => oLet (sG (xC v111) true (sV (vEq .i64 (xC v114) (xC v116)))) fun v117 => oLet (sV (vPick (xC v111) (xC v117) (xC (.bool false)))) fun v118 => oLet (sG (xC v118) true (sV ((xW 15)))) fun v120 => oLet (sG (xC v118) true (sV (vEq .i64 (xC v120) (xC (.int .i64 2))))) fun v121 => oLet (sG (xC v118) true (sV ((xW 1)))) fun v122 => oLet (sG (xC v118) true (sV ((xW 9)))) fun v123 => oLet (sG (xC v118) true (sV (vLen (xC v123)))) fun v124 => oLet (sG (xC v118) true (sV (vAdd .i64 (xC v124) (xC (.int .i64 1))))) fun v125 => oLet (sG (xC v118) true (sC 20 [(xC v122), (xC v125)])) fun v126 => oLet (sG (xC v118) true (sV ((xW 9)))) fun v127 => oLet (sG (xC v118) true (sV (vLen (xC v127)))) fun v128 => oLet (sG (xC v118) true (sV (vLt .i64 (xC v126) (xC v128)))) fun v129 => oLet (sG (xC v118) true (sL (lEq .bool (xC v121) (xC v129)))) fun v130 => oLet (sV (vPick (xC v118) (xC v130) (xC (.bool false)))) fun v131 => oLet (sG (xC v131) true (sC 8 [])) fun v133 => oLet (sV (vPick (xC v131) (xC v133) (xC (.bool false)))) fun v134 => oSet 4 (sV ((xC v134))) fun v4 => oEnd))
 cRet)))))))))))), [.tmp (way 4)]⟩
theorem Try.k6_c : compF Try.prog [17, 18, 20, 21, 22, 23, 28, 29, 30, 31, 32, 27, 33, 34, 7, 35, 36, 37, 38, 39, 40, 41, 42, 43, 44, 45, 46, 47, 48, 49, 50, 51, 53, 54, 55, 56, 57, 58, 25, 26, 59, 60, 61, 62, 63, 64, 65, 66, 67, 68, 69, 70, 71, 72, 73, 74, 76, 77, 78, 82, 83, 84, 85, 86, 87, 89, 90, 91, 92, 93, 94, 80, 81, 96, 97, 95, 98, 99, 14, 101, 102, 100, 103, 104, 16, 105, 106, 107, 108, 109, 110, 111, 112, 113, 114, 115, 116, 117, 118, 119, 120, 121, 122, 123, 124, 125, 126, 127, 128, 129, 130, 131, 132, 133, 134] Try.f6 = some Try.k6 := by kernel_rfl
def Try.k7 : KF := ⟨[(way 0)], (cSeq (cOps (oSet 2 (sV ((xC (.bool false)))) fun v2 => oEnd))
 (cSeq (cOps (oSet 3 (sV ((xC (.int .i64 0)))) fun v3 => oEnd))
 (cSeq (cSeq (cOps (oSet 4 (sV ((xC (.int .i64 0)))) fun v4 => oEnd))
 (cBlock 0 (cLoop (cSeq (cSeq (cOps (oLet (sV ((xW 4))) fun v5 => oLet (sV ((xW 0))) fun v6 => oLet (sV (vLen (xC v6))) fun v7 => oLet (sV (vLt .i64 (xC v5) (xC v7))) fun v8 => oLet (sG (xC v8) true (sV ((xW 3)))) fun v10 => oLet (sG (xC v8) true (sV (vLe .i64 (xC v10) (xC (.int .i64 2000))))) fun v11 => oSet 12 (sV (vPick (xC v8) (xC v11) (xC (.bool false)))) fun v12 => oEnd))
 (cCond (xW 12) cSkip
 (cExit 0)))
 (cSeq (cBlock 1 (cOps (oLet (sV ((xW 3))) fun v15 => oLet (sV ((xW 0))) fun v16 => oLet (sV ((xW 4))) fun v17 => oLet (sV (vIdx 3 (xC v16) (xC v17))) fun v18 => oLet (sV (vAddr 2 (xC v18))) fun v19 => oLet (sL (lLoad none (xC v19))) fun v20 => oLet (sV (vLenS (xC v20))) fun v21 => oLet (sN (aRow 2 1 [1, 1] [(xC v21), (xC (.int .i64 4))])) fun v22 => oLet (sC 25 [(xC v15), (xC v22)]) fun v23 => oSet 3 (sV ((xC v23))) fun v3 => oEnd)))
 (cOps (oLet (sV ((xW 4))) fun v13 => oLet (sV (vAdd .i64 (xC v13) (xC (.int .i64 1)))) fun v14 => oSet 4 (sV ((xC v14))) fun v4 => oEnd)))))))
 (cSeq (cOps (oLet (sV ((xW 3))) fun v24 => oLet (sV (vLe .i64 (xC v24) (xC (.int .i64 2000)))) fun v25 => oSet 2 (sV ((xC v25))) fun v2 => oEnd))
 cRet)))), [.tmp (way 2)]⟩
theorem Try.k7_c : compF Try.prog [5, 6, 7, 8, 9, 10, 11, 15, 16, 17, 18, 19, 20, 21, 22, 23, 13, 14, 24, 25] Try.f7 = some Try.k7 := by kernel_rfl
def Try.k8 : KF := ⟨[], (cSeq (cOps (oSet 0 (sV ((xC (.bool false)))) fun v0 => oEnd))
 (cSeq (cOps (oSet 1 (sN (aAlloc [.nilslice, .bool false])) fun v1 => oEnd))
 (cSeq (cOps (oLet (sC 26 [(xW 1), (xC (.int .i64 258))]) fun v7 => oLet (sC 12 [(xC v7)]) fun v8 => oSet 2 (sV ((xC v8))) fun v2 => oEnd))
 (cSeq (cOps (oLet (sN (aRow 1 1 [1] [(xC (.int .u8 1))])) fun v9 => oLet (sC 13 [(xC v9)]) fun v10 => oSet 3 (sV ((xC v10))) fun v3 => oEnd))
 (cSeq (cSeq (cOps (oLet (sV ((xW 3))) fun v11 => oSet 12 (sL (lEq (.ptr true) (xC v11) (xC (.nilptr)))) fun v12 => oEnd))
 (cCond (xW 12) (cSeq (cOps (oSet 0 (sV ((xC (.bool false)))) fun v0 => oEnd))
 cRet)
 cSkip))
 (cSeq (cOps (oLet (sV ((xW 3))) fun v13 => oLet (sC 15 [(xC v13)]) fun v14 => oSet 4 (sV ((xC v14))) fun v4 => oEnd))
 (cSeq (cOps (oLet (sV ((xW 3))) fun v16 => oLet (sC 23 [(xC v16)]) fun v17 => oLet (sV (vExtract 0 (xC v17))) fun v18 => oLet (sV (vExtract 1 (xC v17))) fun v19 => oSet 5 (sV ((xC v18))) fun v5 => oSet 6 (sV ((xC v19))) fun v6 => oEnd))
 (cSeq (cOps (oLet (sV ((xW 2))) fun v20 => oLet (sL (lToStr (xC v20))) fun v21 => oLet (sV (vSEq (xC v21) (xC (.str [1, 2])))) fun v22 => oLet (sG (xC v22) true (sV ((xW 4)))) fun v24 => oLet (sG (xC v22) true (sV (vEq .i64 (xC v24) (xC (.int .i64 0))))) fun v25 => oLet (sV (vPick (xC v22) (xC v25) (xC (.bool false)))) fun v26 => oLet (sG (xC v26) true (sV ((xW 5)))) fun v28 => oLet (sG (xC v26) true (sV (vEq .i64 (xC v28) (xC (.int .i64 2))))) fun v29 => oLet (sV (vPick (xC v26) (xC v29) (xC (.bool false)))) fun v30 => oLet (sG (xC v30) true (sV ((xW 6)))) fun v32 => oLet (sG (xC v30) true (sV (vEq .i64 (xC v32) (xC (.int .i64 0))))) fun v33 => oLet (sV (vPick (xC v30) (xC v33) (xC (.bool false)))) fun v34 => oSet 0 (sV ((xC v34))) fun v0 => oEnd))
 cRet)))))))), [.tmp (way 0)]⟩
theorem Try.k8_c : compF Try.prog [7, 8, 9, 10, 11, 13, 14, 16, 17, 15, 18, 19, 20, 21, 22, 23, 24, 25, 26, 27, 28, 29, 30, 31, 32, 33, 34] Try.f8 = some Try.k8 := by kernel_rfl
def Try.k9 : KF := ⟨[(way 0), (way 1)], (cSeq (cOps (oSet 3 (sN (aBox (xW 1))) fun v3 => oSet 4 (sV ((xC (.nilptr)))) fun v4 => oEnd))
 (cSeq (cSeq (cOps (oLet (sV (vAddr 0 (xW 3))) fun v5 => oSet 6 (sL (lLoad none (xC v5))) fun v6 => oEnd))
 (cBlock 0 (cSeq (cOps (oLet (sV (vEq .i64 (xW 6) (xC (.int .i64 1)))) fun v8 => oSet 7 (sV ((xC v8))) fun v7 => oEnd))
 (cCond (xW 7) (cSeq (cOps (oLet (sV ((xW 0))) fun v9 => oLet (sV (vAddr 1 (xW 3))) fun v10 => oLet (sL (lLoad none (xC v10))) fun v11 => oLet (sC 27 [(xC v9), (xC v11)]) fun v12 => oSet 4 (sV ((xC v12))) fun v4 => oEnd))
 cRet)
 (cSeq (cOps (oLet (sV (vEq .i64 (xW 6) (xC (.int .i64 2)))) fun v14 => oSet 13 (sV ((xC v14))) fun v13 => oEnd))
 (cCond (xW 13) (cSeq (cOps (oLet (sV ((xW 0))) fun v15 => oLet (sV (vAddr 1 (xW 3))) fun v16 => oLet (sL (lLoad none (xC v16))) fun v17 => oLet (sC 26 [(xC v15), (xC v17)]) fun v18 => oSet 4 (sV ((xC v18))) fun v4 => oEnd))
 cRet)
 (cSeq (cOps (oLet (sV (vEq .i64 (xW 6) (xC (.int .i64 3)))) fun v20 => oSet 19 (sV ((xC v20))) fun v19 => oEnd))
 (cCond (xW 19) (cSeq (cOps (oLet (sV ((xW 0))) fun v21 => oLet (sV (vAddr 1 (xW 3))) fun v22 => oLet (sL (lLoad none (xC v22))) fun v23 => oLet (sC 19 [(xC v21), (xC v23)]) fun v24 => oSet 4 (sV ((xC v24))) fun v4 => oEnd))
 cRet)
 (cSeq (cOps (oLet (sV (vEq .i64 (xW 6) (xC (.int .i64 4)))) fun v26 => oSet 25 (sV ((xC v26))) fun v25 => oEnd))
 (cCond (xW 25) (cSeq (cOps (oLet (sV ((xW 0))) fun v27 => oLet (sV (vAddr 2 (xW 3))) fun v28 => oLet (sL (lLoad none (xC v28))) fun v29 => oLet (sC 28 [(xC v27), (xC v29)]) fun v30 => oSet 4 (sV ((xC v30))) fun v4 => oEnd))
 cRet)
 cSkip))))))))))
 (cSeq (cOps (oLet (sV ((xW 0))) fun v31 => oSet 4 (sV ((xC v31))) fun v4 => oEnd))
 cRet))), [.tmp (way 4)]⟩
theorem Try.k9_c : compF Try.prog [5, 8, 9, 10, 11, 12, 14, 15, 16, 17, 18, 20, 21, 22, 23, 24, 26, 27, 28, 29, 30, 31] Try.f9 = some Try.k9 := by kernel_rfl
def Try.k10 : KF := ⟨[(way 0)], (cSeq (cOps (oSet 1 (sN (aBox (xW 0))) fun v1 => oSet 2 (sV ((xC (.nilslice)))) fun v2 => oSet 3 (sV ((xC (.bool false)))) fun v3 => oEnd))
 (cSeq (cSeq (cOps (oLet (sV (vAddr 0 (xW 1))) fun v4 => oSet 5 (sL (lLoad none (xC v4))) fun v5 => oEnd))
 (cBlock 0 (cSeq (cOps (oLet (sV (vEq .i64 (xW 5) (xC (.int .i64 1)))) fun v7 => oSet 6 (sV ((xC v7))) fun v6 => oEnd))
 (cCond (xW 6) (cSeq (cOps (oLet (sV (vAddr 1 (xW 1))) fun v8 => oLet (sL (lLoad none (xC v8))) fun v9 => oCap fun c2 => oLet (sC 29 [(xC v9), (xC (.int .i64 1))]) fun v10 => oCap fun d2 => oLet (sV (vAddr 1 (xW 1))) fun v11 => oLet (sLo [c2] d2.next (lLoad none (xC v11))) fun v12 => oLet (sV (vGe .i64 (xC v12) (xC (.int .i64 0)))) fun v13 => oLet (sG (xC v13) true (sV (vAddr 1 (xW 1)))) fun v15 => oLet (sG (xC v13) true (sL (lLoad none (xC v15)))) fun v16 => oLet (sG (xC v13) true (sV (vLt .i64 (xC v16) (xC (.int .i64 256))))) fun v17 => oLet (sV (vPick (xC v13) (xC v17) (xC (.bool false)))) fun v18 => oSet 2 (sV ((xC v10))) fun v2 => oSet 3 (sV ((xC v18))) fun v3 => oEnd))
 cRet)
 (cSeq (cOps (oLet (sV (vEq .i64 (xW 5) (xC (.int .i64 2)))) fun v20 => oSet 19 (sV ((xC v20))) fun v19 => oEnd))
 (cCond (xW 19) (cSeq (cOps (oLet (sV (vAddr 1 (xW 1))) fun v21 => oLet (sL (lLoad none (xC v21))) fun v22 => oCap fun c2 => oLet (sC 29 [(xC v22), (xC (.int .i64 2))]) fun v23 => oCap fun d2 => oLet (sV (vAddr 1 (xW 1))) fun v24 => oLet (sLo [c2] d2.next (lLoad none (xC v24))) fun v25 => oLet (sV (vGe .i64 (xC v25) (xC (.int .i64 0)))) fun v26 => oLet (sG (xC v26) true (sV (vAddr 1 (xW 1)))) fun v28 => oLet (sG (xC v26) true (sL (lLoad none (xC v28)))) fun v29 => oLet (sG (xC v26) true (sV (vLt .i64 (xC v29) (xC (.int .i64 65536))))) fun v30 => oLet (sV (vPick (xC v26) (xC v30) (xC (.bool false)))) fun v31 => oSet 2 (sV ((xC v23))) fun v2 => oSet 3 (sV ((xC v31))) fun v3 => oEnd))
 cRet)
 (cSeq (cOps (oLet (sV (vEq .i64 (xW 5) (xC (.int .i64 3)))) fun v33 => oSet 32 (sV ((xC v33))) fun v32 => oEnd))
 (cCond (xW 32) (cSeq (cOps (oLet (sV (vAddr 1 (xW 1))) fun v34 => oLet (sL (lLoad none (xC v34))) fun v35 => oCap fun c2 => oLet (sC 29 [(xC v35), (xC (.int .i64 4))]) fun v36 => oCap fun d2 => oLet (sV (vAddr 1 (xW 1))) fun v37 => oLet (sLo [c2] d2.next (lLoad none (xC v37))) fun v38 => oLet (sV (vGe .i64 (xC v38) (xC (.int .i64 (-2147483648))))) fun v39 => oLet (sG (xC v39) true (sV (vAddr 1 (xW 1)))) fun v41 => oLet (sG (xC v39) true (sL (lLoad none (xC v41)))) fun v42 => oLet (sG (xC v39) true (sV (vLt .i64 (xC v42) (xC (.int .i64 2147483648))))) fun v43 => oLet (sV (vPick (xC v39) (xC v43) (xC (.bool false)))) fun v44 => oSet 2 (sV ((xC v36))) fun v2 => oSet 3 (sV ((xC v44))) fun v3 => oEnd))
 cRet)
 (cSeq (cOps (oLet (sV (vEq .i64 (xW 5) (xC (.int .i64 4)))) fun v46 => oSet 45 (sV ((xC v46))) fun v45 => oEnd))
 (cCond (xW 45) (cSeq (cOps (oLet (sV (vAddr 2 (xW 1))) fun v47 => oLet (sL (lLoad none (xC v47))) fun v48 => oCap fun c2 => oLet (sC 30 [(xC v48)]) fun v49 => oCap fun d2 => oLet (sV (vAddr 2 (xW 1))) fun v50 => oLet (sLo [c2] d2.next (lLoad none (xC v50))) fun v51 => oLet (sV (vLenS (xC v51))) fun v52 => oLet (sV (vLt .i64 (xC v52) (xC (.int .i64 65536)))) fun v53 => oSet 2 (sV ((xC v49))) fun v2 => oSet 3 (sV ((xC v53))) fun v3 => oEnd))
 cRet)
 cSkip))))))))))
 (cSeq (cOps (oSet 2 (sV ((xC (.nilslice)))) fun v2 => oSet 3 (sV ((xC (.bool true)))) fun v3 => oEnd))
 cRet))), [.tmp (way 2), .tmp (way 3)]⟩
theorem Try.k10_c : compF Try.prog [4, 7, 8, 9, 10, 11, 12, 13, 14, 15, 16, 17, 18, 20, 21, 22, 23, 24, 25, 26, 27, 28, 29, 30, 31, 33, 34, 35, 36, 37, 38, 39, 40, 41, 42, 43, 44, 46, 47, 48, 49, 50, 51, 52, 53] Try.f10 = some Try.k10 := by kernel_rfl
def Try.k11 : KF := ⟨[(way 0)], (cSeq (cOps (oSet 2 (sV ((xC (.bool false)))) fun v2 => oEnd))
 (cSeq (cOps (oLet (sV ((xW 0))) fun v3 => oLet (sL (lEq (.ptr true) (xC v3) (xC (.nilptr)))) fun v4 => oLet (sG (xC v4) false (sV ((xC v3)))) fun v6 => oLet (sG (xC v4) false (sV (vNil (xC v6)))) fun v7 => oLet (sG (xC v4) false (sV (vAddr 1 (xC v7)))) fun v8 => oLet (sG (xC v4) false (sL (lLoad none (xC v8)))) fun v9 => oLet (sV (vPick (xC v4) (xC (.bool true)) (xC v9))) fun v10 => oSet 2 (sV ((xC v10))) fun v2 => oEnd))
 cRet)), [.tmp (way 2)]⟩
theorem Try.k11_c : compF Try.prog [3, 4, 5, 6, 7, 8, 9, 10] Try.f11 = some Try.k11 := by kernel_rfl
def Try.k12 : KF := ⟨[(way 0)], (cSeq (cOps (oSet 2 (sV ((xC (.nilslice)))) fun v2 => oEnd))
 (cSeq (cSeq (cOps (oLet (sV ((xW 0))) fun v3 => oSet 4 (sC 11 [(xC v3)]) fun v4 => oEnd))
 (cCond (xW 4) (cSeq (cOps (oSet 2 (sV ((xC (.nilslice)))) fun v2 => oEnd))
 cRet)
 cSkip))
 (cSeq (cOps (oLet (sV ((xW 0))) fun v5 => oLet (sV (vNil (xC v5))) fun v6 => oLet (sV (vAddr 0 (xC v6))) fun v7 => oLet (sL (lLoad none (xC v7))) fun v8 => oLet (sC 31 [(xC v8)]) fun v9 => oSet 2 (sV ((xC v9))) fun v2 => oEnd))
 cRet))), [.tmp (way 2)]⟩
theorem Try.k12_c : compF Try.prog [3, 5, 6, 7, 8, 9] Try.f12 = some Try.k12 := by kernel_rfl
def Try.k13 : KF := ⟨[(way 0)], (cSeq (cOps (oSet 2 (sV ((xC (.nilptr)))) fun v2 => oEnd))
 (cSeq (cOps (oLet (sV ((xW 0))) fun v3 => oLet (sC 31 [(xC v3)]) fun v4 => oLet (sV (vFill [.nilslice, .int .i64 0, .bool false] [(0, 1)] [(xC v4)])) fun v5 => oLet (sN (aBox (xC v5))) fun v6 => oSet 2 (sV ((xC v6))) fun v2 => oEnd))
 cRet)), [.tmp (way 2)]⟩
theorem Try.k13_c : compF Try.prog [3, 4, 5, 6] Try.f13 = some Try.k13 := by kernel_rfl
def Try.k14 : KF := ⟨[(way 0)], (cSeq (cOps (oSet 2 (sV ((xC (.int .i64 0)))) fun v2 => oEnd))
 (cSeq (cOps (oLet (sV ((xW 0))) fun v3 => oLet (sC 32 [(xC v3), (xC (.int .i64 4))]) fun v4 => oLet (sV (vToI .i32 (xC v4))) fun v5 => oLet (sV (vToI .i64 (xC v5))) fun v6 => oSet 2 (sV ((xC v6))) fun v2 => oEnd))
 cRet)), [.tmp (way 2)]⟩
theorem Try.k14_c : compF Try.prog [3, 4, 5, 6] Try.f14 = some Try.k14 := by kernel_rfl
def Try.k15 : KF := ⟨[(way 0)], (cSeq (cOps (oSet 2 (sV ((xC (.int .i64 0)))) fun v2 => oEnd))
 (cSeq (cOps (oLet (sV ((xW 0))) fun v3 => oLet (sC 32 [(xC v3), (xC (.int .i64 2))]) fun v4 => oSet 2 (sV ((xC v4))) fun v2 => oEnd))
 cRet)), [.tmp (way 2)]⟩
theorem Try.k15_c : compF Try.prog [3, 4] Try.f15 = some Try.k15 := by kernel_rfl
def Try.k16 : KF := ⟨[(way 0)], (cSeq (cOps (oSet 2 (sV ((xC (.int .i64 0)))) fun v2 => oEnd))
 (cSeq (cOps (oLet (sV ((xW 0))) fun v3 => oLet (sC 32 [(xC v3), (xC (.int .i64 1))]) fun v4 => oSet 2 (sV ((xC v4))) fun v2 => oEnd))
 cRet)), [.tmp (way 2)]⟩
theorem Try.k16_c : compF Try.prog [3, 4] Try.f16 = some Try.k16 := by kernel_rfl
def Try.k17 : KF := ⟨[(way 0)], (cSeq (cOps (oSet 2 (sV ((xC (.int .i64 0)))) fun v2 => oEnd))
 (cSeq (cSeq (cOps (oLet (sV ((xW 0))) fun v3 => oSet 4 (sL (lEq (.ptr true) (xC v3) (xC (.nilptr)))) fun v4 => oEnd))
 (cCond (xW 4) (cSeq (cOps (oSet 2 (sV ((xC (.int .i64 0)))) fun v2 => oEnd))
 cRet)
 cSkip))
 (cSeq (cOps (oLet (sV ((xW 0))) fun v5 => oLet (sV (vNil (xC v5))) fun v6 => oLet (sV (vAddr 1 (xC v6))) fun v7 => oLet (sL (lLoad none (xC v7))) fun v8 => oSet 2 (sV ((xC v8))) fun v2 => oEnd))
 cRet))), [.tmp (way 2)]⟩
theorem Try.k17_c : compF Try.prog [3, 5, 6, 7, 8] Try.f17 = some Try.k17 := by kernel_rfl
def Try.k18 : KF := ⟨[(way 0)], (cSeq (cOps (oSet 2 (sV ((xC (.int .i64 0)))) fun v2 => oEnd))
 (cSeq (cSeq (cOps (oLet (sV ((xW 0))) fun v3 => oLet (sL (lEq (.ptr true) (xC v3) (xC (.nilptr)))) fun v4 => oLet (sG (xC v4) false (sV ((xC v3)))) fun v6 => oLet (sG (xC v4) false (sV (vNil (xC v6)))) fun v7 => oLet (sG (xC v4) false (sV (vAddr 2 (xC v7)))) fun v8 => oLet (sG (xC v4) false (sL (lLoad none (xC v8)))) fun v9 => oSet 10 (sV (vPick (xC v4) (xC (.bool true)) (xC v9))) fun v10 => oEnd))
 (cCond (xW 10) (cSeq (cOps (oSet 2 (sV ((xC (.int .i64 0)))) fun v2 => oEnd))
 cRet)
 cSkip))
 (cSeq (cOps (oLet (sV ((xW 0))) fun v11 => oLet (sV (vNil (xC v11))) fun v12 => oLet (sV (vAddr 0 (xC v12))) fun v13 => oLet (sL (lLoad none (xC v13))) fun v14 => oLet (sV (vLen (xC v14))) fun v15 => oLet (sV (vNil (xC v11))) fun v17 => oLet (sV (vAddr 1 (xC v17))) fun v18 => oLet (sL (lLoad none (xC v18))) fun v19 => oLet (sV (vSub .i64 (xC v15) (xC v19))) fun v20 => oSet 2 (sV ((xC v20))) fun v2 => oEnd))
 cRet))), [.tmp (way 2)]⟩
theorem Try.k18_c : compF Try.prog [3, 4, 5, 6, 7, 8, 9, 11, 12, 13, 14, 15, 16, 17, 18, 19, 20] Try.f18 = some Try.k18 := by kernel_rfl
def Try.k19 : KF := ⟨[(way 0), (way 1)], (cSeq (cOps (oSet 4 (sV ((xC (.nilptr)))) fun v4 => oEnd))
 (cSeq (cOps (oLet (sV ((xW 0))) fun v5 => oLet (sV ((xW 1))) fun v6 => oLet (sC 33 [(xC v5), (xC v6), (xC (.int .i64 4)), (xC (.int .i64 (-2147483648))), (xC (.int .i64 2147483647))]) fun v7 => oSet 4 (sV ((xC v7))) fun v4 => oEnd))
 cRet)), [.tmp (way 4)]⟩
theorem Try.k19_c : compF Try.prog [5, 6, 7] Try.f19 = some Try.k19 := by kernel_rfl
def Try.k20 : KF := ⟨[(way 0), (way 1)], (cSeq (cOps (oSet 4 (sV ((xC (.int .i64 0)))) fun v4 => oEnd))
 (cSeq (cOps (oLet (sV ((xW 0))) fun v5 => oLet (sV ((xW 1))) fun v6 => oLet (sV (vAr .rem .i64 (xC v5) (xC v6))) fun v7 => oSet 0 (sV ((xC v7))) fun v0 => oEnd))
 (cSeq (cSeq (cOps (oLet (sV ((xW 0))) fun v8 => oSet 9 (sV (vLt .i64 (xC v8) (xC (.int .i64 0)))) fun v9 => oEnd))
 (cCond (xW 9) (cOps (oLet (sV ((xW 0))) fun v10 => oLet (sV ((xW 1))) fun v11 => oLet (sV (vAdd .i64 (xC v10) (xC v11))) fun v12 => oSet 0 (sV ((xC v12))) fun v0 => oEnd))
 cSkip))
 (cSeq (cOps (oLet (sV ((xW 0))) fun v13 => oSet 4 (sV ((xC v13))) fun v4 => oEnd))
 cRet)))), [.tmp (way 4)]⟩
theorem Try.k20_c : compF Try.prog [5, 6, 7, 8, 10, 11, 12, 13] Try.f20 = some Try.k20 := by kernel_rfl
def Try.k21 : KF := ⟨[(way 0), (way 1)], (cSeq (cOps (oSet 4 (sV ((xC (.int .i64 0)))) fun v4 => oEnd))
 (cSeq (cOps (oSet 5 (sV ((xC (.int .u64 0)))) fun v5 => oEnd))
 (cSeq (cSeq (cOps (oSet 6 (sV ((xC (.int .i64 0)))) fun v6 => oEnd))
 (cBlock 0 (cLoop (cSeq (cSeq (cOps (oLet (sV ((xW 6))) fun v7 => oLet (sV ((xW 1))) fun v8 => oSet 9 (sV (vLt .i64 (xC v7) (xC v8))) fun v9 => oEnd))
 (cCond (xW 9) cSkip
 (cExit 0)))
 (cSeq (cBlock 1 (cOps (oLet (sV ((xW 5))) fun v12 => oLet (sV (vSh .shl .u64 (xC v12) (xC (.int .u64 8)))) fun v13 => oLet (sV ((xW 0))) fun v14 => oLet (sV ((xW 6))) fun v15 => oLet (sV (vIdx 1 (xC v14) (xC v15))) fun v16 => oLet (sL (lLoad none (xC v16))) fun v17 => oLet (sV (vToI .u64 (xC v17))) fun v18 => oLet (sV (vAr .or .u64 (xC v13) (xC v18))) fun v19 => oSet 5 (sV ((xC v19))) fun v5 => oEnd)))
 (cOps (oLet (sV ((xW 6))) fun v10 => oLet (sV (vAdd .i64 (xC v10) (xC (.int .i64 1)))) fun v11 => oSet 6 (sV ((xC v11))) fun v6 => oEnd)))))))
 (cSeq (cSeq (cOps (oLet (sV ((xW 1))) fun v20 => oSet 21 (sV (vEq .i64 (xC v20) (xC (.int .i64 4)))) fun v21 => oEnd))
 (cCond (xW 21) (cSeq (cOps (oLet (sV ((xW 5))) fun v22 => oLet (sV (vToI .u32 (xC v22))) fun v23 => oLet (sV (vToI .i32 (xC v23))) fun v24 => oLet (sV (vToI .i64 (xC v24))) fun v25 => oSet 4 (sV ((xC v25))) fun v4 => oEnd))
 cRet)
 cSkip))
 (cSeq (cOps (oLet (sV ((xW 5))) fun v26 => oLet (sV (vToI .i64 (xC v26))) fun v27 => oSet 4 (sV ((xC v27))) fun v4 => oEnd))
 cRet))))), [.tmp (way 4)]⟩
theorem Try.k21_c : compF Try.prog [7, 8, 12, 13, 14, 15, 16, 17, 18, 19, 10, 11, 20, 22, 23, 24, 25, 26, 27] Try.f21 = some Try.k21 := by kernel_rfl
def Try.k22 : KF := ⟨[(way 0)], (cSeq (cOps (oSet 2 (sV ((xC (.str [])))) fun v2 => oEnd))
 (cSeq (cOps (oLet (sV ((xW 0))) fun v7 => oLet (sC 17 [(xC v7)]) fun v8 => oSet 3 (sV ((xC v8))) fun v3 => oEnd))
 (cSeq (cOps (oLet (sV ((xW 0))) fun v9 => oLet (sC 15 [(xC v9)]) fun v10 => oSet 4 (sV ((xC v10))) fun v4 => oEnd))
 (cSeq (cOps (oLet (sV ((xW 0))) fun v12 => oLet (sV ((xW 4))) fun v13 => oLet (sV ((xW 3))) fun v14 => oLet (sC 34 [(xC v12), (xC v13), (xC v14)]) fun v15 => oLet (sV (vExtract 0 (xC v15))) fun v16 => oLet (sV (vExtract 1 (xC v15))) fun v17 => oSet 5 (sV ((xC v16))) fun v5 => oEnd))
 (cSeq (cOps (oLet (sV ((xW 5))) fun v18 => oLet (sL (lToStr (xC v18))) fun v19 => oSet 2 (sV ((xC v19))) fun v2 => oEnd))
 cRet))))), [.tmp (way 2)]⟩
theorem Try.k22_c : compF Try.prog [7, 8, 9, 10, 12, 13, 14, 15, 11, 16, 17, 6, 18, 19] Try.f22 = some Try.k22 := by kernel_rfl
def Try.k23 : KF := ⟨[(way 0)], (cSeq (cOps (oSet 2 (sV ((xC (.int .i64 0)))) fun v2 => oSet 3 (sV ((xC (.int .i64 0)))) fun v3 => oEnd))
 (cSeq (cSeq (cOps (oLet (sV ((xW 0))) fun v4 => oLet (sL (lEq (.ptr true) (xC v4) (xC (.nilptr)))) fun v5 => oLet (sG (xC v5) false (sV ((xC v4)))) fun v7 => oLet (sG (xC v5) false (sV (vNil (xC v7)))) fun v8 => oLet (sG (xC v5) false (sV (vAddr 2 (xC v8)))) fun v9 => oLet (sG (xC v5) false (sL (lLoad none (xC v9)))) fun v10 => oLet (sG (xC v5) false (sV (vUn .not (xC v10)))) fun v11 => oSet 12 (sV (vPick (xC v5) (xC (.bool true)) (xC v11))) fun v12 => oEnd))
 (cCond (xW 12) (cSeq (cOps (oSet 2 (sV ((xC (.int .i64 0)))) fun v2 => oSet 3 (sV ((xC (.int .i64 0)))) fun v3 => oEnd))
 cRet)
 cSkip))
 (cSeq (cOps (oLet (sV ((xW 0))) fun v13 => oLet (sV (vNil (xC v13))) fun v14 => oLet (sV (vAddr 1 (xC v14))) fun v15 => oLet (sL (lLoad none (xC v15))) fun v16 => oSet 2 (sV ((xC (.int .i64 2)))) fun v2 => oSet 3 (sV ((xC v16))) fun v3 => oEnd))
 cRet))), [.tmp (way 2), .tmp (way 3)]⟩
theorem Try.k23_c : compF Try.prog [4, 5, 6, 7, 8, 9, 10, 11, 13, 14, 15, 16] Try.f23 = some Try.k23 := by kernel_rfl
def Try.k24 : KF := ⟨[(way 0), (way 1)], (cSeq (cOps (oSet 3 (sN (aBox (xW 1))) fun v3 => oSet 4 (sV ((xC (.bool false)))) fun v4 => oEnd))
 (cSeq (cSeq (cOps (oLet (sV (vAddr 0 (xW 3))) fun v5 => oSet 6 (sL (lLoad none (xC v5))) fun v6 => oEnd))
 (cBlock 0 (cSeq (cOps (oLet (sV (vEq .i64 (xW 6) (xC (.int .i64 1)))) fun v8 => oSet 7 (sV ((xC v8))) fun v7 => oEnd))
 (cCond (xW 7) (cSeq (cOps (oLet (sV ((xW 0))) fun v9 => oCap fun c1 => oLet (sC 16 [(xC v9)]) fun v10 => oCap fun d1 => oLet (sV (vAddr 1 (xW 3))) fun v11 => oLet (sLo [c1] d1.next (lLoad none (xC v11))) fun v12 => oLet (sV (vEq .i64 (xC v10) (xC v12))) fun v13 => oSet 4 (sV ((xC v13))) fun v4 => oEnd))
 cRet)
 (cSeq (cOps (oLet (sV (vEq .i64 (xW 6) (xC (.int .i64 2)))) fun v15 => oSet 14 (sV ((xC v15))) fun v14 => oEnd))
 (cCond (xW 14) (cSeq (cOps (oLet (sV ((xW 0))) fun v16 => oCap fun c1 => oLet (sC 15 [(xC v16)]) fun v17 => oCap fun d1 => oLet (sV (vAddr 1 (xW 3))) fun v18 => oLet (sLo [c1] d1.next (lLoad none (xC v18))) fun v19 => oLet (sV (vEq .i64 (xC v17) (xC v19))) fun v20 => oSet 4 (sV ((xC v20))) fun v4 => oEnd))
 cRet)
 (cSeq (cOps (oLet (sV (vEq .i64 (xW 6) (xC (.int .i64 3)))) fun v22 => oSet 21 (sV ((xC v22))) fun v21 => oEnd))
 (cCond (xW 21) (cSeq (cOps (oLet (sV ((xW 0))) fun v23 => oCap fun c1 => oLet (sC 14 [(xC v23)]) fun v24 => oCap fun d1 => oLet (sV (vAddr 1 (xW 3))) fun v25 => oLet (sLo [c1] d1.next (lLoad none (xC v25))) fun v26 => oLet (sV (vEq .i64 (xC v24) (xC v26))) fun v27 => oSet 4 (sV ((xC v27))) fun v4 => oEnd))
 cRet)
 cSkip))))))))
 (cSeq (cOps (oLet (sV ((xW 0))) fun v28 => oCap fun c1 => oLet (sC 22 [(xC v28)]) fun v29 => oCap fun d1 => oLet (sV (vAddr 2 (xW 3))) fun v30 => oLet (sLo [c1] d1.next (lLoad none (xC v30))) fun v31 => oLet (sV (vSEq (xC v29) (xC v31))) fun v32 => oSet 4 (sV ((xC v32))) fun v4 => oEnd))
 cRet))), [.tmp (way 4)]⟩
theorem Try.k24_c : compF Try.prog [5, 8, 9, 10, 11, 12, 13, 15, 16, 17, 18, 19, 20, 22, 23, 24, 25, 26, 27, 28, 29, 30, 31, 32] Try.f24 = some Try.k24 := by kernel_rfl
def Try.k25 : KF := ⟨[(way 0), (way 1)], (cSeq (cOps (oSet 4 (sV ((xC (.int .i64 0)))) fun v4 => oEnd))
 (cSeq (cSeq (cOps (oSet 5 (sV ((xC (.int .i64 0)))) fun v5 => oEnd))
 (cBlock 0 (cLoop (cSeq (cSeq (cOps (oLet (sV ((xW 5))) fun v6 => oLet (sV ((xW 1))) fun v7 => oLet (sV (vLen (xC v7))) fun v8 => oSet 9 (sV (vLt .i64 (xC v6) (xC v8))) fun v9 => oEnd))
 (cCond (xW 9) cSkip
 (cExit 0)))
 (cSeq (cBlock 1 (cSeq (cSeq (cOps (oLet (sV ((xW 0))) fun v12 => oLet (sV (vGt .i64 (xC v12) (xC (.int .i64 1099511627776)))) fun v13 => oLet (sG (xC v13) false (sV ((xW 1)))) fun v15 => oLet (sG (xC v13) false (sV ((xW 5)))) fun v16 => oLet (sG (xC v13) false (sV (vIdx 1 (xC v15) (xC v16)))) fun v17 => oLet (sG (xC v13) false (sL (lLoad none (xC v17)))) fun v18 => oLet (sG (xC v13) false (sV ((xC v12)))) fun v19 => oLet (sG (xC v13) false (sV (vSub .i64 (xC (.int .i64 1099511627776)) (xC v19)))) fun v20 => oLet (sG (xC v13) false (sV (vGt .i64 (xC v18) (xC v20)))) fun v21 => oSet 22 (sV (vPick (xC v13) (xC (.bool true)) (xC v21))) fun v22 => oEnd))
 (cCond (xW 22) (cSeq (cOps (oSet 4 (sV ((xC (.int .i64 1099511627776)))) fun v4 => oEnd))
 cRet)
 cSkip))
 (cOps (oLet (sV ((xW 0))) fun v23 => oLet (sV ((xW 1))) fun v24 => oLet (sV ((xW 5))) fun v25 => oLet (sV (vIdx 1 (xC v24) (xC v25))) fun v26 => oLet (sL (lLoad none (xC v26))) fun v27 => oLet (sV (vAdd .i64 (xC v23) (xC v27))) fun v28 => oSet 0 (sV ((xC v28))) fun v0 => oEnd))))
 (cOps (oLet (sV ((xW 5))) fun v10 => oLet (sV (vAdd .i64 (xC v10) (xC (.int .i64 1)))) fun v11 => oSet 5 (sV ((xC v11))) fun v5 => oEnd)))))))
 (cSeq (cOps (oLet (sV ((xW 0))) fun v29 => oSet 4 (sV ((xC v29))) fun v4 => oEnd))
 cRet))), [.tmp (way 4)]⟩
theorem Try.k25_c : compF Try.prog [6, 7, 8, 12, 13, 14, 15, 16, 17, 18, 19, 20, 21, 23, 24, 25, 26, 27, 28, 10, 11, 29] Try.f25 = some Try.k25 := by kernel_rfl
def Try.k26 : KF := ⟨[(way 0), (way 1)], (cSeq (cOps (oSet 4 (sV ((xC (.nilptr)))) fun v4 => oEnd))
 (cSeq (cOps (oLet (sV ((xW 0))) fun v5 => oLet (sV ((xW 1))) fun v6 => oLet (sC 33 [(xC v5), (xC v6), (xC (.int .i64 2)), (xC (.int .i64 0)), (xC (.int .i64 65535))]) fun v7 => oSet 4 (sV ((xC v7))) fun v4 => oEnd))
 cRet)), [.tmp (way 4)]⟩
theorem Try.k26_c : compF Try.prog [5, 6, 7] Try.f26 = some Try.k26 := by kernel_rfl
def Try.k27 : KF := ⟨[(way 0), (way 1)], (cSeq (cOps (oSet 4 (sV ((xC (.nilptr)))) fun v4 => oEnd))
 (cSeq (cOps (oLet (sV ((xW 0))) fun v5 => oLet (sV ((xW 1))) fun v6 => oLet (sC 33 [(xC v5), (xC v6), (xC (.int .i64 1)), (xC (.int .i64 0)), (xC (.int .i64 255))]) fun v7 => oSet 4 (sV ((xC v7))) fun v4 => oEnd))
 cRet)), [.tmp (way 4)]⟩
theorem Try.k27_c : compF Try.prog [5, 6, 7] Try.f27 = some Try.k27 := by kernel_rfl
def Try.k28 : KF := ⟨[(way 0), (way 1)], (cSeq (cOps (oSet 4 (sV ((xC (.nilptr)))) fun v4 => oEnd))
 (cSeq (cOps (oLet (sV ((xW 0))) fun v5 => oLet (sV ((xW 1))) fun v6 => oLet (sV (vLenS (xC v6))) fun v7 => oLet (sC 26 [(xC v5), (xC v7)]) fun v8 => oEnd))
 (cSeq (cSeq (cOps (oLet (sV ((xW 0))) fun v9 => oLet (sL (lNe (.ptr true) (xC v9) (xC (.nilptr)))) fun v10 => oLet (sG (xC v10) true (sV ((xC v9)))) fun v12 => oLet (sG (xC v10) true (sV (vNil (xC v12)))) fun v13 => oLet (sG (xC v10) true (sV (vAddr 1 (xC v13)))) fun v14 => oLet (sG (xC v10) true (sL (lLoad none (xC v14)))) fun v15 => oLet (sG (xC v10) true (sV (vUn .not (xC v15)))) fun v16 => oSet 17 (sV (vPick (xC v10) (xC v16) (xC (.bool false)))) fun v17 => oEnd))
 (cCond (xW 17) (cOps (oLet (sV ((xW 0))) fun v18 => oLet (sV (vNil (xC v18))) fun v20 => oLet (sV (vAddr 0 (xC v20))) fun v21 => oLet (sL (lLoad none (xC v21))) fun v22 => oLet (sV ((xW 1))) fun v23 => oLet (sM (tAppend 1 1 (xC v22) (xC v23))) fun v24 => oLet (sV (vNil (xC v18))) fun v25 => oLet (sV (vAddr 0 (xC v25))) fun v26 => oDo (sM (tStore 1 (xC v26) (xC v24))) (oEnd)))
 cSkip))
 (cSeq (cOps (oLet (sV ((xW 0))) fun v27 => oSet 4 (sV ((xC v27))) fun v4 => oEnd))
 cRet)))), [.tmp (way 4)]⟩
theorem Try.k28_c : compF Try.prog [5, 6, 7, 8, 9, 10, 11, 12, 13, 14, 15, 16, 18, 19, 20, 21, 22, 23, 24, 25, 26, 27] Try.f28 = some Try.k28 := by kernel_rfl
def Try.k29 : KF := ⟨[(way 0), (way 1)], (cSeq (cOps (oSet 4 (sV ((xC (.nilslice)))) fun v4 => oEnd))
 (cSeq (cOps (oLet (sV ((xW 1))) fun v7 => oLet (sN (aMakeSlice 1 1 [.int .u8 0] (xC v7) (xC v7))) fun v8 => oSet 5 (sV ((xC v8))) fun v5 => oEnd))
 (cSeq (cSeq (cOps (oSet 6 (sV ((xC (.int .i64 0)))) fun v6 => oEnd))
 (cBlock 0 (cLoop (cSeq (cSeq (cOps (oLet (sV ((xW 6))) fun v9 => oLet (sV ((xW 1))) fun v10 => oSet 11 (sV (vLt .i64 (xC v9) (xC v10))) fun v11 => oEnd))
 (cCond (xW 11) cSkip
 (cExit 0)))
 (cSeq (cBlock 1 (cOps (oLet (sV ((xW 5))) fun v14 => oLet (sV ((xW 1))) fun v15 => oLet (sV (vSub .i64 (xC v15) (xC (.int .i64 1)))) fun v16 => oLet (sV ((xW 6))) fun v17 => oLet (sV (vSub .i64 (xC v16) (xC v17))) fun v18 => oLet (sV ((xW 0))) fun v19 => oLet (sV (vToI .u64 (xC v19))) fun v20 => oLet (sV (vMul .i64 (xC (.int .i64 8)) (xC v17))) fun v22 => oLet (sV (vSh .shr .u64 (xC v20) (xC v22))) fun v23 => oLet (sV (vToI .u8 (xC v23))) fun v24 => oLet (sV (vIdx 1 (xC v14) (xC v18))) fun v25 => oDo (sM (tStore 1 (xC v25) (xC v24))) (oEnd))))
 (cOps (oLet (sV ((xW 6))) fun v12 => oLet (sV (vAdd .i64 (xC v12) (xC (.int .i64 1)))) fun v13 => oSet 6 (sV ((xC v13))) fun v6 => oEnd)))))))
 (cSeq (cOps (oLet (sV ((xW 5))) fun v26 => oSet 4 (sV ((xC v26))) fun v4 => oEnd))
 cRet)))), [.tmp (way 4)]⟩
theorem Try.k29_c : compF Try.prog [7, 8, 9, 10, 14, 15, 16, 17, 18, 19, 20, 21, 22, 23, 24, 25, 12, 13, 26] Try.f29 = some Try.k29 := by kernel_rfl
def Try.k30 : KF := ⟨[(way 0)], (cSeq (cOps (oSet 2 (sV ((xC (.nilslice)))) fun v2 => oEnd))
 (cSeq (cOps (oLet (sV ((xW 0))) fun v3 => oLet (sV (vLenS (xC v3))) fun v4 => oLet (sC 29 [(xC v4), (xC (.int .i64 2))]) fun v5 => oLet (sM (tAppend 1 1 (xC v5) (xC v3))) fun v7 => oSet 2 (sV ((xC v7))) fun v2 => oEnd))
 cRet)), [.tmp (way 2)]⟩
theorem Try.k30_c : compF Try.prog [3, 4, 5, 6, 7] Try.f30 = some Try.k30 := by kernel_rfl
def Try.k31 : KF := ⟨[(way 0)], (cSeq (cOps (oSet 2 (sV ((xC (.nilslice)))) fun v2 => oEnd))
 (cSeq (cSeq (cOps (oLet (sV ((xW 0))) fun v3 => oSet 4 (sL (lEq .slice (xC v3) (xC (.nilslice)))) fun v4 => oEnd))
 (cCond (xW 4) (cSeq (cOps (oSet 2 (sV ((xC (.nilslice)))) fun v2 => oEnd))
 cRet)
 cSkip))
 (cSeq (cOps (oLet (sN (aRow 0 1 [] [])) fun v5 => oLet (sV ((xW 0))) fun v6 => oLet (sM (tAppend 1 1 (xC v5) (xC v6))) fun v7 => oSet 2 (sV ((xC v7))) fun v2 => oEnd))
 cRet))), [.tmp (way 2)]⟩
theorem Try.k31_c : compF Try.prog [3, 5, 6, 7] Try.f31 = some Try.k31 := by kernel_rfl
def Try.k32 : KF := ⟨[(way 0), (way 1)], (cSeq (cOps (oSet 4 (sV ((xC (.int .i64 0)))) fun v4 => oEnd))
 (cSeq (cOps (oLet (sV ((xW 0))) fun v10 => oLet (sV ((xW 1))) fun v11 => oLet (sC 17 [(xC v10)]) fun v13 => oLet (sC 34 [(xC v10), (xC v11), (xC v13)]) fun v14 => oLet (sV (vExtract 0 (xC v14))) fun v15 => oLet (sV (vExtract 1 (xC v14))) fun v16 => oSet 5 (sV ((xC v15))) fun v5 => oEnd))
 (cSeq (cSeq (cOps (oSet 17 (sV ((xW 5))) fun v17 => oSet 18 (sV (vLen (xC v17))) fun v18 => oSet 19 (sV ((xC (.int .i64 0)))) fun v19 => oEnd))
 (cBlock 0 (cLoop (cSeq (cOps (oSet 20 (sV (vLt .i64 (xW 19) (xW 18))) fun v20 => oEnd))
 (cSeq (cCond (xW 20) cSkip
 (cExit 0))
 (cSeq (cBlock 1 (cSeq (cOps (oLet (sV (vIdx 1 (xW 17) (xW 19))) fun v21 => oLet (sL (lLoad none (xC v21))) fun v22 => oSet 8 (sV ((xC v22))) fun v8 => oEnd))
 (cOps (oLet (sV ((xW 4))) fun v23 => oLet (sV (vSh .shl .i64 (xC v23) (xC (.int .u64 8)))) fun v24 => oLet (sV ((xW 8))) fun v25 => oLet (sV (vToI .i64 (xC v25))) fun v26 => oLet (sV (vAr .or .i64 (xC v24) (xC v26))) fun v27 => oSet 4 (sV ((xC v27))) fun v4 => oEnd))))
 (cOps (oLet (sV (vAdd .i64 (xW 19) (xC (.int .i64 1)))) fun v28 => oSet 19 (sV ((xC v28))) fun v19 => oEnd))))))))
 (cSeq (cOps (oLet (sV ((xW 4))) fun v29 => oSet 4 (sV ((xC v29))) fun v4 => oEnd))
 cRet)))), [.tmp (way 4)]⟩
theorem Try.k32_c : compF Try.prog [10, 11, 12, 13, 14, 9, 15, 16, 6, 21, 22, 23, 24, 25, 26, 27, 28, 29] Try.f32 = some Try.k32 := by kernel_rfl
def Try.k33 : KF := ⟨[(way 0), (way 1), (way 2), (way 3), (way 4)], (cSeq (cOps (oSet 10 (sV ((xC (.nilptr)))) fun v10 => oEnd))
 (cSeq (cSeq (cOps (oLet (sV ((xW 0))) fun v11 => oSet 12 (sL (lEq (.ptr true) (xC v11) (xC (.nilptr)))) fun v12 => oEnd))
 (cCond (xW 12) (cSeq (cOps (oSet 10 (sV ((xC (.nilptr)))) fun v10 => oEnd))
 cRet)
 cSkip))
 (cSeq (cSeq (cOps (oLet (sV ((xW 0))) fun v13 => oLet (sV (vNil (xC v13))) fun v15 => oLet (sV (vAddr 1 (xC v15))) fun v16 => oLet (sL (lLoad none (xC v16))) fun v17 => oLet (sG (xC v17) false (sV ((xW 1)))) fun v19 => oLet (sG (xC v17) false (sV ((xW 3)))) fun v20 => oLet (sG (xC v17) false (sV (vLt .i64 (xC v19) (xC v20)))) fun v21 => oLet (sV (vPick (xC v17) (xC (.bool true)) (xC v21))) fun v22 => oLet (sG (xC v22) false (sV ((xW 1)))) fun v24 => oLet (sG (xC v22) false (sV ((xW 4)))) fun v25 => oLet (sG (xC v22) false (sV (vGt .i64 (xC v24) (xC v25)))) fun v26 => oLet (sV (vPick (xC v22) (xC (.bool true)) (xC v26))) fun v27 => oLet (sV (vNil (xC v13))) fun v28 => oLet (sV (vAddr 1 (xC v28))) fun v29 => oDo (sM (tStore 1 (xC v29) (xC v27))) (oEnd)))
 (cSeq (cOps (oLet (sV ((xW 0))) fun v30 => oLet (sV (vNil (xC v30))) fun v31 => oLet (sV (vAddr 1 (xC v31))) fun v32 => oSet 33 (sL (lLoad none (xC v32))) fun v33 => oEnd))
 (cCond (xW 33) (cSeq (cOps (oLet (sV ((xW 0))) fun v34 => oSet 10 (sV ((xC v34))) fun v10 => oEnd))
 cRet)
 cSkip)))
 (cSeq (cBlock 0 (cLoop (cSeq (cSeq (cOps (oLet (sV ((xW 2))) fun v35 => oSet 36 (sV (vGt .i64 (xC v35) (xC (.int .i64 0)))) fun v36 => oEnd))
 (cCond (xW 36) cSkip
 (cExit 0)))
 (cBlock 1 (cSeq (cOps (oLet (sV ((xW 2))) fun v37 => oLet (sV (vSub .i64 (xC v37) (xC (.int .i64 1)))) fun v38 => oSet 2 (sV ((xC v38))) fun v2 => oEnd))
 (cOps (oLet (sV ((xW 0))) fun v39 => oLet (sV (vNil (xC v39))) fun v41 => oLet (sV (vAddr 0 (xC v41))) fun v42 => oLet (sL (lLoad none (xC v42))) fun v43 => oLet (sV ((xW 1))) fun v44 => oLet (sV ((xW 2))) fun v45 => oLet (sV (vMul .i64 (xC (.int .i64 8)) (xC v45))) fun v46 => oLet (sV (vSh .shr .i64 (xC v44) (xC v46))) fun v47 => oLet (sV (vToI .u8 (xC v47))) fun v48 => oLet (sN (aRow 1 1 [1] [(xC v48)])) fun v49 => oLet (sM (tAppend 1 1 (xC v43) (xC v49))) fun v50 => oLet (sV (vNil (xC v39))) fun v51 => oLet (sV (vAddr 0 (xC v51))) fun v52 => oDo (sM (tStore 1 (xC v52) (xC v50))) (oEnd))))))))
 (cSeq (cOps (oLet (sV ((xW 0))) fun v53 => oSet 10 (sV ((xC v53))) fun v10 => oEnd))
 cRet))))), [.tmp (way 10)]⟩
theorem Try.k33_c : compF Try.prog [11, 13, 14, 15, 16, 17, 18, 19, 20, 21, 22, 23, 24, 25, 26, 27, 28, 29, 30, 31, 32, 34, 35, 37, 38, 39, 40, 41, 42, 43, 44, 45, 46, 47, 48, 49, 50, 51, 52, 53] Try.f33 = some Try.k33 := by kernel_rfl
def Try.k34 : KF := ⟨[(way 0), (way 1), (way 2)], (cSeq (cOps (oSet 6 (sV ((xC (.nilslice)))) fun v6 => oSet 7 (sV ((xC (.bool false)))) fun v7 => oEnd))
 (cScope (cSeq (cSeq (cOps (oLet (sV ((xW 0))) fun v8 => oLet (sL (lEq (.ptr true) (xC v8) (xC (.nilptr)))) fun v9 => oLet (sG (xC v9) false (sV ((xC v8)))) fun v11 => oLet (sG (xC v9) false (sV (vNil (xC v11)))) fun v12 => oLet (sG (xC v9) false (sV (vAddr 2 (xC v12)))) fun v13 => oLet (sG (xC v9) false (sL (lLoad none (xC v13)))) fun v14 => oSet 15 (sV (vPick (xC v9) (xC (.bool true)) (xC v14))) fun v15 => oEnd))
 (cCond (xW 15) (cGoto 0)
 cSkip))
 (cSeq (cSeq (cOps (oLet (sV ((xW 1))) fun v16 => oLet (sV ((xW 0))) fun v17 => oLet (sV (vNil (xC v17))) fun v18 => oLet (sV (vAddr 0 (xC v18))) fun v19 => oLet (sL (lLoad none (xC v19))) fun v20 => oLet (sV (vLen (xC v20))) fun v21 => oLet (sV (vNil (xC v17))) fun v23 => oLet (sV (vAddr 1 (xC v23))) fun v24 => oLet (sL (lLoad none (xC v24))) fun v25 => oLet (sV (vSub .i64 (xC v21) (xC v25))) fun v26 => oSet 27 (sV (vGt .i64 (xC v16) (xC v26))) fun v27 => oEnd))
 (cCond (xW 27) (cSeq (cOps (oLet (sV ((xW 0))) fun v28 => oLet (sV ((xW 2))) fun v30 => oLet (sV (vNil (xC v28))) fun v31 => oLet (sV (vAddr 2 (xC v31))) fun v32 => oDo (sM (tStore 1 (xC v32) (xC (.bool true)))) (oLet (sV (vNil (xC v28))) fun v33 => oLet (sV (vAddr 1 (xC v33))) fun v34 => oDo (sM (tStore 1 (xC v34) (xC v30))) (oEnd))))
 (cGoto 0))
 cSkip))
 (cSeq (cOps (oLet (sV ((xW 0))) fun v35 => oLet (sV (vNil (xC v35))) fun v36 => oLet (sV (vAddr 0 (xC v36))) fun v37 => oLet (sL (lLoad none (xC v37))) fun v38 => oLet (sV (vNil (xC v35))) fun v40 => oLet (sV (vAddr 1 (xC v40))) fun v41 => oLet (sL (lLoad none (xC v41))) fun v42 => oLet (sV (vNil (xC v35))) fun v44 => oLet (sV (vAddr 1 (xC v44))) fun v45 => oLet (sL (lLoad none (xC v45))) fun v46 => oLet (sV ((xW 1))) fun v47 => oLet (sV (vAdd .i64 (xC v46) (xC v47))) fun v48 => oLet (sV (vSlice 1 (xC v38) [(xC v42)] [(xC v48)] [])) fun v49 => oSet 6 (sV ((xC v49))) fun v6 => oEnd))
 (cSeq (cOps (oLet (sV ((xW 0))) fun v50 => oLet (sV (vNil (xC v50))) fun v51 => oLet (sV (vAddr 1 (xC v51))) fun v52 => oLet (sL (lLoad none (xC v52))) fun v53 => oLet (sV ((xW 1))) fun v54 => oLet (sV (vAdd .i64 (xC v53) (xC v54))) fun v55 => oLet (sV (vNil (xC v50))) fun v56 => oLet (sV (vAddr 1 (xC v56))) fun v57 => oDo (sM (tStore 1 (xC v57) (xC v55))) (oEnd)))
 (cSeq (cSeq (cOps (oLet (sV ((xW 6))) fun v58 => oSet 6 (sV ((xC v58))) fun v6 => oSet 7 (sV ((xC (.bool true)))) fun v7 => oEnd))
 cRet)
 (cSeq cSkip
 (cSeq (cOps (oSet 6 (sV ((xC (.nilslice)))) fun v6 => oSet 7 (sV ((xC (.bool false)))) fun v7 => oEnd))
 cRet))))))) [(0, (cSeq cSkip
 (cSeq (cOps (oSet 6 (sV ((xC (.nilslice)))) fun v6 => oSet 7 (sV ((xC (.bool false)))) fun v7 => oEnd))
 cRet)))])), [.tmp (way 6), .tmp (way 7)]⟩
theorem Try.k34_c : compF Try.prog [8, 9, 10, 11, 12, 13, 14, 16, 17, 18, 19, 20, 21, 22, 23, 24, 25, 26, 28, 29, 30, 31, 32, 33, 34, 35, 36, 37, 38, 39, 40, 41, 42, 43, 44, 45, 46, 47, 48, 49, 50, 51, 52, 53, 54, 55, 56, 57, 58] Try.f34 = some Try.k34 := by kernel_rfl
end
end Go.Proofs
