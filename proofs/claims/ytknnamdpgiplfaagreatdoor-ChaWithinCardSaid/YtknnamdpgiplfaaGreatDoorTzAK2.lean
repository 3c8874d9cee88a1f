/- What functions of the program are compiled to, and that they are. -/
import Derived.Test.YtknnamdpgiplfaaGreatDoorSh11
import Derived.Test.YtknnamdpgiplfaaGreatDoorProg
import Derived.KernelRfl
set_option linter.unusedVariables false
set_option linter.unusedSimpArgs false
set_option linter.unusedSectionVars false
namespace Go.Proofs
open Go.Sh
noncomputable section
set_option linter.unusedVariables false
def Tryz.k76 : KF := ⟨[(way 0)], (cSeq (cOps (oSet 2 (sV ((xC (.str [])))) fun v2 => oSet 3 (sV ((xC (.str [])))) fun v3 => oEnd))
 (cScope (cSeq (cOps (oLet (sV ((xW 0))) fun v6 => oSet 3 (sV ((xC v6))) fun v3 => oEnd))
 (cSeq (cOps (oSet 4 (sV ((xC (.int .i64 0)))) fun v4 => oEnd))
 (cSeq cSkip
 (cSeq (cBlock 0 (cSeq (cOps (oLet (sV ((xW 3))) fun v29 => oLet (sV (vSEq (xC v29) (xC (.str [])))) fun v30 => oLet (sG (xC v30) false (sV ((xW 4)))) fun v32 => oLet (sG (xC v30) false (sV (vGt .i64 (xC v32) (xC (.int .i64 4))))) fun v33 => oLet (sV (vPick (xC v30) (xC (.bool true)) (xC v33))) fun v34 => oSet 28 (sV ((xC v34))) fun v28 => oEnd))
 (cCond (xW 28) (cSeq (cOps (oLet (sV ((xW 0))) fun v35 => oSet 2 (sV ((xC (.str [])))) fun v2 => oSet 3 (sV ((xC v35))) fun v3 => oEnd))
 cRet)
 (cSeq (cOps (oLet (sV ((xW 3))) fun v37 => oLet (sV (vIdxS (xC v37) (xC (.int .i64 0)))) fun v38 => oLet (sV (vEq .u8 (xC v38) (xC (.int .u8 91)))) fun v39 => oSet 36 (sV ((xC v39))) fun v36 => oEnd))
 (cCond (xW 36) (cSeq (cOps (oLet (sV ((xW 4))) fun v40 => oLet (sV (vAdd .i64 (xC v40) (xC (.int .i64 1)))) fun v41 => oSet 4 (sV ((xC v41))) fun v4 => oEnd))
 (cSeq (cOps (oLet (sV ((xW 3))) fun v42 => oLet (sV (vSliceS (xC v42) [(xC (.int .i64 1))] [])) fun v43 => oSet 3 (sV ((xC v43))) fun v3 => oEnd))
 (cGoto 0)))
 (cSeq (cOps (oLet (sV ((xW 3))) fun v45 => oLet (sV (vIdxS (xC v45) (xC (.int .i64 0)))) fun v46 => oLet (sV (vEq .u8 (xC v46) (xC (.int .u8 73)))) fun v47 => oLet (sG (xC v47) false (sV ((xC v45)))) fun v49 => oLet (sG (xC v47) false (sV (vIdxS (xC v49) (xC (.int .i64 0))))) fun v50 => oLet (sG (xC v47) false (sV (vEq .u8 (xC v50) (xC (.int .u8 67))))) fun v51 => oLet (sV (vPick (xC v47) (xC (.bool true)) (xC v51))) fun v52 => oSet 44 (sV ((xC v52))) fun v44 => oEnd))
 (cCond (xW 44) (cOps (oLet (sV ((xW 3))) fun v53 => oLet (sV (vSliceS (xC v53) [(xC (.int .i64 1))] [])) fun v54 => oSet 3 (sV ((xC v54))) fun v3 => oEnd))
 (cSeq (cOps (oLet (sV ((xW 3))) fun v7 => oLet (sC 128 [(xC v7), (xC (.int .u8 59))]) fun v8 => oSet 5 (sV ((xC v8))) fun v5 => oEnd))
 (cSeq (cSeq (cOps (oLet (sV ((xW 5))) fun v9 => oLet (sV (vLt .i64 (xC v9) (xC (.int .i64 0)))) fun v10 => oLet (sG (xC v10) false (sV ((xW 3)))) fun v12 => oLet (sG (xC v10) false (sV (vIdxS (xC v12) (xC (.int .i64 0))))) fun v13 => oLet (sG (xC v10) false (sV (vNe .u8 (xC v13) (xC (.int .u8 76))))) fun v14 => oLet (sV (vPick (xC v10) (xC (.bool true)) (xC v14))) fun v15 => oLet (sG (xC v15) false (sV ((xW 3)))) fun v17 => oLet (sG (xC v15) false (sV ((xC v9)))) fun v18 => oLet (sG (xC v15) false (sV (vSliceS (xC v17) [(xC (.int .i64 1))] [(xC v18)]))) fun v19 => oLet (sG (xC v15) false (sC 39 [(xC v19)])) fun v20 => oLet (sG (xC v15) false (sV (vUn .not (xC v20)))) fun v21 => oSet 22 (sV (vPick (xC v15) (xC (.bool true)) (xC v21))) fun v22 => oEnd))
 (cCond (xW 22) (cSeq (cOps (oLet (sV ((xW 0))) fun v23 => oSet 2 (sV ((xC (.str [])))) fun v2 => oSet 3 (sV ((xC v23))) fun v3 => oEnd))
 cRet)
 cSkip))
 (cOps (oLet (sV ((xW 3))) fun v24 => oLet (sV ((xW 5))) fun v25 => oLet (sV (vAdd .i64 (xC v25) (xC (.int .i64 1)))) fun v26 => oLet (sV (vSliceS (xC v24) [(xC v26)] [])) fun v27 => oSet 3 (sV ((xC v27))) fun v3 => oEnd)))))))))))
 (cSeq (cOps (oLet (sV ((xW 0))) fun v55 => oLet (sV (vLenS (xC v55))) fun v57 => oLet (sV ((xW 3))) fun v58 => oLet (sV (vLenS (xC v58))) fun v59 => oLet (sV (vSub .i64 (xC v57) (xC v59))) fun v60 => oLet (sV (vSliceS (xC v55) [] [(xC v60)])) fun v61 => oSet 2 (sV ((xC v61))) fun v2 => oSet 3 (sV ((xC v58))) fun v3 => oEnd))
 cRet))))) [(0, (cSeq cSkip
 (cSeq (cBlock 0 (cSeq (cOps (oLet (sV ((xW 3))) fun v29 => oLet (sV (vSEq (xC v29) (xC (.str [])))) fun v30 => oLet (sG (xC v30) false (sV ((xW 4)))) fun v32 => oLet (sG (xC v30) false (sV (vGt .i64 (xC v32) (xC (.int .i64 4))))) fun v33 => oLet (sV (vPick (xC v30) (xC (.bool true)) (xC v33))) fun v34 => oSet 28 (sV ((xC v34))) fun v28 => oEnd))
 (cCond (xW 28) (cSeq (cOps (oLet (sV ((xW 0))) fun v35 => oSet 2 (sV ((xC (.str [])))) fun v2 => oSet 3 (sV ((xC v35))) fun v3 => oEnd))
 cRet)
 (cSeq (cOps (oLet (sV ((xW 3))) fun v37 => oLet (sV (vIdxS (xC v37) (xC (.int .i64 0)))) fun v38 => oLet (sV (vEq .u8 (xC v38) (xC (.int .u8 91)))) fun v39 => oSet 36 (sV ((xC v39))) fun v36 => oEnd))
 (cCond (xW 36) (cSeq (cOps (oLet (sV ((xW 4))) fun v40 => oLet (sV (vAdd .i64 (xC v40) (xC (.int .i64 1)))) fun v41 => oSet 4 (sV ((xC v41))) fun v4 => oEnd))
 (cSeq (cOps (oLet (sV ((xW 3))) fun v42 => oLet (sV (vSliceS (xC v42) [(xC (.int .i64 1))] [])) fun v43 => oSet 3 (sV ((xC v43))) fun v3 => oEnd))
 (cGoto 0)))
 (cSeq (cOps (oLet (sV ((xW 3))) fun v45 => oLet (sV (vIdxS (xC v45) (xC (.int .i64 0)))) fun v46 => oLet (sV (vEq .u8 (xC v46) (xC (.int .u8 73)))) fun v47 => oLet (sG (xC v47) false (sV ((xC v45)))) fun v49 => oLet (sG (xC v47) false (sV (vIdxS (xC v49) (xC (.int .i64 0))))) fun v50 => oLet (sG (xC v47) false (sV (vEq .u8 (xC v50) (xC (.int .u8 67))))) fun v51 => oLet (sV (vPick (xC v47) (xC (.bool true)) (xC v51))) fun v52 => oSet 44 (sV ((xC v52))) fun v44 => oEnd))
 (cCond (xW 44) (cOps (oLet (sV ((xW 3))) fun v53 => oLet (sV (vSliceS (xC v53) [(xC (.int .i64 1))] [])) fun v54 => oSet 3 (sV ((xC v54))) fun v3 => oEnd))
 (cSeq (cOps (oLet (sV ((xW 3))) fun v7 => oLet (sC 128 [(xC v7), (xC (.int .u8 59))]) fun v8 => oSet 5 (sV ((xC v8))) fun v5 => oEnd))
 (cSeq (cSeq (cOps (oLet (sV ((xW 5))) fun v9 => oLet (sV (vLt .i64 (xC v9) (xC (.int .i64 0)))) fun v10 => oLet (sG (xC v10) false (sV ((xW 3)))) fun v12 => oLet (sG (xC v10) false (sV (vIdxS (xC v12) (xC (.int .i64 0))))) fun v13 => oLet (sG (xC v10) false (sV (vNe .u8 (xC v13) (xC (.int .u8 76))))) fun v14 => oLet (sV (vPick (xC v10) (xC (.bool true)) (xC v14))) fun v15 => oLet (sG (xC v15) false (sV ((xW 3)))) fun v17 => oLet (sG (xC v15) false (sV ((xC v9)))) fun v18 => oLet (sG (xC v15) false (sV (vSliceS (xC v17) [(xC (.int .i64 1))] [(xC v18)]))) fun v19 => oLet (sG (xC v15) false (sC 39 [(xC v19)])) fun v20 => oLet (sG (xC v15) false (sV (vUn .not (xC v20)))) fun v21 => oSet 22 (sV (vPick (xC v15) (xC (.bool true)) (xC v21))) fun v22 => oEnd))
 (cCond (xW 22) (cSeq (cOps (oLet (sV ((xW 0))) fun v23 => oSet 2 (sV ((xC (.str [])))) fun v2 => oSet 3 (sV ((xC v23))) fun v3 => oEnd))
 cRet)
 cSkip))
 (cOps (oLet (sV ((xW 3))) fun v24 => oLet (sV ((xW 5))) fun v25 => oLet (sV (vAdd .i64 (xC v25) (xC (.int .i64 1)))) fun v26 => oLet (sV (vSliceS (xC v24) [(xC v26)] [])) fun v27 => oSet 3 (sV ((xC v27))) fun v3 => oEnd)))))))))))
 (cSeq (cOps (oLet (sV ((xW 0))) fun v55 => oLet (sV (vLenS (xC v55))) fun v57 => oLet (sV ((xW 3))) fun v58 => oLet (sV (vLenS (xC v58))) fun v59 => oLet (sV (vSub .i64 (xC v57) (xC v59))) fun v60 => oLet (sV (vSliceS (xC v55) [] [(xC v60)])) fun v61 => oSet 2 (sV ((xC v61))) fun v2 => oSet 3 (sV ((xC v58))) fun v3 => oEnd))
 cRet))))])), [.tmp (way 2), .tmp (way 3)]⟩
theorem Tryz.k76_c : compF Tryz.prog [6, 29, 30, 31, 32, 33, 34, 35, 37, 38, 39, 40, 41, 42, 43, 45, 46, 47, 48, 49, 50, 51, 52, 53, 54, 7, 8, 9, 10, 11, 12, 13, 14, 15, 16, 17, 18, 19, 20, 21, 23, 24, 25, 26, 27, 55, 56, 57, 58, 59, 60, 61, 62] Tryz.f76 = some Tryz.k76 := by kernel_rfl
def Tryz.k77 : KF := ⟨[(way 0)], (cSeq (cOps (oSet 1 (sN (aBox (xW 0))) fun v1 => oSet 2 (sV ((xC (.bool false)))) fun v2 => oEnd))
 (cSeq (cOps (oLet (sV (vAddr 1 (xW 1))) fun v7 => oLet (sL (lLoad none (xC v7))) fun v8 => oLet (sC 129 [(xC v8)]) fun v9 => oLet (sV (vExtract 0 (xC v9))) fun v10 => oLet (sV (vExtract 1 (xC v9))) fun v11 => oLet (sV (vExtract 2 (xC v9))) fun v12 => oSet 4 (sV ((xC v11))) fun v4 => oSet 5 (sV ((xC v12))) fun v5 => oEnd))
 (cSeq (cBlock 0 (cSeq (cOps (oLet (sV ((xW 5))) fun v14 => oLet (sV (vNe .i64 (xC v14) (xC (.int .i64 0)))) fun v15 => oLet (sG (xC v15) false (sV (vAddr 0 (xW 1)))) fun v17 => oLet (sG (xC v15) false (sL (lLoad none (xC v17)))) fun v18 => oLet (sG (xC v15) false (sC 130 [(xC v18)])) fun v19 => oLet (sG (xC v15) false (sV (vUn .not (xC v19)))) fun v20 => oLet (sV (vPick (xC v15) (xC (.bool true)) (xC v20))) fun v21 => oSet 13 (sV ((xC v21))) fun v13 => oEnd))
 (cCond (xW 13) (cSeq (cOps (oSet 2 (sV ((xC (.bool false)))) fun v2 => oEnd))
 cRet)
 (cSeq (cOps (oLet (sV (vAddr 0 (xW 1))) fun v23 => oLet (sL (lLoad none (xC v23))) fun v24 => oLet (sV (vSEq (xC v24) (xC (.str [60, 99, 108, 105, 110, 105, 116, 62])))) fun v25 => oSet 22 (sV ((xC v25))) fun v22 => oEnd))
 (cCond (xW 22) (cSeq (cOps (oLet (sV (vAddr 2 (xW 1))) fun v26 => oLet (sL (lLoad none (xC v26))) fun v27 => oLet (sG (xC v27) true (sV (vAddr 1 (xW 1)))) fun v29 => oLet (sG (xC v27) true (sL (lLoad none (xC v29)))) fun v30 => oLet (sG (xC v27) true (sV (vSEq (xC v30) (xC (.str [40, 41, 86]))))) fun v31 => oLet (sV (vPick (xC v27) (xC v31) (xC (.bool false)))) fun v32 => oSet 2 (sV ((xC v32))) fun v2 => oEnd))
 cRet)
 (cSeq (cOps (oLet (sV (vAddr 0 (xW 1))) fun v34 => oLet (sL (lLoad none (xC v34))) fun v35 => oLet (sV (vSEq (xC v35) (xC (.str [60, 105, 110, 105, 116, 62])))) fun v36 => oSet 33 (sV ((xC v36))) fun v33 => oEnd))
 (cCond (xW 33) (cSeq (cOps (oLet (sV (vAddr 2 (xW 1))) fun v37 => oLet (sL (lLoad none (xC v37))) fun v38 => oLet (sV (vUn .not (xC v38))) fun v39 => oLet (sG (xC v39) true (sV (vAddr 3 (xW 1)))) fun v41 => oLet (sG (xC v39) true (sL (lLoad none (xC v41)))) fun v42 => oLet (sG (xC v39) true (sV (vUn .not (xC v42)))) fun v43 => oLet (sV (vPick (xC v39) (xC v43) (xC (.bool false)))) fun v44 => oLet (sG (xC v44) true (sV ((xW 4)))) fun v46 => oLet (sG (xC v44) true (sV (vSEq (xC v46) (xC (.str [86]))))) fun v47 => oLet (sV (vPick (xC v44) (xC v47) (xC (.bool false)))) fun v48 => oSet 2 (sV ((xC v48))) fun v2 => oEnd))
 cRet)
 cSkip)))))))
 (cSeq (cOps (oSet 2 (sV ((xC (.bool true)))) fun v2 => oEnd))
 cRet)))), [.tmp (way 2)]⟩
theorem Tryz.k77_c : compF Tryz.prog [7, 8, 9, 6, 10, 11, 12, 3, 14, 15, 16, 17, 18, 19, 20, 21, 23, 24, 25, 26, 27, 28, 29, 30, 31, 32, 34, 35, 36, 37, 38, 39, 40, 41, 42, 43, 44, 45, 46, 47, 48] Tryz.f77 = some Tryz.k77 := by kernel_rfl
def Tryz.k78 : KF := ⟨[(way 0)], (cSeq (cOps (oSet 1 (sN (aBox (xW 0))) fun v1 => oSet 2 (sV ((xC (.bool false)))) fun v2 => oEnd))
 (cSeq (cOps (oLet (sV (vAddr 4 (xW 1))) fun v3 => oLet (sL (lLoad none (xC v3))) fun v4 => oLet (sC 131 [(xC v4), (xC (.int .i64 0)), (xC (.int .i64 20))]) fun v5 => oLet (sG (xC v5) true (sV (vAddr 5 (xW 1)))) fun v7 => oLet (sG (xC v5) true (sL (lLoad none (xC v7)))) fun v8 => oLet (sG (xC v5) true (sC 131 [(xC v8), (xC (.int .i64 0)), (xC (.int .i64 20))])) fun v9 => oLet (sV (vPick (xC v5) (xC v9) (xC (.bool false)))) fun v10 => oLet (sG (xC v10) true (sV (vAddr 6 (xW 1)))) fun v12 => oLet (sG (xC v10) true (sL (lLoad none (xC v12)))) fun v13 => oLet (sG (xC v10) true (sV (vLen (xC v13)))) fun v14 => oLet (sG (xC v10) true (sV (vLe .i64 (xC v14) (xC (.int .i64 200))))) fun v15 => oLet (sV (vPick (xC v10) (xC v15) (xC (.bool false)))) fun v16 => oLet (sG (xC v16) true (sV (vAddr 7 (xW 1)))) fun v18 => oLet (sG (xC v16) true (sL (lLoad none (xC v18)))) fun v19 => oLet (sG (xC v16) true (sV (vLen (xC v19)))) fun v20 => oLet (sG (xC v16) true (sV (vLe .i64 (xC v20) (xC (.int .i64 20))))) fun v21 => oLet (sV (vPick (xC v16) (xC v21) (xC (.bool false)))) fun v22 => oSet 2 (sV ((xC v22))) fun v2 => oEnd))
 cRet)), [.tmp (way 2)]⟩
theorem Tryz.k78_c : compF Tryz.prog [3, 4, 5, 6, 7, 8, 9, 10, 11, 12, 13, 14, 15, 16, 17, 18, 19, 20, 21, 22] Tryz.f78 = some Tryz.k78 := by kernel_rfl
def Tryz.k79 : KF := ⟨[(way 0)], (cSeq (cOps (oSet 1 (sN (aBox (xW 0))) fun v1 => oSet 2 (sV ((xC (.int .i64 0)))) fun v2 => oEnd))
 (cSeq (cOps (oLet (sV (vAddr 1 (xW 1))) fun v8 => oLet (sL (lLoad none (xC v8))) fun v9 => oLet (sC 129 [(xC v9)]) fun v10 => oLet (sV (vExtract 0 (xC v10))) fun v11 => oLet (sV (vExtract 1 (xC v10))) fun v12 => oLet (sV (vExtract 2 (xC v10))) fun v13 => oSet 3 (sV ((xC v11))) fun v3 => oEnd))
 (cSeq (cOps (oLet (sV ((xW 3))) fun v14 => oLet (sC 132 [(xC v14)]) fun v15 => oSet 6 (sV ((xC v15))) fun v6 => oEnd))
 (cSeq (cSeq (cOps (oLet (sV (vAddr 2 (xW 1))) fun v16 => oLet (sL (lLoad none (xC v16))) fun v17 => oSet 18 (sV (vUn .not (xC v17))) fun v18 => oEnd))
 (cCond (xW 18) (cOps (oLet (sV ((xW 6))) fun v19 => oLet (sV (vAdd .i64 (xC v19) (xC (.int .i64 1)))) fun v20 => oSet 6 (sV ((xC v20))) fun v6 => oEnd))
 cSkip))
 (cSeq (cOps (oLet (sV ((xW 6))) fun v21 => oSet 2 (sV ((xC v21))) fun v2 => oEnd))
 cRet))))), [.tmp (way 2)]⟩
theorem Tryz.k79_c : compF Tryz.prog [8, 9, 10, 7, 11, 12, 13, 4, 5, 14, 15, 16, 17, 19, 20, 21] Tryz.f79 = some Tryz.k79 := by kernel_rfl
def Tryz.k80 : KF := ⟨[(way 0), (way 1), (way 2)], (cSeq (cOps (oSet 3 (sN (aBox (xW 0))) fun v3 => oSet 6 (sV ((xC (.int .i64 0)))) fun v6 => oEnd))
 (cSeq (cOps (oLet (sV (vAddr 0 (xW 3))) fun v11 => oLet (sL (lLoad none (xC v11))) fun v12 => oLet (sC 133 [(xC v12)]) fun v13 => oLet (sV (vExtract 0 (xC v13))) fun v14 => oLet (sV (vExtract 1 (xC v13))) fun v15 => oSet 7 (sN (aAlloc [.bool false, .bool false, .bool false, .bool false, .bool false])) fun v7 => oDo (sM (tStore 5 (xC v7) (xC v14))) (oSet 8 (sV ((xC v15))) fun v8 => oEnd)))
 (cSeq (cOps (oLet (sV (vAddr 0 (xW 3))) fun v16 => oLet (sL (lLoad none (xC v16))) fun v17 => oLet (sV (vEq .i64 (xC v17) (xC (.int .i64 5)))) fun v18 => oLet (sG (xC v18) false (sV (vAddr 0 (xW 3)))) fun v20 => oLet (sG (xC v18) false (sL (lLoad none (xC v20)))) fun v21 => oLet (sG (xC v18) false (sV (vEq .i64 (xC v21) (xC (.int .i64 6))))) fun v22 => oLet (sV (vPick (xC v18) (xC (.bool true)) (xC v22))) fun v23 => oSet 9 (sV ((xC v23))) fun v9 => oEnd))
 (cSeq (cBlock 0 (cSeq (cOps (oLet (sV ((xW 8))) fun v25 => oLet (sV (vUn .not (xC v25))) fun v26 => oSet 24 (sV ((xC v26))) fun v24 => oEnd))
 (cCond (xW 24) (cSeq (cOps (oSet 6 (sV ((xC (.int .i64 3)))) fun v6 => oEnd))
 cRet)
 (cSeq (cOps (oLet (sV (vAddr 0 (xW 7))) fun v28 => oLet (sL (lLoad none (xC v28))) fun v29 => oLet (sG (xC v29) true (sV (vAddr 1 (xW 3)))) fun v31 => oLet (sG (xC v29) true (sL (lLoad none (xC v31)))) fun v32 => oLet (sG (xC v29) true (sC 134 [(xC v32), (xC (.int .i64 (-2147483648))), (xC (.int .i64 2147483647))])) fun v33 => oLet (sG (xC v29) true (sV (vUn .not (xC v33)))) fun v34 => oLet (sV (vPick (xC v29) (xC v34) (xC (.bool false)))) fun v35 => oLet (sG (xC v35) false (sV (vAddr 1 (xW 7)))) fun v37 => oLet (sG (xC v35) false (sL (lLoad none (xC v37)))) fun v38 => oLet (sG (xC v35) false (sV ((xC v38)))) fun v39 => oLet (sG (xC v39) true (sV (vAddr 2 (xW 3)))) fun v40 => oLet (sG (xC v39) true (sL (lLoad none (xC v40)))) fun v41 => oLet (sG (xC v39) true (sC 134 [(xC v41), (xC (.int .i64 (-2147483648))), (xC (.int .i64 2147483647))])) fun v42 => oLet (sG (xC v39) true (sV (vUn .not (xC v42)))) fun v43 => oLet (sG (xC v35) false (sV (vPick (xC v39) (xC v43) (xC (.bool false))))) fun v44 => oLet (sV (vPick (xC v35) (xC (.bool true)) (xC v44))) fun v45 => oSet 27 (sV ((xC v45))) fun v27 => oEnd))
 (cCond (xW 27) (cSeq (cOps (oSet 6 (sV ((xC (.int .i64 5)))) fun v6 => oEnd))
 cRet)
 (cSeq (cOps (oLet (sL (lLoad (some 6) (xW 3))) fun v47 => oLet (sC 135 [(xC v47)]) fun v48 => oLet (sV (vUn .not (xC v48))) fun v49 => oSet 46 (sV ((xC v49))) fun v46 => oEnd))
 (cCond (xW 46) (cSeq (cOps (oSet 6 (sV ((xC (.int .i64 6)))) fun v6 => oEnd))
 cRet)
 (cSeq (cOps (oLet (sV ((xW 9))) fun v51 => oLet (sG (xC v51) true (sV (vAddr 1 (xW 3)))) fun v53 => oLet (sG (xC v51) true (sL (lLoad none (xC v53)))) fun v54 => oLet (sG (xC v51) true (sV (vLt .i64 (xC v54) (xC (.int .i64 0))))) fun v55 => oLet (sG (xC v51) true (sV ((xC v55)))) fun v56 => oLet (sG (xC v56) false (sV (vAddr 1 (xW 3)))) fun v57 => oLet (sG (xC v56) false (sL (lLoad none (xC v57)))) fun v58 => oLet (sG (xC v56) false (sV ((xW 2)))) fun v59 => oLet (sG (xC v56) false (sV (vGe .i64 (xC v58) (xC v59)))) fun v60 => oLet (sG (xC v51) true (sV (vPick (xC v56) (xC (.bool true)) (xC v60)))) fun v61 => oLet (sV (vPick (xC v51) (xC v61) (xC (.bool false)))) fun v62 => oLet (sG (xC v62) false (sV (vAddr 0 (xW 3)))) fun v64 => oLet (sG (xC v62) false (sL (lLoad none (xC v64)))) fun v65 => oLet (sG (xC v62) false (sC 136 [(xC v65)])) fun v66 => oLet (sG (xC v62) false (sV ((xC v66)))) fun v67 => oLet (sG (xC v67) true (sV (vAddr 1 (xW 3)))) fun v68 => oLet (sG (xC v67) true (sL (lLoad none (xC v68)))) fun v69 => oLet (sG (xC v67) true (sV (vLt .i64 (xC v69) (xC (.int .i64 0))))) fun v70 => oLet (sG (xC v67) true (sV ((xC v70)))) fun v71 => oLet (sG (xC v71) false (sV (vAddr 1 (xW 3)))) fun v72 => oLet (sG (xC v71) false (sL (lLoad none (xC v72)))) fun v73 => oLet (sG (xC v71) false (sV ((xW 1)))) fun v74 => oLet (sG (xC v71) false (sV (vGe .i64 (xC v73) (xC v74)))) fun v75 => oLet (sG (xC v67) true (sV (vPick (xC v71) (xC (.bool true)) (xC v75)))) fun v76 => oLet (sG (xC v62) false (sV (vPick (xC v67) (xC v76) (xC (.bool false))))) fun v77 => oLet (sV (vPick (xC v62) (xC (.bool true)) (xC v77))) fun v78 => oSet 50 (sV ((xC v78))) fun v50 => oEnd))
 (cCond (xW 50) (cSeq (cOps (oSet 6 (sV ((xC (.int .i64 4)))) fun v6 => oEnd))
 cRet)
 cSkip)))))))))
 (cSeq (cOps (oSet 6 (sV ((xC (.int .i64 0)))) fun v6 => oEnd))
 cRet))))), [.tmp (way 6)]⟩
theorem Tryz.k80_c : compF Tryz.prog [11, 12, 13, 10, 14, 15, 16, 17, 18, 19, 20, 21, 22, 23, 25, 26, 28, 29, 30, 31, 32, 33, 34, 35, 36, 37, 38, 39, 40, 41, 42, 43, 44, 45, 47, 48, 49, 51, 52, 53, 54, 55, 56, 57, 58, 59, 60, 61, 62, 63, 64, 65, 66, 67, 68, 69, 70, 71, 72, 73, 74, 75, 76, 77, 78] Tryz.f80 = some Tryz.k80 := by kernel_rfl
def Tryz.k82 : KF := ⟨[(way 0)], (cSeq (cOps (oSet 1 (sN (aBox (xW 0))) fun v1 => oSet 2 (sV ((xC (.nilptr)))) fun v2 => oEnd))
 (cSeq (cOps (oLet (sN (aNewMap)) fun v12 => oLet (sV (vFill [.nilslice, .nilmap] [(1, 1)] [(xC v12)])) fun v13 => oLet (sN (aBox (xC v13))) fun v14 => oSet 3 (sV ((xC v14))) fun v3 => oEnd))
 (cSeq (cOps (oLet (sV ((xW 3))) fun v15 => oLet (sV (vAddr 0 (xW 1))) fun v16 => oLet (sL (lLoad none (xC v16))) fun v17 => oLet (sV (vAddr 1 (xW 1))) fun v18 => oLet (sL (lLoad none (xC v18))) fun v19 => oLet (sN (aRow 2 1 [1, 1] [(xC v17), (xC v19)])) fun v20 => oLet (sC 137 [(xC v15), (xC v20)]) fun v21 => oEnd))
 (cSeq (cOps (oLet (sV ((xW 3))) fun v22 => oLet (sV (vAddr 4 (xW 1))) fun v23 => oLet (sL (lLoad none (xC v23))) fun v24 => oLet (sC 137 [(xC v22), (xC v24)]) fun v25 => oEnd))
 (cSeq (cSeq (cOps (oLet (sV (vAddr 5 (xW 1))) fun v26 => oSet 27 (sL (lLoad none (xC v26))) fun v27 => oSet 28 (sV (vLen (xC v27))) fun v28 => oSet 29 (sV ((xC (.int .i64 0)))) fun v29 => oEnd))
 (cBlock 0 (cLoop (cSeq (cOps (oSet 30 (sV (vLt .i64 (xW 29) (xW 28))) fun v30 => oEnd))
 (cSeq (cCond (xW 30) cSkip
 (cExit 0))
 (cSeq (cBlock 1 (cSeq (cOps (oLet (sV (vIdx 3 (xW 27) (xW 29))) fun v31 => oLet (sL (lLoad (some 3) (xC v31))) fun v32 => oSet 5 (sN (aAlloc [.str [], .str [], .bool false])) fun v5 => oDo (sM (tStore 3 (xC v5) (xC v32))) (oEnd)))
 (cOps (oLet (sV ((xW 3))) fun v33 => oLet (sV (vAddr 0 (xW 5))) fun v34 => oLet (sL (lLoad none (xC v34))) fun v35 => oLet (sV (vAddr 1 (xW 5))) fun v36 => oLet (sL (lLoad none (xC v36))) fun v37 => oLet (sN (aRow 2 1 [1, 1] [(xC v35), (xC v37)])) fun v38 => oLet (sC 137 [(xC v33), (xC v38)]) fun v39 => oEnd))))
 (cOps (oLet (sV (vAdd .i64 (xW 29) (xC (.int .i64 1)))) fun v40 => oSet 29 (sV ((xC v40))) fun v29 => oEnd))))))))
 (cSeq (cSeq (cOps (oLet (sV (vAddr 6 (xW 1))) fun v41 => oSet 42 (sL (lLoad none (xC v41))) fun v42 => oSet 43 (sV (vLen (xC v42))) fun v43 => oSet 44 (sV ((xC (.int .i64 0)))) fun v44 => oEnd))
 (cBlock 2 (cLoop (cSeq (cOps (oSet 45 (sV (vLt .i64 (xW 44) (xW 43))) fun v45 => oEnd))
 (cSeq (cCond (xW 45) cSkip
 (cExit 2))
 (cSeq (cBlock 3 (cSeq (cOps (oLet (sV (vIdx 8 (xW 42) (xW 44))) fun v46 => oLet (sL (lLoad (some 8) (xC v46))) fun v47 => oSet 7 (sN (aAlloc [.str [], .str [], .bool false, .bool false, .int .i64 0, .int .i64 0, .nilslice, .nilslice])) fun v7 => oDo (sM (tStore 8 (xC v7) (xC v47))) (oEnd)))
 (cSeq (cOps (oLet (sV ((xW 3))) fun v48 => oLet (sV (vAddr 0 (xW 7))) fun v49 => oLet (sL (lLoad none (xC v49))) fun v50 => oLet (sV (vAddr 1 (xW 7))) fun v51 => oLet (sL (lLoad none (xC v51))) fun v52 => oLet (sN (aRow 2 1 [1, 1] [(xC v50), (xC v52)])) fun v53 => oLet (sC 137 [(xC v48), (xC v53)]) fun v54 => oEnd))
 (cSeq (cSeq (cOps (oLet (sV (vAddr 6 (xW 7))) fun v55 => oSet 56 (sL (lLoad none (xC v55))) fun v56 => oSet 57 (sV (vLen (xC v56))) fun v57 => oSet 58 (sV ((xC (.int .i64 0)))) fun v58 => oEnd))
 (cBlock 4 (cLoop (cSeq (cOps (oSet 59 (sV (vLt .i64 (xW 58) (xW 57))) fun v59 => oEnd))
 (cSeq (cCond (xW 59) cSkip
 (cExit 4))
 (cSeq (cBlock 5 (cSeq (cOps (oLet (sV (vIdx 6 (xW 56) (xW 58))) fun v60 => oLet (sL (lLoad (some 6) (xC v60))) fun v61 => oSet 9 (sN (aAlloc [.int .i64 0, .int .i64 0, .int .i64 0, .str [], .str [], .str []])) fun v9 => oDo (sM (tStore 6 (xC v9) (xC v61))) (oEnd)))
 (cOps (oLet (sV ((xW 3))) fun v62 => oLet (sL (lLoad (some 6) (xW 9))) fun v63 => oLet (sC 138 [(xC v63)]) fun v64 => oLet (sC 137 [(xC v62), (xC v64)]) fun v65 => oEnd))))
 (cOps (oLet (sV (vAdd .i64 (xW 58) (xC (.int .i64 1)))) fun v66 => oSet 58 (sV ((xC v66))) fun v58 => oEnd))))))))
 (cSeq (cOps (oLet (sV (vAddr 7 (xW 7))) fun v67 => oSet 68 (sL (lLoad none (xC v67))) fun v68 => oSet 69 (sV (vLen (xC v68))) fun v69 => oSet 70 (sV ((xC (.int .i64 0)))) fun v70 => oEnd))
 (cBlock 6 (cLoop (cSeq (cOps (oSet 71 (sV (vLt .i64 (xW 70) (xW 69))) fun v71 => oEnd))
 (cSeq (cCond (xW 71) cSkip
 (cExit 6))
 (cSeq (cBlock 7 (cSeq (cOps (oLet (sV (vIdx 4 (xW 68) (xW 70))) fun v72 => oLet (sL (lLoad (some 4) (xC v72))) fun v73 => oSet 11 (sN (aAlloc [.int .i64 0, .int .i64 0, .int .i64 0, .str []])) fun v11 => oDo (sM (tStore 4 (xC v11) (xC v73))) (oEnd)))
 (cOps (oLet (sV ((xW 3))) fun v74 => oLet (sV (vAddr 3 (xW 11))) fun v75 => oLet (sL (lLoad none (xC v75))) fun v76 => oLet (sN (aRow 1 1 [1] [(xC v76)])) fun v77 => oLet (sC 137 [(xC v74), (xC v77)]) fun v78 => oEnd))))
 (cOps (oLet (sV (vAdd .i64 (xW 70) (xC (.int .i64 1)))) fun v79 => oSet 70 (sV ((xC v79))) fun v70 => oEnd))))))))))))
 (cOps (oLet (sV (vAdd .i64 (xW 44) (xC (.int .i64 1)))) fun v80 => oSet 44 (sV ((xC v80))) fun v44 => oEnd))))))))
 (cSeq (cOps (oLet (sV ((xW 3))) fun v81 => oSet 2 (sV ((xC v81))) fun v2 => oEnd))
 cRet))))))), [.tmp (way 2)]⟩
theorem Tryz.k82_c : compF Tryz.prog [12, 13, 14, 15, 16, 17, 18, 19, 20, 21, 22, 23, 24, 25, 26, 31, 32, 33, 34, 35, 36, 37, 38, 39, 40, 41, 46, 47, 48, 49, 50, 51, 52, 53, 54, 55, 60, 61, 62, 63, 64, 65, 66, 67, 72, 73, 74, 75, 76, 77, 78, 79, 80, 81] Tryz.f82 = some Tryz.k82 := by kernel_rfl
def Tryz.k83 : KF := ⟨[(way 0), (way 1)], (cSeq (cOps (oSet 4 (sV ((xC (.int .i64 0)))) fun v4 => oEnd))
 (cSeq (cSeq (cOps (oLet (sV ((xW 0))) fun v6 => oSet 7 (sV (vLen (xC v6))) fun v7 => oSet 8 (sV ((xC (.int .i64 0)))) fun v8 => oEnd))
 (cBlock 0 (cLoop (cSeq (cOps (oSet 9 (sV (vLt .i64 (xW 8) (xW 7))) fun v9 => oEnd))
 (cSeq (cCond (xW 9) cSkip
 (cExit 0))
 (cSeq (cBlock 1 (cSeq (cOps (oLet (sV ((xW 8))) fun v10 => oSet 5 (sV ((xC v10))) fun v5 => oEnd))
 (cSeq (cOps (oLet (sV ((xW 1))) fun v11 => oLet (sV ((xW 0))) fun v12 => oLet (sV ((xW 5))) fun v13 => oLet (sV (vIdx 7 (xC v12) (xC v13))) fun v14 => oLet (sL (lLoad (some 7) (xC v14))) fun v15 => oSet 16 (sX (xC v11) [(xC v15)]) fun v16 => oEnd))
 (cCond (xW 16) (cSeq (cOps (oLet (sV ((xW 5))) fun v17 => oSet 4 (sV ((xC v17))) fun v4 => oEnd))
 cRet)
 cSkip))))
 (cOps (oLet (sV (vAdd .i64 (xW 8) (xC (.int .i64 1)))) fun v18 => oSet 8 (sV ((xC v18))) fun v8 => oEnd))))))))
 (cSeq (cOps (oSet 4 (sV ((xC (.int .i64 (-1))))) fun v4 => oEnd))
 cRet))), [.tmp (way 4)]⟩
theorem Tryz.k83_c : compF Tryz.prog [6, 10, 11, 12, 13, 14, 15, 17, 18] Tryz.f83 = some Tryz.k83 := by kernel_rfl
def Tryz.k84 : KF := ⟨[(way 0)], (cSeq (cOps (oSet 2 (sV ((xC (.nilslice)))) fun v2 => oEnd))
 (cSeq (cSeq (cOps (oLet (sV ((xW 0))) fun v3 => oSet 4 (sL (lEq .slice (xC v3) (xC (.nilslice)))) fun v4 => oEnd))
 (cCond (xW 4) (cSeq (cOps (oSet 2 (sV ((xC (.nilslice)))) fun v2 => oEnd))
 cRet)
 cSkip))
 (cSeq (cOps (oLet (sN (aRow 0 6 [] [])) fun v5 => oLet (sV ((xW 0))) fun v6 => oLet (sM (tAppend 72 6 (xC v5) (xC v6))) fun v7 => oSet 2 (sV ((xC v7))) fun v2 => oEnd))
 cRet))), [.tmp (way 2)]⟩
theorem Tryz.k84_c : compF Tryz.prog [3, 5, 6, 7] Tryz.f84 = some Tryz.k84 := by kernel_rfl
def Tryz.k85 : KF := ⟨[(way 0)], (cSeq (cOps (oSet 2 (sV ((xC (.nilslice)))) fun v2 => oEnd))
 (cSeq (cSeq (cOps (oLet (sV ((xW 0))) fun v3 => oSet 4 (sL (lEq .slice (xC v3) (xC (.nilslice)))) fun v4 => oEnd))
 (cCond (xW 4) (cSeq (cOps (oSet 2 (sV ((xC (.nilslice)))) fun v2 => oEnd))
 cRet)
 cSkip))
 (cSeq (cOps (oLet (sN (aRow 0 4 [] [])) fun v5 => oLet (sV ((xW 0))) fun v6 => oLet (sM (tAppend 40 4 (xC v5) (xC v6))) fun v7 => oSet 2 (sV ((xC v7))) fun v2 => oEnd))
 cRet))), [.tmp (way 2)]⟩
theorem Tryz.k85_c : compF Tryz.prog [3, 5, 6, 7] Tryz.f85 = some Tryz.k85 := by kernel_rfl
def Tryz.k86 : KF := ⟨[(way 0), (way 1), (way 2), (way 3)], (cSeq (cOps (oLet (sV ((xW 1))) fun v10 => oLet (sV (vAdd .i64 (xC v10) (xC (.int .i64 1)))) fun v11 => oSet 8 (sV ((xC v11))) fun v8 => oEnd))
 (cBlock 0 (cLoop (cSeq (cSeq (cOps (oLet (sV ((xW 8))) fun v12 => oLet (sV ((xW 2))) fun v13 => oSet 14 (sV (vLt .i64 (xC v12) (xC v13))) fun v14 => oEnd))
 (cCond (xW 14) cSkip
 (cExit 0)))
 (cSeq (cBlock 1 (cSeq (cOps (oLet (sV ((xW 8))) fun v17 => oSet 9 (sV ((xC v17))) fun v9 => oEnd))
 (cBlock 2 (cLoop (cSeq (cSeq (cOps (oLet (sV ((xW 9))) fun v18 => oLet (sV ((xW 1))) fun v19 => oLet (sV (vGt .i64 (xC v18) (xC v19))) fun v20 => oLet (sG (xC v20) true (sV ((xW 3)))) fun v22 => oLet (sG (xC v20) true (sV ((xW 0)))) fun v23 => oLet (sG (xC v20) true (sV ((xC v18)))) fun v24 => oLet (sG (xC v20) true (sV (vIdx 7 (xC v23) (xC v24)))) fun v25 => oLet (sG (xC v20) true (sL (lLoad (some 7) (xC v25)))) fun v26 => oLet (sG (xC v20) true (sV ((xW 0)))) fun v27 => oLet (sG (xC v20) true (sV ((xC v18)))) fun v28 => oLet (sG (xC v20) true (sV (vSub .i64 (xC v28) (xC (.int .i64 1))))) fun v29 => oLet (sG (xC v20) true (sV (vIdx 7 (xC v27) (xC v29)))) fun v30 => oLet (sG (xC v20) true (sL (lLoad (some 7) (xC v30)))) fun v31 => oLet (sG (xC v20) true (sX (xC v22) [(xC v26), (xC v31)])) fun v32 => oLet (sG (xC v20) true (sV (vLt .i64 (xC v32) (xC (.int .i64 0))))) fun v33 => oSet 34 (sV (vPick (xC v20) (xC v33) (xC (.bool false)))) fun v34 => oEnd))
 (cCond (xW 34) cSkip
 (cExit 2)))
 (cSeq (cBlock 3 (cOps (oLet (sV ((xW 0))) fun v37 => oLet (sV ((xW 9))) fun v38 => oLet (sV (vSub .i64 (xC v38) (xC (.int .i64 1)))) fun v41 => oLet (sV (vSub .i64 (xC v38) (xC (.int .i64 1)))) fun v44 => oLet (sV (vIdx 7 (xC v37) (xC v44))) fun v45 => oLet (sL (lLoad (some 7) (xC v45))) fun v46 => oLet (sV (vIdx 7 (xC v37) (xC v38))) fun v49 => oLet (sL (lLoad (some 7) (xC v49))) fun v50 => oLet (sV (vIdx 7 (xC v37) (xC v38))) fun v51 => oDo (sM (tStore 7 (xC v51) (xC v46))) (oLet (sV (vIdx 7 (xC v37) (xC v41))) fun v52 => oDo (sM (tStore 7 (xC v52) (xC v50))) (oEnd)))))
 (cOps (oLet (sV ((xW 9))) fun v35 => oLet (sV (vSub .i64 (xC v35) (xC (.int .i64 1)))) fun v36 => oSet 9 (sV ((xC v36))) fun v9 => oEnd))))))))
 (cOps (oLet (sV ((xW 8))) fun v15 => oLet (sV (vAdd .i64 (xC v15) (xC (.int .i64 1)))) fun v16 => oSet 8 (sV ((xC v16))) fun v8 => oEnd))))))), []⟩
theorem Tryz.k86_c : compF Tryz.prog [10, 11, 12, 13, 17, 18, 19, 20, 21, 22, 23, 24, 25, 26, 27, 28, 29, 30, 31, 32, 33, 37, 38, 39, 40, 41, 42, 43, 44, 45, 46, 47, 48, 49, 50, 51, 52, 35, 36, 15, 16] Tryz.f86 = some Tryz.k86 := by kernel_rfl
def Tryz.k89 : KF := ⟨[(way 0), (way 1), (way 2), (way 3)], (cSeq (cOps (oSet 8 (sV ((xC (.int .i64 0)))) fun v8 => oSet 9 (sV ((xC (.int .i64 0)))) fun v9 => oEnd))
 (cSeq (cOps (oLet (sV ((xW 2))) fun v15 => oLet (sV ((xW 1))) fun v16 => oLet (sV (vSub .i64 (xC v15) (xC v16))) fun v17 => oSet 10 (sV ((xC v17))) fun v10 => oEnd))
 (cSeq (cOps (oSet 11 (sN (aAlloc [.int .i64 0])) fun v11 => oEnd))
 (cSeq (cOps (oLet (sV ((xW 1))) fun v18 => oLet (sV ((xW 10))) fun v19 => oLet (sV (vAr .quo .i64 (xC v19) (xC (.int .i64 4)))) fun v20 => oLet (sV (vMul .i64 (xC v20) (xC (.int .i64 1)))) fun v21 => oLet (sV (vAdd .i64 (xC v18) (xC v21))) fun v22 => oSet 12 (sV ((xC v22))) fun v12 => oEnd))
 (cSeq (cOps (oLet (sV ((xW 1))) fun v23 => oLet (sV ((xW 10))) fun v24 => oLet (sV (vAr .quo .i64 (xC v24) (xC (.int .i64 4)))) fun v25 => oLet (sV (vMul .i64 (xC v25) (xC (.int .i64 2)))) fun v26 => oLet (sV (vAdd .i64 (xC v23) (xC v26))) fun v27 => oSet 13 (sV ((xC v27))) fun v13 => oEnd))
 (cSeq (cOps (oLet (sV ((xW 1))) fun v28 => oLet (sV ((xW 10))) fun v29 => oLet (sV (vAr .quo .i64 (xC v29) (xC (.int .i64 4)))) fun v30 => oLet (sV (vMul .i64 (xC v30) (xC (.int .i64 3)))) fun v31 => oLet (sV (vAdd .i64 (xC v28) (xC v31))) fun v32 => oSet 14 (sV ((xC v32))) fun v14 => oEnd))
 (cSeq (cSeq (cOps (oLet (sV ((xW 10))) fun v33 => oSet 34 (sV (vGe .i64 (xC v33) (xC (.int .i64 8)))) fun v34 => oEnd))
 (cCond (xW 34) (cSeq (cSeq (cOps (oLet (sV ((xW 10))) fun v35 => oSet 36 (sV (vGe .i64 (xC v35) (xC (.int .i64 50)))) fun v36 => oEnd))
 (cCond (xW 36) (cSeq (cOps (oLet (sV ((xW 0))) fun v37 => oLet (sV ((xW 12))) fun v38 => oLet (sV ((xW 3))) fun v39 => oLet (sC 142 [(xC v37), (xC v38), (xW 11), (xC v39)]) fun v40 => oSet 12 (sV ((xC v40))) fun v12 => oEnd))
 (cSeq (cOps (oLet (sV ((xW 0))) fun v41 => oLet (sV ((xW 13))) fun v42 => oLet (sV ((xW 3))) fun v43 => oLet (sC 142 [(xC v41), (xC v42), (xW 11), (xC v43)]) fun v44 => oSet 13 (sV ((xC v44))) fun v13 => oEnd))
 (cOps (oLet (sV ((xW 0))) fun v45 => oLet (sV ((xW 14))) fun v46 => oLet (sV ((xW 3))) fun v47 => oLet (sC 142 [(xC v45), (xC v46), (xW 11), (xC v47)]) fun v48 => oSet 14 (sV ((xC v48))) fun v14 => oEnd))))
 cSkip))
 (cOps (oLet (sV ((xW 0))) fun v49 => oLet (sV ((xW 12))) fun v50 => oLet (sV ((xW 13))) fun v51 => oLet (sV ((xW 14))) fun v52 => oLet (sV ((xW 3))) fun v53 => oLet (sC 143 [(xC v49), (xC v50), (xC v51), (xC v52), (xW 11), (xC v53)]) fun v54 => oSet 13 (sV ((xC v54))) fun v13 => oEnd)))
 cSkip))
 (cSeq (cOps (oSet 55 (sL (lLoad none (xW 11))) fun v55 => oEnd))
 (cBlock 0 (cSeq (cOps (oLet (sV (vEq .i64 (xW 55) (xC (.int .i64 0)))) fun v58 => oSet 57 (sV ((xC v58))) fun v57 => oEnd))
 (cCond (xW 57) (cSeq (cOps (oLet (sV ((xW 13))) fun v59 => oSet 8 (sV ((xC v59))) fun v8 => oSet 9 (sV ((xC (.int .i64 1)))) fun v9 => oEnd))
 cRet)
 (cSeq (cOps (oLet (sV (vEq .i64 (xW 55) (xC (.int .i64 12)))) fun v61 => oSet 60 (sV ((xC v61))) fun v60 => oEnd))
 (cCond (xW 60) (cSeq (cOps (oLet (sV ((xW 13))) fun v62 => oSet 8 (sV ((xC v62))) fun v8 => oSet 9 (sV ((xC (.int .i64 2)))) fun v9 => oEnd))
 cRet)
 (cSeq (cOps (oLet (sV ((xW 13))) fun v56 => oSet 8 (sV ((xC v56))) fun v8 => oSet 9 (sV ((xC (.int .i64 0)))) fun v9 => oEnd))
 cRet)))))))))))))), [.tmp (way 8), .tmp (way 9)]⟩
theorem Tryz.k89_c : compF Tryz.prog [15, 16, 17, 18, 19, 20, 21, 22, 23, 24, 25, 26, 27, 28, 29, 30, 31, 32, 33, 35, 37, 38, 39, 40, 41, 42, 43, 44, 45, 46, 47, 48, 49, 50, 51, 52, 53, 54, 58, 59, 61, 62, 56] Tryz.f89 = some Tryz.k89 := by kernel_rfl
def Tryz.k93 : KF := ⟨[(way 0), (way 1), (way 2), (way 3), (way 4)], (cSeq (cOps (oSet 10 (sV ((xC (.int .i64 0)))) fun v10 => oSet 11 (sV ((xC (.bool false)))) fun v11 => oEnd))
 (cSeq (cOps (oLet (sV ((xW 0))) fun v14 => oLet (sV ((xW 1))) fun v15 => oLet (sV ((xW 3))) fun v17 => oLet (sV (vIdx 7 (xC v14) (xC v17))) fun v20 => oLet (sL (lLoad (some 7) (xC v20))) fun v21 => oLet (sV (vIdx 7 (xC v14) (xC v15))) fun v24 => oLet (sL (lLoad (some 7) (xC v24))) fun v25 => oLet (sV (vIdx 7 (xC v14) (xC v15))) fun v26 => oDo (sM (tStore 7 (xC v26) (xC v21))) (oLet (sV (vIdx 7 (xC v14) (xC v17))) fun v27 => oDo (sM (tStore 7 (xC v27) (xC v25))) (oEnd))))
 (cSeq (cOps (oLet (sV ((xW 1))) fun v28 => oLet (sV (vAdd .i64 (xC v28) (xC (.int .i64 1)))) fun v29 => oLet (sV ((xW 2))) fun v30 => oLet (sV (vSub .i64 (xC v30) (xC (.int .i64 1)))) fun v31 => oSet 12 (sV ((xC v29))) fun v12 => oSet 13 (sV ((xC v31))) fun v13 => oEnd))
 (cSeq (cBlock 0 (cLoop (cSeq (cSeq (cOps (oLet (sV ((xW 12))) fun v32 => oLet (sV ((xW 13))) fun v33 => oLet (sV (vLe .i64 (xC v32) (xC v33))) fun v34 => oLet (sG (xC v34) true (sV ((xW 4)))) fun v36 => oLet (sG (xC v34) true (sV ((xW 0)))) fun v37 => oLet (sG (xC v34) true (sV ((xC v32)))) fun v38 => oLet (sG (xC v34) true (sV (vIdx 7 (xC v37) (xC v38)))) fun v39 => oLet (sG (xC v34) true (sL (lLoad (some 7) (xC v39)))) fun v40 => oLet (sG (xC v34) true (sV ((xW 0)))) fun v41 => oLet (sG (xC v34) true (sV ((xW 1)))) fun v42 => oLet (sG (xC v34) true (sV (vIdx 7 (xC v41) (xC v42)))) fun v43 => oLet (sG (xC v34) true (sL (lLoad (some 7) (xC v43)))) fun v44 => oLet (sG (xC v34) true (sX (xC v36) [(xC v40), (xC v44)])) fun v45 => oLet (sG (xC v34) true (sV (vLt .i64 (xC v45) (xC (.int .i64 0))))) fun v46 => oSet 47 (sV (vPick (xC v34) (xC v46) (xC (.bool false)))) fun v47 => oEnd))
 (cCond (xW 47) cSkip
 (cExit 0)))
 (cBlock 1 (cOps (oLet (sV ((xW 12))) fun v48 => oLet (sV (vAdd .i64 (xC v48) (xC (.int .i64 1)))) fun v49 => oSet 12 (sV ((xC v49))) fun v12 => oEnd))))))
 (cSeq (cBlock 2 (cLoop (cSeq (cSeq (cOps (oLet (sV ((xW 12))) fun v50 => oLet (sV ((xW 13))) fun v51 => oLet (sV (vLe .i64 (xC v50) (xC v51))) fun v52 => oLet (sG (xC v52) true (sV ((xW 4)))) fun v54 => oLet (sG (xC v52) true (sV ((xW 0)))) fun v55 => oLet (sG (xC v52) true (sV ((xC v51)))) fun v56 => oLet (sG (xC v52) true (sV (vIdx 7 (xC v55) (xC v56)))) fun v57 => oLet (sG (xC v52) true (sL (lLoad (some 7) (xC v57)))) fun v58 => oLet (sG (xC v52) true (sV ((xW 0)))) fun v59 => oLet (sG (xC v52) true (sV ((xW 1)))) fun v60 => oLet (sG (xC v52) true (sV (vIdx 7 (xC v59) (xC v60)))) fun v61 => oLet (sG (xC v52) true (sL (lLoad (some 7) (xC v61)))) fun v62 => oLet (sG (xC v52) true (sX (xC v54) [(xC v58), (xC v62)])) fun v63 => oLet (sG (xC v52) true (sV (vLt .i64 (xC v63) (xC (.int .i64 0))))) fun v64 => oLet (sG (xC v52) true (sV (vUn .not (xC v64)))) fun v65 => oSet 66 (sV (vPick (xC v52) (xC v65) (xC (.bool false)))) fun v66 => oEnd))
 (cCond (xW 66) cSkip
 (cExit 2)))
 (cBlock 3 (cOps (oLet (sV ((xW 13))) fun v67 => oLet (sV (vSub .i64 (xC v67) (xC (.int .i64 1)))) fun v68 => oSet 13 (sV ((xC v68))) fun v13 => oEnd))))))
 (cSeq (cSeq (cOps (oLet (sV ((xW 12))) fun v69 => oLet (sV ((xW 13))) fun v70 => oSet 71 (sV (vGt .i64 (xC v69) (xC v70))) fun v71 => oEnd))
 (cCond (xW 71) (cSeq (cOps (oLet (sV ((xW 0))) fun v72 => oLet (sV ((xW 13))) fun v73 => oLet (sV ((xW 1))) fun v75 => oLet (sV (vIdx 7 (xC v72) (xC v75))) fun v78 => oLet (sL (lLoad (some 7) (xC v78))) fun v79 => oLet (sV (vIdx 7 (xC v72) (xC v73))) fun v82 => oLet (sL (lLoad (some 7) (xC v82))) fun v83 => oLet (sV (vIdx 7 (xC v72) (xC v73))) fun v84 => oDo (sM (tStore 7 (xC v84) (xC v79))) (oLet (sV (vIdx 7 (xC v72) (xC v75))) fun v85 => oDo (sM (tStore 7 (xC v85) (xC v83))) (oEnd))))
 (cSeq (cOps (oLet (sV ((xW 13))) fun v86 => oSet 10 (sV ((xC v86))) fun v10 => oSet 11 (sV ((xC (.bool true)))) fun v11 => oEnd))
 cRet))
 cSkip))
 (cSeq (cOps (oLet (sV ((xW 0))) fun v87 => oLet (sV ((xW 12))) fun v88 => oLet (sV ((xW 13))) fun v90 => oLet (sV (vIdx 7 (xC v87) (xC v90))) fun v93 => oLet (sL (lLoad (some 7) (xC v93))) fun v94 => oLet (sV (vIdx 7 (xC v87) (xC v88))) fun v97 => oLet (sL (lLoad (some 7) (xC v97))) fun v98 => oLet (sV (vIdx 7 (xC v87) (xC v88))) fun v99 => oDo (sM (tStore 7 (xC v99) (xC v94))) (oLet (sV (vIdx 7 (xC v87) (xC v90))) fun v100 => oDo (sM (tStore 7 (xC v100) (xC v98))) (oEnd))))
 (cSeq (cOps (oLet (sV ((xW 12))) fun v101 => oLet (sV (vAdd .i64 (xC v101) (xC (.int .i64 1)))) fun v102 => oSet 12 (sV ((xC v102))) fun v12 => oEnd))
 (cSeq (cOps (oLet (sV ((xW 13))) fun v103 => oLet (sV (vSub .i64 (xC v103) (xC (.int .i64 1)))) fun v104 => oSet 13 (sV ((xC v104))) fun v13 => oEnd))
 (cSeq (cBlock 4 (cLoop (cBlock 5 (cSeq (cBlock 6 (cLoop (cSeq (cSeq (cOps (oLet (sV ((xW 12))) fun v105 => oLet (sV ((xW 13))) fun v106 => oLet (sV (vLe .i64 (xC v105) (xC v106))) fun v107 => oLet (sG (xC v107) true (sV ((xW 4)))) fun v109 => oLet (sG (xC v107) true (sV ((xW 0)))) fun v110 => oLet (sG (xC v107) true (sV ((xC v105)))) fun v111 => oLet (sG (xC v107) true (sV (vIdx 7 (xC v110) (xC v111)))) fun v112 => oLet (sG (xC v107) true (sL (lLoad (some 7) (xC v112)))) fun v113 => oLet (sG (xC v107) true (sV ((xW 0)))) fun v114 => oLet (sG (xC v107) true (sV ((xW 1)))) fun v115 => oLet (sG (xC v107) true (sV (vIdx 7 (xC v114) (xC v115)))) fun v116 => oLet (sG (xC v107) true (sL (lLoad (some 7) (xC v116)))) fun v117 => oLet (sG (xC v107) true (sX (xC v109) [(xC v113), (xC v117)])) fun v118 => oLet (sG (xC v107) true (sV (vLt .i64 (xC v118) (xC (.int .i64 0))))) fun v119 => oSet 120 (sV (vPick (xC v107) (xC v119) (xC (.bool false)))) fun v120 => oEnd))
 (cCond (xW 120) cSkip
 (cExit 6)))
 (cBlock 7 (cOps (oLet (sV ((xW 12))) fun v121 => oLet (sV (vAdd .i64 (xC v121) (xC (.int .i64 1)))) fun v122 => oSet 12 (sV ((xC v122))) fun v12 => oEnd))))))
 (cSeq (cBlock 8 (cLoop (cSeq (cSeq (cOps (oLet (sV ((xW 12))) fun v123 => oLet (sV ((xW 13))) fun v124 => oLet (sV (vLe .i64 (xC v123) (xC v124))) fun v125 => oLet (sG (xC v125) true (sV ((xW 4)))) fun v127 => oLet (sG (xC v125) true (sV ((xW 0)))) fun v128 => oLet (sG (xC v125) true (sV ((xC v124)))) fun v129 => oLet (sG (xC v125) true (sV (vIdx 7 (xC v128) (xC v129)))) fun v130 => oLet (sG (xC v125) true (sL (lLoad (some 7) (xC v130)))) fun v131 => oLet (sG (xC v125) true (sV ((xW 0)))) fun v132 => oLet (sG (xC v125) true (sV ((xW 1)))) fun v133 => oLet (sG (xC v125) true (sV (vIdx 7 (xC v132) (xC v133)))) fun v134 => oLet (sG (xC v125) true (sL (lLoad (some 7) (xC v134)))) fun v135 => oLet (sG (xC v125) true (sX (xC v127) [(xC v131), (xC v135)])) fun v136 => oLet (sG (xC v125) true (sV (vLt .i64 (xC v136) (xC (.int .i64 0))))) fun v137 => oLet (sG (xC v125) true (sV (vUn .not (xC v137)))) fun v138 => oSet 139 (sV (vPick (xC v125) (xC v138) (xC (.bool false)))) fun v139 => oEnd))
 (cCond (xW 139) cSkip
 (cExit 8)))
 (cBlock 9 (cOps (oLet (sV ((xW 13))) fun v140 => oLet (sV (vSub .i64 (xC v140) (xC (.int .i64 1)))) fun v141 => oSet 13 (sV ((xC v141))) fun v13 => oEnd))))))
 (cSeq (cSeq (cOps (oLet (sV ((xW 12))) fun v142 => oLet (sV ((xW 13))) fun v143 => oSet 144 (sV (vGt .i64 (xC v142) (xC v143))) fun v144 => oEnd))
 (cCond (xW 144) (cExit 4)
 cSkip))
 (cSeq (cOps (oLet (sV ((xW 0))) fun v145 => oLet (sV ((xW 12))) fun v146 => oLet (sV ((xW 13))) fun v148 => oLet (sV (vIdx 7 (xC v145) (xC v148))) fun v151 => oLet (sL (lLoad (some 7) (xC v151))) fun v152 => oLet (sV (vIdx 7 (xC v145) (xC v146))) fun v155 => oLet (sL (lLoad (some 7) (xC v155))) fun v156 => oLet (sV (vIdx 7 (xC v145) (xC v146))) fun v157 => oDo (sM (tStore 7 (xC v157) (xC v152))) (oLet (sV (vIdx 7 (xC v145) (xC v148))) fun v158 => oDo (sM (tStore 7 (xC v158) (xC v156))) (oEnd))))
 (cSeq (cOps (oLet (sV ((xW 12))) fun v159 => oLet (sV (vAdd .i64 (xC v159) (xC (.int .i64 1)))) fun v160 => oSet 12 (sV ((xC v160))) fun v12 => oEnd))
 (cOps (oLet (sV ((xW 13))) fun v161 => oLet (sV (vSub .i64 (xC v161) (xC (.int .i64 1)))) fun v162 => oSet 13 (sV ((xC v162))) fun v13 => oEnd))))))))))
 (cSeq (cOps (oLet (sV ((xW 0))) fun v163 => oLet (sV ((xW 13))) fun v164 => oLet (sV ((xW 1))) fun v166 => oLet (sV (vIdx 7 (xC v163) (xC v166))) fun v169 => oLet (sL (lLoad (some 7) (xC v169))) fun v170 => oLet (sV (vIdx 7 (xC v163) (xC v164))) fun v173 => oLet (sL (lLoad (some 7) (xC v173))) fun v174 => oLet (sV (vIdx 7 (xC v163) (xC v164))) fun v175 => oDo (sM (tStore 7 (xC v175) (xC v170))) (oLet (sV (vIdx 7 (xC v163) (xC v166))) fun v176 => oDo (sM (tStore 7 (xC v176) (xC v174))) (oEnd))))
 (cSeq (cOps (oLet (sV ((xW 13))) fun v177 => oSet 10 (sV ((xC v177))) fun v10 => oSet 11 (sV ((xC (.bool false)))) fun v11 => oEnd))
 cRet)))))))))))), [.tmp (way 10), .tmp (way 11)]⟩
theorem Tryz.k93_c : compF Tryz.prog [14, 15, 16, 17, 18, 19, 20, 21, 22, 23, 24, 25, 26, 27, 28, 29, 30, 31, 32, 33, 34, 35, 36, 37, 38, 39, 40, 41, 42, 43, 44, 45, 46, 48, 49, 50, 51, 52, 53, 54, 55, 56, 57, 58, 59, 60, 61, 62, 63, 64, 65, 67, 68, 69, 70, 72, 73, 74, 75, 76, 77, 78, 79, 80, 81, 82, 83, 84, 85, 86, 87, 88, 89, 90, 91, 92, 93, 94, 95, 96, 97, 98, 99, 100, 101, 102, 103, 104, 105, 106, 107, 108, 109, 110, 111, 112, 113, 114, 115, 116, 117, 118, 119, 121, 122, 123, 124, 125, 126, 127, 128, 129, 130, 131, 132, 133, 134, 135, 136, 137, 138, 140, 141, 142, 143, 145, 146, 147, 148, 149, 150, 151, 152, 153, 154, 155, 156, 157, 158, 159, 160, 161, 162, 163, 164, 165, 166, 167, 168, 169, 170, 171, 172, 173, 174, 175, 176, 177] Tryz.f93 = some Tryz.k93 := by kernel_rfl
def Tryz.k95 : KF := ⟨[(way 0)], (cSeq (cOps (oSet 2 (sV ((xC (.int .i64 0)))) fun v2 => oEnd))
 (cSeq (cSeq (cOps (oLet (sV ((xW 0))) fun v3 => oSet 4 (sV (vGe .u64 (xC v3) (xC (.int .u64 4294967296)))) fun v4 => oEnd))
 (cCond (xW 4) (cSeq (cOps (oLet (sV ((xW 0))) fun v5 => oLet (sV (vSh .shr .u64 (xC v5) (xC (.int .u64 32)))) fun v6 => oSet 0 (sV ((xC v6))) fun v0 => oEnd))
 (cOps (oSet 2 (sV ((xC (.int .i64 32)))) fun v2 => oEnd)))
 cSkip))
 (cSeq (cSeq (cOps (oLet (sV ((xW 0))) fun v7 => oSet 8 (sV (vGe .u64 (xC v7) (xC (.int .u64 65536)))) fun v8 => oEnd))
 (cCond (xW 8) (cSeq (cOps (oLet (sV ((xW 0))) fun v9 => oLet (sV (vSh .shr .u64 (xC v9) (xC (.int .u64 16)))) fun v10 => oSet 0 (sV ((xC v10))) fun v0 => oEnd))
 (cOps (oLet (sV ((xW 2))) fun v11 => oLet (sV (vAdd .i64 (xC v11) (xC (.int .i64 16)))) fun v12 => oSet 2 (sV ((xC v12))) fun v2 => oEnd)))
 cSkip))
 (cSeq (cSeq (cOps (oLet (sV ((xW 0))) fun v13 => oSet 14 (sV (vGe .u64 (xC v13) (xC (.int .u64 256)))) fun v14 => oEnd))
 (cCond (xW 14) (cSeq (cOps (oLet (sV ((xW 0))) fun v15 => oLet (sV (vSh .shr .u64 (xC v15) (xC (.int .u64 8)))) fun v16 => oSet 0 (sV ((xC v16))) fun v0 => oEnd))
 (cOps (oLet (sV ((xW 2))) fun v17 => oLet (sV (vAdd .i64 (xC v17) (xC (.int .i64 8)))) fun v18 => oSet 2 (sV ((xC v18))) fun v2 => oEnd)))
 cSkip))
 (cSeq (cOps (oLet (sV ((xW 2))) fun v19 => oLet (sV ((xW 0))) fun v20 => oLet (sV (vToI .u8 (xC v20))) fun v21 => oLet (sV (vIdxS (xC (.str [0, 1, 2, 2, 3, 3, 3, 3, 4, 4, 4, 4, 4, 4, 4, 4, 5, 5, 5, 5, 5, 5, 5, 5, 5, 5, 5, 5, 5, 5, 5, 5, 6, 6, 6, 6, 6, 6, 6, 6, 6, 6, 6, 6, 6, 6, 6, 6, 6, 6, 6, 6, 6, 6, 6, 6, 6, 6, 6, 6, 6, 6, 6, 6, 7, 7, 7, 7, 7, 7, 7, 7, 7, 7, 7, 7, 7, 7, 7, 7, 7, 7, 7, 7, 7, 7, 7, 7, 7, 7, 7, 7, 7, 7, 7, 7, 7, 7, 7, 7, 7, 7, 7, 7, 7, 7, 7, 7, 7, 7, 7, 7, 7, 7, 7, 7, 7, 7, 7, 7, 7, 7, 7, 7, 7, 7, 7, 7, 8, 8, 8, 8, 8, 8, 8, 8, 8, 8, 8, 8, 8, 8, 8, 8, 8, 8, 8, 8, 8, 8, 8, 8, 8, 8, 8, 8, 8, 8, 8, 8, 8, 8, 8, 8, 8, 8, 8, 8, 8, 8, 8, 8, 8, 8, 8, 8, 8, 8, 8, 8, 8, 8, 8, 8, 8, 8, 8, 8, 8, 8, 8, 8, 8, 8, 8, 8, 8, 8, 8, 8, 8, 8, 8, 8, 8, 8, 8, 8, 8, 8, 8, 8, 8, 8, 8, 8, 8, 8, 8, 8, 8, 8, 8, 8, 8, 8, 8, 8, 8, 8, 8, 8, 8, 8, 8, 8, 8, 8, 8, 8, 8, 8, 8, 8, 8, 8, 8, 8, 8, 8, 8, 8, 8, 8, 8, 8])) (xC v21))) fun v22 => oLet (sV (vToI .i64 (xC v22))) fun v23 => oLet (sV (vAdd .i64 (xC v19) (xC v23))) fun v24 => oSet 2 (sV ((xC v24))) fun v2 => oEnd))
 cRet))))), [.tmp (way 2)]⟩
theorem Tryz.k95_c : compF Tryz.prog [3, 5, 6, 7, 9, 10, 11, 12, 13, 15, 16, 17, 18, 19, 20, 21, 22, 23, 24] Tryz.f95 = some Tryz.k95 := by kernel_rfl
def Tryz.k96 : KF := ⟨[(way 0), (way 1)], (cSeq (cOps (oSet 4 (sV ((xC (.int .i64 0)))) fun v4 => oEnd))
 (cSeq (cSeq (cOps (oLet (sV ((xW 0))) fun v6 => oSet 7 (sV (vLen (xC v6))) fun v7 => oSet 8 (sV ((xC (.int .i64 0)))) fun v8 => oEnd))
 (cBlock 0 (cLoop (cSeq (cOps (oSet 9 (sV (vLt .i64 (xW 8) (xW 7))) fun v9 => oEnd))
 (cSeq (cCond (xW 9) cSkip
 (cExit 0))
 (cSeq (cBlock 1 (cSeq (cOps (oLet (sV ((xW 8))) fun v10 => oSet 5 (sV ((xC v10))) fun v5 => oEnd))
 (cSeq (cOps (oLet (sV ((xW 1))) fun v11 => oLet (sV ((xW 0))) fun v12 => oLet (sV ((xW 5))) fun v13 => oLet (sV (vIdx 1 (xC v12) (xC v13))) fun v14 => oLet (sL (lLoad none (xC v14))) fun v15 => oSet 16 (sV (vSEq (xC v11) (xC v15))) fun v16 => oEnd))
 (cCond (xW 16) (cSeq (cOps (oLet (sV ((xW 5))) fun v17 => oSet 4 (sV ((xC v17))) fun v4 => oEnd))
 cRet)
 cSkip))))
 (cOps (oLet (sV (vAdd .i64 (xW 8) (xC (.int .i64 1)))) fun v18 => oSet 8 (sV ((xC v18))) fun v8 => oEnd))))))))
 (cSeq (cOps (oSet 4 (sV ((xC (.int .i64 (-1))))) fun v4 => oEnd))
 cRet))), [.tmp (way 4)]⟩
theorem Tryz.k96_c : compF Tryz.prog [6, 10, 11, 12, 13, 14, 15, 17, 18] Tryz.f96 = some Tryz.k96 := by kernel_rfl
def Tryz.k98 : KF := ⟨[(way 0), (way 1)], (cSeq (cOps (oSet 4 (sV ((xC (.int .i64 0)))) fun v4 => oEnd))
 (cSeq (cSeq (cOps (oLet (sV ((xW 0))) fun v6 => oSet 7 (sV (vLen (xC v6))) fun v7 => oSet 8 (sV ((xC (.int .i64 0)))) fun v8 => oEnd))
 (cBlock 0 (cLoop (cSeq (cOps (oSet 9 (sV (vLt .i64 (xW 8) (xW 7))) fun v9 => oEnd))
 (cSeq (cCond (xW 9) cSkip
 (cExit 0))
 (cSeq (cBlock 1 (cSeq (cOps (oLet (sV ((xW 8))) fun v10 => oSet 5 (sV ((xC v10))) fun v5 => oEnd))
 (cSeq (cOps (oLet (sV ((xW 1))) fun v11 => oLet (sV ((xW 0))) fun v12 => oLet (sV ((xW 5))) fun v13 => oLet (sV (vIdx 8 (xC v12) (xC v13))) fun v14 => oLet (sL (lLoad (some 8) (xC v14))) fun v15 => oSet 16 (sX (xC v11) [(xC v15)]) fun v16 => oEnd))
 (cCond (xW 16) (cSeq (cOps (oLet (sV ((xW 5))) fun v17 => oSet 4 (sV ((xC v17))) fun v4 => oEnd))
 cRet)
 cSkip))))
 (cOps (oLet (sV (vAdd .i64 (xW 8) (xC (.int .i64 1)))) fun v18 => oSet 8 (sV ((xC v18))) fun v8 => oEnd))))))))
 (cSeq (cOps (oSet 4 (sV ((xC (.int .i64 (-1))))) fun v4 => oEnd))
 cRet))), [.tmp (way 4)]⟩
theorem Tryz.k98_c : compF Tryz.prog [6, 10, 11, 12, 13, 14, 15, 17, 18] Tryz.f98 = some Tryz.k98 := by kernel_rfl
def Tryz.k100 : KF := ⟨[(way 0)], (cSeq (cOps (oSet 1 (sN (aBox (xW 0))) fun v1 => oSet 2 (sV ((xC (.nilfunc)))) fun v2 => oEnd))
 (cSeq (cOps (oLet (sV (vFunc 145 [(xW 1)])) fun v3 => oSet 2 (sV ((xC v3))) fun v2 => oEnd))
 cRet)), [.tmp (way 2)]⟩
theorem Tryz.k100_c : compF Tryz.prog [3] Tryz.f100 = some Tryz.k100 := by kernel_rfl
def Tryz.k101 : KF := ⟨[(way 0), (way 1), (way 2), (way 3)], (cSeq (cOps (oSet 5 (sV ((xC (.bool false)))) fun v5 => oEnd))
 (cSeq (cOps (oLet (sL (lLoad none (xW 1))) fun v9 => oLet (sV ((xW 0))) fun v10 => oLet (sC 54 [(xC v9), (xC v10)]) fun v11 => oLet (sV (vExtract 0 (xC v11))) fun v12 => oLet (sV (vExtract 1 (xC v11))) fun v13 => oSet 6 (sN (aAlloc [.str [], .str [], .bool false, .bool false, .nilslice, .nilslice, .nilslice])) fun v6 => oDo (sM (tStore 7 (xC v6) (xC v12))) (oEnd)))
 (cSeq (cOps (oLet (sV (vAddr 6 (xW 6))) fun v14 => oLet (sL (lLoad none (xC v14))) fun v15 => oLet (sV (vFunc 102 [(xW 2), (xW 3)])) fun v16 => oLet (sC 60 [(xC v15), (xC v16)]) fun v17 => oSet 5 (sV ((xC v17))) fun v5 => oEnd))
 cRet))), [.tmp (way 5)]⟩
theorem Tryz.k101_c : compF Tryz.prog [9, 10, 11, 8, 12, 13, 7, 14, 15, 16, 17] Tryz.f101 = some Tryz.k101 := by kernel_rfl
def Tryz.k102 : KF := ⟨[(way 0), (way 1), (way 2)], (cSeq (cOps (oSet 3 (sN (aBox (xW 0))) fun v3 => oSet 4 (sV ((xC (.bool false)))) fun v4 => oEnd))
 (cSeq (cOps (oLet (sV (vAddr 0 (xW 3))) fun v5 => oLet (sL (lLoad none (xC v5))) fun v6 => oLet (sL (lLoad none (xW 1))) fun v7 => oLet (sV (vSEq (xC v6) (xC v7))) fun v8 => oLet (sG (xC v8) true (sV (vAddr 1 (xW 3)))) fun v10 => oLet (sG (xC v8) true (sL (lLoad none (xC v10)))) fun v11 => oLet (sG (xC v8) true (sL (lLoad none (xW 2)))) fun v12 => oLet (sG (xC v8) true (sV (vSEq (xC v11) (xC v12)))) fun v13 => oLet (sV (vPick (xC v8) (xC v13) (xC (.bool false)))) fun v14 => oLet (sG (xC v14) true (sV (vAddr 2 (xW 3)))) fun v16 => oLet (sG (xC v14) true (sL (lLoad none (xC v16)))) fun v17 => oLet (sG (xC v14) true (sV (vUn .not (xC v17)))) fun v18 => oLet (sV (vPick (xC v14) (xC v18) (xC (.bool false)))) fun v19 => oLet (sG (xC v19) true (sV (vAddr 3 (xW 3)))) fun v21 => oLet (sG (xC v19) true (sL (lLoad none (xC v21)))) fun v22 => oLet (sG (xC v19) true (sV (vUn .not (xC v22)))) fun v23 => oLet (sV (vPick (xC v19) (xC v23) (xC (.bool false)))) fun v24 => oSet 4 (sV ((xC v24))) fun v4 => oEnd))
 cRet)), [.tmp (way 4)]⟩
theorem Tryz.k102_c : compF Tryz.prog [5, 6, 7, 8, 9, 10, 11, 12, 13, 14, 15, 16, 17, 18, 19, 20, 21, 22, 23, 24] Tryz.f102 = some Tryz.k102 := by kernel_rfl
def Tryz.k103 : KF := ⟨[(way 0)], (cSeq (cOps (oSet 1 (sN (aBox (xW 0))) fun v1 => oSet 2 (sN (aAlloc [.int .i64 0])) fun v2 => oSet 3 (sN (aAlloc [.str [], .int .i64 0, .int .i64 0])) fun v3 => oEnd))
 (cSeq (cOps (oLet (sL (lLoad none (xW 1))) fun v4 => oLet (sV (vFunc 146 [(xW 1), (xW 2), (xW 3)])) fun v5 => oLet (sC 104 [(xC v4), (xC v5)]) fun v6 => oEnd))
 (cSeq (cOps (oLet (sL (lLoad none (xW 2))) fun v7 => oSee (seeL (lLoad (some 3) (xW 3))) fun q1 => oLet (sLo [] 0 (lLoad (some 3) (xW 3))) fun v8 => oCap fun c2 => oDo (sM (tStore 1 (xW 2) (xC v7))) (oCap fun d2 => oLate [q1] <| oCap fun c3 => oDo (sM (tStore 3 (xW 3) (xC v8))) (oCap fun d3 => oEnd))))
 cRet))), [.cell (way 2) none, .cell (way 3) (some 3)]⟩
theorem Tryz.k103_c : compF Tryz.prog [4, 5, 6, 7, 8] Tryz.f103 = some Tryz.k103 := by kernel_rfl
def Tryz.k104 : KF := ⟨[(way 0), (way 1)], (cSeq (cOps (oLet (sV ((xW 0))) fun v10 => oSet 11 (sC 148 [(xC v10)]) fun v11 => oSet 12 (sV (vLen (xC v11))) fun v12 => oSet 13 (sV ((xC (.int .i64 0)))) fun v13 => oEnd))
 (cBlock 0 (cLoop (cSeq (cOps (oSet 14 (sV (vLt .i64 (xW 13) (xW 12))) fun v14 => oEnd))
 (cSeq (cCond (xW 14) cSkip
 (cExit 0))
 (cSeq (cBlock 1 (cSeq (cOps (oLet (sV (vIdx 1 (xW 11) (xW 13))) fun v15 => oLet (sL (lLoad none (xC v15))) fun v16 => oSet 5 (sV ((xC v16))) fun v5 => oEnd))
 (cSeq (cOps (oLet (sV ((xW 0))) fun v18 => oLet (sV ((xW 5))) fun v19 => oLet (sC 149 [(xC v18), (xC v19)]) fun v20 => oLet (sV (vExtract 0 (xC v20))) fun v21 => oLet (sV (vExtract 1 (xC v20))) fun v22 => oSet 6 (sN (aAlloc [.str [], .str [], .bool false, .bool false, .nilslice, .nilslice, .nilslice])) fun v6 => oDo (sM (tStore 7 (xC v6) (xC v21))) (oEnd)))
 (cSeq (cOps (oLet (sV (vAddr 6 (xW 6))) fun v23 => oSet 24 (sL (lLoad none (xC v23))) fun v24 => oSet 25 (sV (vLen (xC v24))) fun v25 => oSet 26 (sV ((xC (.int .i64 0)))) fun v26 => oEnd))
 (cBlock 2 (cLoop (cSeq (cOps (oSet 27 (sV (vLt .i64 (xW 26) (xW 25))) fun v27 => oEnd))
 (cSeq (cCond (xW 27) cSkip
 (cExit 2))
 (cSeq (cBlock 3 (cSeq (cOps (oLet (sV (vIdx 8 (xW 24) (xW 26))) fun v28 => oLet (sL (lLoad (some 8) (xC v28))) fun v29 => oSet 9 (sN (aAlloc [.str [], .str [], .bool false, .bool false, .int .i64 0, .int .i64 0, .nilslice, .nilslice])) fun v9 => oDo (sM (tStore 8 (xC v9) (xC v29))) (oEnd)))
 (cSeq (cOps (oLet (sV (vAddr 3 (xW 9))) fun v30 => oLet (sL (lLoad none (xC v30))) fun v31 => oLet (sV (vUn .not (xC v31))) fun v32 => oLet (sG (xC v32) true (sV ((xW 5)))) fun v34 => oLet (sG (xC v32) true (sC 108 [(xC v34)])) fun v35 => oLet (sG (xC v32) true (sV (vUn .not (xC v35)))) fun v36 => oLet (sV (vPick (xC v32) (xC v36) (xC (.bool false)))) fun v37 => oLet (sG (xC v37) true (sV ((xW 1)))) fun v39 => oLet (sG (xC v37) true (sV ((xW 5)))) fun v40 => oLet (sG (xC v37) true (sL (lLoad (some 8) (xW 9)))) fun v41 => oLet (sG (xC v37) true (sX (xC v39) [(xC v40), (xC v41)])) fun v42 => oLet (sG (xC v37) true (sV (vUn .not (xC v42)))) fun v43 => oSet 44 (sV (vPick (xC v37) (xC v43) (xC (.bool false)))) fun v44 => oEnd))
 (cCond (xW 44) cRet
 cSkip))))
 (cOps (oLet (sV (vAdd .i64 (xW 26) (xC (.int .i64 1)))) fun v45 => oSet 26 (sV ((xC v45))) fun v26 => oEnd)))))))))))
 (cOps (oLet (sV (vAdd .i64 (xW 13) (xC (.int .i64 1)))) fun v46 => oSet 13 (sV ((xC v46))) fun v13 => oEnd)))))))), []⟩
theorem Tryz.k104_c : compF Tryz.prog [10, 15, 16, 18, 19, 20, 17, 21, 22, 7, 23, 28, 29, 30, 31, 32, 33, 34, 35, 36, 37, 38, 39, 40, 41, 42, 43, 45, 46] Tryz.f104 = some Tryz.k104 := by kernel_rfl
def Tryz.k105 : KF := ⟨[(way 0), (way 1), (way 2), (way 3)], (cSeq (cOps (oSet 5 (sN (aBox (xW 1))) fun v5 => oSet 6 (sV ((xC (.bool false)))) fun v6 => oEnd))
 (cSeq (cOps (oLet (sL (lLoad none (xW 2))) fun v10 => oLet (sV ((xW 0))) fun v11 => oLet (sL (lLoad (some 8) (xW 5))) fun v12 => oLet (sC 106 [(xC v10), (xC v11), (xC v12)]) fun v13 => oLet (sV (vExtract 0 (xC v13))) fun v14 => oLet (sV (vExtract 1 (xC v13))) fun v15 => oSet 7 (sN (aAlloc [.str [], .int .i64 0, .nilslice, .nilslice, .nilslice])) fun v7 => oDo (sM (tStore 5 (xC v7) (xC v14))) (oEnd)))
 (cSeq (cOps (oLet (sL (lLoad none (xW 3))) fun v16 => oLet (sL (lLoad (some 5) (xW 7))) fun v17 => oLet (sN (aRow 1 5 [5] [(xC v17)])) fun v18 => oLet (sM (tAppend 96 5 (xC v16) (xC v18))) fun v19 => oDo (sM (tStore 1 (xW 3) (xC v19))) (oEnd)))
 (cSeq (cOps (oSet 6 (sV ((xC (.bool true)))) fun v6 => oEnd))
 cRet)))), [.tmp (way 6)]⟩
theorem Tryz.k105_c : compF Tryz.prog [10, 11, 12, 13, 9, 14, 15, 8, 16, 17, 18, 19] Tryz.f105 = some Tryz.k105 := by kernel_rfl
def Tryz.k106 : KF := ⟨[(way 0), (way 1), (way 2)], (cSeq (cOps (oSet 5 (sN (aBox (xW 2))) fun v5 => oSet 6 (sN (aAlloc [.str [], .int .i64 0, .nilslice, .nilslice, .nilslice])) fun v6 => oSet 7 (sV ((xC (.int .i64 0)))) fun v7 => oEnd))
 (cSeq (cOps (oLet (sV ((xW 0))) fun v17 => oLet (sV ((xW 1))) fun v18 => oLet (sL (lLoad (some 8) (xW 5))) fun v19 => oLet (sC 147 [(xC v17), (xC v18), (xC v19)]) fun v20 => oLet (sV (vExtract 0 (xC v20))) fun v21 => oLet (sV (vExtract 1 (xC v20))) fun v22 => oLet (sV (vExtract 2 (xC v20))) fun v23 => oLet (sV (vExtract 3 (xC v20))) fun v24 => oLet (sN (aAlloc [.str [], .int .i64 0, .int .i64 0])) fun v11 => oSet 8 (sV ((xC v21))) fun v8 => oSet 9 (sV ((xC v22))) fun v9 => oSet 10 (sV ((xC v23))) fun v10 => oDo (sM (tStore 3 (xC v11) (xC v24))) (oEnd)))
 (cSeq (cSeq (cOps (oLet (sV ((xW 10))) fun v25 => oSet 26 (sV (vNe .i64 (xC v25) (xC (.int .i64 0)))) fun v26 => oEnd))
 (cCond (xW 26) (cSeq (cOps (oLet (sV (vFill [.str [], .int .i64 0, .nilslice, .nilslice, .nilslice] [] [])) fun v27 => oLet (sV ((xW 10))) fun v28 => oDo (sM (tStore 5 (xW 6) (xC v27))) (oSet 7 (sV ((xC v28))) fun v7 => oEnd)))
 cRet)
 cSkip))
 (cSeq (cOps (oLet (sV ((xW 1))) fun v29 => oLet (sV (vAddr 0 (xW 5))) fun v30 => oLet (sL (lLoad none (xC v30))) fun v31 => oLet (sV (vAddr 1 (xW 5))) fun v32 => oLet (sL (lLoad none (xC v32))) fun v33 => oCap fun c5 => oLet (sC 118 [(xC v29), (xC v31), (xC v33)]) fun v34 => oCap fun d5 => oLet (sV (vAddr 5 (xW 5))) fun v35 => oSee (seeL (lLoad none (xC v35))) fun q7 => oLet (sLo [c5] d5.next (lLoad none (xC v35))) fun v36 => oLet (sV (vAddr 4 (xW 5))) fun v37 => oSee (seeL (lLoad none (xC v37))) fun q9 => oLet (sLo [c5] d5.next (lLoad none (xC v37))) fun v38 => oLet (sV (vAdd .i64 (xC v36) (xC v38))) fun v39 => oLet (sV (vAddr 7 (xW 5))) fun v40 => oLet (sLo [c5] d5.next (lLoad none (xC v40))) fun v41 => oCap fun c13 => oLet (sC 85 [(xC v41)]) fun v42 => oCap fun d13 => oLate [q9, q7] <| oLet (sV (vFill [.str [], .int .i64 0, .nilslice, .nilslice, .nilslice] [(0, 1), (1, 1), (3, 1)] [(xC v34), (xC v39), (xC v42)])) fun v43 => oSet 12 (sN (aAlloc [.str [], .int .i64 0, .nilslice, .nilslice, .nilslice])) fun v12 => oCap fun c16 => oDo (sM (tStore 5 (xC v12) (xC v43))) (oCap fun d16 => oEnd)))
 (cSeq (cSeq (cOps (oLet (sV (vAddr 6 (xW 5))) fun v44 => oSet 45 (sL (lLoad none (xC v44))) fun v45 => oSet 46 (sV (vLen (xC v45))) fun v46 => oSet 47 (sV ((xC (.int .i64 0)))) fun v47 => oEnd))
 (cBlock 0 (cLoop (cSeq (cOps (oSet 48 (sV (vLt .i64 (xW 47) (xW 46))) fun v48 => oEnd))
 (cSeq (cCond (xW 48) cSkip
 (cExit 0))
 (cSeq (cBlock 1 (cSeq (cOps (oLet (sV ((xW 47))) fun v49 => oLet (sV (vIdx 6 (xW 45) (xC v49))) fun v50 => oLet (sL (lLoad (some 6) (xC v50))) fun v51 => oSet 14 (sN (aAlloc [.int .i64 0, .int .i64 0, .int .i64 0, .str [], .str [], .str []])) fun v14 => oSet 13 (sV ((xC v49))) fun v13 => oDo (sM (tStore 6 (xC v14) (xC v51))) (oEnd)))
 (cSeq (cOps (oSet 15 (sV ((xC (.int .i64 (-1))))) fun v15 => oEnd))
 (cSeq (cSeq (cOps (oLet (sV ((xW 9))) fun v52 => oLet (sV ((xW 13))) fun v53 => oLet (sV (vIdx 1 (xC v52) (xC v53))) fun v54 => oSet 55 (sL (lLoad none (xC v54))) fun v55 => oEnd))
 (cCond (xW 55) (cOps (oLet (sV ((xW 8))) fun v56 => oLet (sV ((xW 13))) fun v57 => oLet (sV (vIdx 2 (xC v56) (xC v57))) fun v58 => oLet (sV (vAddr 1 (xC v58))) fun v59 => oLet (sL (lLoad none (xC v59))) fun v60 => oLet (sV (vLen (xC v60))) fun v61 => oSet 15 (sV ((xC v61))) fun v15 => oEnd))
 cSkip))
 (cSeq (cOps (oLet (sV (vAddr 4 (xW 12))) fun v62 => oLet (sL (lLoad none (xC v62))) fun v63 => oLet (sV ((xW 15))) fun v64 => oLet (sN (aRow 1 1 [1] [(xC v64)])) fun v65 => oLet (sM (tAppend 8 1 (xC v63) (xC v65))) fun v66 => oLet (sV (vAddr 4 (xW 12))) fun v67 => oDo (sM (tStore 1 (xC v67) (xC v66))) (oEnd)))
 (cOps (oLet (sV (vAddr 2 (xW 12))) fun v68 => oSee (seeL (lLoad none (xC v68))) fun q1 => oLet (sLo [] 0 (lLoad none (xC v68))) fun v69 => oLet (sL (lLoad (some 6) (xW 14))) fun v70 => oLet (sL (lLoad (some 8) (xW 5))) fun v71 => oLet (sV ((xW 15))) fun v72 => oCap fun c5 => oLet (sC 150 [(xC v70), (xC v71), (xC v72)]) fun v73 => oCap fun d5 => oLate [q1] <| oLet (sN (aRow 1 10 [10] [(xC v73)])) fun v74 => oCap fun c7 => oLet (sM (tAppend 120 10 (xC v69) (xC v74))) fun v75 => oCap fun d7 => oLet (sV (vAddr 2 (xW 12))) fun v76 => oCap fun c9 => oDo (sM (tStore 1 (xC v76) (xC v75))) (oCap fun d9 => oEnd))))))))
 (cOps (oLet (sV (vAdd .i64 (xW 47) (xC (.int .i64 1)))) fun v77 => oSet 47 (sV ((xC v77))) fun v47 => oEnd))))))))
 (cSeq (cOps (oLet (sL (lLoad (some 5) (xW 12))) fun v78 => oDo (sM (tStore 5 (xW 6) (xC v78))) (oSet 7 (sV ((xC (.int .i64 0)))) fun v7 => oEnd)))
 cRet)))))), [.cell (way 6) (some 5), .tmp (way 7)]⟩
theorem Tryz.k106_c : compF Tryz.prog [17, 18, 19, 20, 16, 21, 22, 23, 24, 11, 25, 27, 28, 29, 30, 31, 32, 33, 34, 35, 36, 37, 38, 39, 40, 41, 42, 43, 44, 49, 50, 51, 52, 53, 54, 56, 57, 58, 59, 60, 61, 62, 63, 64, 65, 66, 67, 68, 69, 70, 71, 72, 73, 74, 75, 76, 77, 78] Tryz.f106 = some Tryz.k106 := by kernel_rfl
def Tryz.k107 : KF := ⟨[(way 0)], (cSeq (cOps (oSet 2 (sV ((xC (.str [])))) fun v2 => oSet 3 (sV ((xC (.str [])))) fun v3 => oSet 4 (sV ((xC (.str [])))) fun v4 => oSet 5 (sV ((xC (.int .i64 0)))) fun v5 => oEnd))
 (cSeq (cOps (oLet (sV ((xW 0))) fun v8 => oLet (sC 128 [(xC v8), (xC (.int .u8 46))]) fun v9 => oLet (sC 128 [(xC v8), (xC (.int .u8 40))]) fun v11 => oSet 6 (sV ((xC v9))) fun v6 => oSet 7 (sV ((xC v11))) fun v7 => oEnd))
 (cSeq (cSeq (cOps (oLet (sV ((xW 6))) fun v12 => oLet (sV (vLt .i64 (xC v12) (xC (.int .i64 0)))) fun v13 => oLet (sG (xC v13) false (sV ((xW 7)))) fun v15 => oLet (sG (xC v13) false (sV ((xC v12)))) fun v16 => oLet (sG (xC v13) false (sV (vLt .i64 (xC v15) (xC v16)))) fun v17 => oLet (sV (vPick (xC v13) (xC (.bool true)) (xC v17))) fun v18 => oLet (sG (xC v18) false (sV ((xW 0)))) fun v20 => oLet (sG (xC v18) false (sV ((xC v12)))) fun v21 => oLet (sG (xC v18) false (sV (vSliceS (xC v20) [] [(xC v21)]))) fun v22 => oLet (sG (xC v18) false (sV ((xW 0)))) fun v23 => oLet (sG (xC v18) false (sV ((xC v12)))) fun v24 => oLet (sG (xC v18) false (sV (vAdd .i64 (xC v24) (xC (.int .i64 1))))) fun v25 => oLet (sG (xC v18) false (sV ((xW 7)))) fun v26 => oLet (sG (xC v18) false (sV (vSliceS (xC v23) [(xC v25)] [(xC v26)]))) fun v27 => oLet (sG (xC v18) false (sV ((xW 0)))) fun v28 => oLet (sG (xC v18) false (sV ((xW 7)))) fun v29 => oLet (sG (xC v18) false (sV (vSliceS (xC v28) [(xC v29)] []))) fun v30 => oLet (sG (xC v18) false (sC 118 [(xC v22), (xC v27), (xC v30)])) fun v31 => oLet (sG (xC v18) false (sV (vSEq (xC v31) (xC (.str []))))) fun v32 => oSet 33 (sV (vPick (xC v18) (xC (.bool true)) (xC v32))) fun v33 => oEnd))
 (cCond (xW 33) (cSeq (cOps (oSet 2 (sV ((xC (.str [])))) fun v2 => oSet 3 (sV ((xC (.str [])))) fun v3 => oSet 4 (sV ((xC (.str [])))) fun v4 => oSet 5 (sV ((xC (.int .i64 6)))) fun v5 => oEnd))
 cRet)
 cSkip))
 (cSeq (cOps (oLet (sV ((xW 0))) fun v34 => oLet (sV ((xW 6))) fun v35 => oLet (sV (vSliceS (xC v34) [] [(xC v35)])) fun v36 => oLet (sV (vAdd .i64 (xC v35) (xC (.int .i64 1)))) fun v39 => oLet (sV ((xW 7))) fun v40 => oLet (sV (vSliceS (xC v34) [(xC v39)] [(xC v40)])) fun v41 => oLet (sV (vSliceS (xC v34) [(xC v40)] [])) fun v44 => oSet 2 (sV ((xC v36))) fun v2 => oSet 3 (sV ((xC v41))) fun v3 => oSet 4 (sV ((xC v44))) fun v4 => oSet 5 (sV ((xC (.int .i64 0)))) fun v5 => oEnd))
 cRet)))), [.tmp (way 2), .tmp (way 3), .tmp (way 4), .tmp (way 5)]⟩
theorem Tryz.k107_c : compF Tryz.prog [8, 9, 10, 11, 12, 13, 14, 15, 16, 17, 18, 19, 20, 21, 22, 23, 24, 25, 26, 27, 28, 29, 30, 31, 32, 34, 35, 36, 37, 38, 39, 40, 41, 42, 43, 44] Tryz.f107 = some Tryz.k107 := by kernel_rfl
def Tryz.k108 : KF := ⟨[(way 0)], (cSeq (cOps (oSet 2 (sV ((xC (.bool false)))) fun v2 => oEnd))
 (cSeq (cOps (oLet (sV ((xW 0))) fun v3 => oLet (sV (vSEq (xC v3) (xC (.str [83, 121, 115])))) fun v4 => oSet 2 (sV ((xC v4))) fun v2 => oEnd))
 cRet)), [.tmp (way 2)]⟩
theorem Tryz.k108_c : compF Tryz.prog [3, 4] Tryz.f108 = some Tryz.k108 := by kernel_rfl
def Tryz.k109 : KF := ⟨[(way 0), (way 1), (way 2), (way 3)], (cSeq (cOps (oSet 6 (sN (aBox (xW 2))) fun v6 => oSet 7 (sN (aBox (xW 3))) fun v7 => oSet 8 (sN (aAlloc [.str [], .str [], .bool false, .bool false, .int .i64 0, .int .i64 0, .nilslice, .nilslice])) fun v8 => oSet 9 (sV ((xC (.bool false)))) fun v9 => oEnd))
 (cSeq (cOps (oLet (sV ((xW 0))) fun v14 => oLet (sV ((xW 1))) fun v15 => oLet (sC 54 [(xC v14), (xC v15)]) fun v16 => oLet (sV (vExtract 0 (xC v16))) fun v17 => oLet (sV (vExtract 1 (xC v16))) fun v18 => oSet 10 (sN (aAlloc [.str [], .str [], .bool false, .bool false, .nilslice, .nilslice, .nilslice])) fun v10 => oDo (sM (tStore 7 (xC v10) (xC v17))) (oEnd)))
 (cSeq (cOps (oLet (sV (vAddr 6 (xW 10))) fun v19 => oLet (sL (lLoad none (xC v19))) fun v20 => oLet (sV (vFunc 151 [(xW 6), (xW 7)])) fun v21 => oLet (sC 98 [(xC v20), (xC v21)]) fun v22 => oSet 12 (sV ((xC v22))) fun v12 => oEnd))
 (cSeq (cSeq (cOps (oLet (sV ((xW 12))) fun v23 => oSet 24 (sV (vLt .i64 (xC v23) (xC (.int .i64 0)))) fun v24 => oEnd))
 (cCond (xW 24) (cSeq (cOps (oLet (sV (vFill [.str [], .str [], .bool false, .bool false, .int .i64 0, .int .i64 0, .nilslice, .nilslice] [] [])) fun v25 => oDo (sM (tStore 8 (xW 8) (xC v25))) (oSet 9 (sV ((xC (.bool false)))) fun v9 => oEnd)))
 cRet)
 cSkip))
 (cSeq (cOps (oLet (sV (vAddr 6 (xW 10))) fun v26 => oLet (sL (lLoad none (xC v26))) fun v27 => oLet (sV ((xW 12))) fun v28 => oLet (sV (vIdx 8 (xC v27) (xC v28))) fun v29 => oLet (sL (lLoad (some 8) (xC v29))) fun v30 => oDo (sM (tStore 8 (xW 8) (xC v30))) (oSet 9 (sV ((xC (.bool true)))) fun v9 => oEnd)))
 cRet))))), [.cell (way 8) (some 8), .tmp (way 9)]⟩
theorem Tryz.k109_c : compF Tryz.prog [14, 15, 16, 13, 17, 18, 11, 19, 20, 21, 22, 23, 25, 26, 27, 28, 29, 30] Tryz.f109 = some Tryz.k109 := by kernel_rfl
def Tryz.k110 : KF := ⟨[(way 0), (way 1), (way 2), (way 3), (way 4), (way 5)], (cSeq (cOps (oSet 11 (sV ((xW 2))) fun v11 => oSet 12 (sV (vLen (xC v11))) fun v12 => oSet 13 (sV ((xC (.int .i64 0)))) fun v13 => oEnd))
 (cBlock 0 (cLoop (cSeq (cOps (oSet 14 (sV (vLt .i64 (xW 13) (xW 12))) fun v14 => oEnd))
 (cSeq (cCond (xW 14) cSkip
 (cExit 0))
 (cSeq (cBlock 1 (cSeq (cOps (oLet (sV (vIdx 1 (xW 11) (xW 13))) fun v15 => oLet (sL (lLoad none (xC v15))) fun v16 => oSet 10 (sV ((xC v16))) fun v10 => oEnd))
 (cSeq (cOps (oLet (sV (vAddr 0 (xW 3))) fun v17 => oLet (sL (lLoad none (xC v17))) fun v18 => oLet (sV ((xW 0))) fun v19 => oLet (sV ((xW 1))) fun v20 => oLet (sV ((xW 10))) fun v21 => oLet (sV (vCat [1, 1, 1] [(xC v19), (xC v20), (xC v21)])) fun v22 => oLet (sN (aRow 1 3 [3] [(xC v22)])) fun v23 => oLet (sM (tAppend 40 3 (xC v18) (xC v23))) fun v24 => oLet (sV (vAddr 0 (xW 3))) fun v25 => oDo (sM (tStore 1 (xC v25) (xC v24))) (oEnd)))
 (cSeq (cOps (oLet (sL (lLoad none (xW 4))) fun v26 => oLet (sV ((xW 10))) fun v27 => oLet (sL (lLookup (.one .str) (some (.int .i64 0)) false (xC v26) (xC v27))) fun v28 => oSet 29 (sV (vEq .i64 (xC v28) (xC (.int .i64 0)))) fun v29 => oEnd))
 (cCond (xW 29) (cSeq (cOps (oLet (sL (lLoad none (xW 4))) fun v30 => oLet (sV ((xW 10))) fun v31 => oLet (sL (lLookup (.one .str) (some (.int .i64 0)) false (xC v30) (xC v31))) fun v32 => oLet (sV (vAdd .i64 (xC v32) (xC (.int .i64 1)))) fun v33 => oDo (sM (tMapPut (.one .str) (xC v30) (xC v31) (xC v33))) (oEnd)))
 (cOps (oLet (sL (lLoad none (xW 5))) fun v34 => oLet (sV ((xW 10))) fun v35 => oLet (sN (aRow 1 1 [1] [(xC v35)])) fun v36 => oLet (sM (tAppend 16 1 (xC v34) (xC v36))) fun v37 => oDo (sM (tStore 1 (xW 5) (xC v37))) (oEnd))))
 cSkip)))))
 (cOps (oLet (sV (vAdd .i64 (xW 13) (xC (.int .i64 1)))) fun v38 => oSet 13 (sV ((xC v38))) fun v13 => oEnd)))))))), []⟩
theorem Tryz.k110_c : compF Tryz.prog [15, 16, 17, 18, 19, 20, 21, 22, 23, 24, 25, 26, 27, 28, 30, 31, 32, 33, 34, 35, 36, 37, 38] Tryz.f110 = some Tryz.k110 := by kernel_rfl
def Tryz.k111 : KF := ⟨[(way 0), (way 1)], (cSeq (cOps (oSet 4 (sV ((xC (.nilslice)))) fun v4 => oEnd))
 (cSeq (cSeq (cOps (oLet (sV ((xW 0))) fun v7 => oLet (sV ((xW 1))) fun v8 => oSet 9 (sC 152 [(xC v7), (xC v8)]) fun v9 => oSet 10 (sV (vLen (xC v9))) fun v10 => oSet 11 (sV ((xC (.int .i64 0)))) fun v11 => oEnd))
 (cBlock 0 (cLoop (cSeq (cOps (oSet 12 (sV (vLt .i64 (xW 11) (xW 10))) fun v12 => oEnd))
 (cSeq (cCond (xW 12) cSkip
 (cExit 0))
 (cSeq (cBlock 1 (cSeq (cOps (oLet (sV (vIdx 1 (xW 9) (xW 11))) fun v13 => oLet (sL (lLoad none (xC v13))) fun v14 => oSet 6 (sV ((xC v14))) fun v6 => oEnd))
 (cOps (oLet (sV ((xW 4))) fun v15 => oLet (sV ((xW 6))) fun v16 => oLet (sC 118 [(xC v16), (xC (.str [60, 99, 108, 105, 110, 105, 116, 62])), (xC (.str [40, 41, 86]))]) fun v17 => oLet (sN (aRow 1 1 [1] [(xC v17)])) fun v18 => oLet (sM (tAppend 16 1 (xC v15) (xC v18))) fun v19 => oSet 4 (sV ((xC v19))) fun v4 => oEnd))))
 (cOps (oLet (sV (vAdd .i64 (xW 11) (xC (.int .i64 1)))) fun v20 => oSet 11 (sV ((xC v20))) fun v11 => oEnd))))))))
 (cSeq (cOps (oLet (sV ((xW 4))) fun v21 => oSet 4 (sV ((xC v21))) fun v4 => oEnd))
 cRet))), [.tmp (way 4)]⟩
theorem Tryz.k111_c : compF Tryz.prog [7, 8, 13, 14, 15, 16, 17, 18, 19, 20, 21] Tryz.f111 = some Tryz.k111 := by kernel_rfl
def Tryz.k112 : KF := ⟨[(way 0)], (cSeq (cOps (oSet 2 (sV ((xC (.nilslice)))) fun v2 => oEnd))
 (cSeq (cOps (oLet (sV ((xW 0))) fun v3 => oLet (sC 154 [(xC v3)]) fun v4 => oLet (sC 153 [(xC v4), (xC (.func 155 []))]) fun v5 => oSet 0 (sV ((xC v5))) fun v0 => oEnd))
 (cSeq (cOps (oLet (sV ((xW 0))) fun v6 => oLet (sC 156 [(xC v6)]) fun v7 => oSet 2 (sV ((xC v7))) fun v2 => oEnd))
 cRet))), [.tmp (way 2)]⟩
theorem Tryz.k112_c : compF Tryz.prog [3, 4, 5, 6, 7] Tryz.f112 = some Tryz.k112 := by kernel_rfl
def Tryz.k113 : KF := ⟨[(way 0)], (cSeq (cOps (oLet (sV ((xW 0))) fun v3 => oLet (sV (vLen (xC v3))) fun v4 => oSet 2 (sV ((xC v4))) fun v2 => oEnd))
 (cOps (oLet (sV ((xW 0))) fun v5 => oLet (sV ((xW 2))) fun v6 => oLet (sV (vToI .u64 (xC v6))) fun v8 => oLet (sC 52 [(xC v8)]) fun v9 => oLet (sC 157 [(xC v5), (xC (.int .i64 0)), (xC v6), (xC v9)]) fun v10 => oEnd))), []⟩
theorem Tryz.k113_c : compF Tryz.prog [3, 4, 5, 6, 7, 8, 9, 10] Tryz.f113 = some Tryz.k113 := by kernel_rfl
def Tryz.k114 : KF := ⟨[(way 0), (way 1)], (cSeq (cOps (oSet 3 (sN (aBox (xW 1))) fun v3 => oSet 4 (sV ((xC (.str [])))) fun v4 => oEnd))
 (cSeq (cSeq (cOps (oLet (sV (vAddr 0 (xW 3))) fun v7 => oSet 8 (sL (lLoad none (xC v7))) fun v8 => oEnd))
 (cBlock 0 (cSeq (cOps (oLet (sV (vEq .i64 (xW 8) (xC (.int .i64 21)))) fun v10 => oSet 9 (sV ((xC v10))) fun v9 => oEnd))
 (cCond (xW 9) (cSeq (cOps (oLet (sV ((xW 0))) fun v12 => oLet (sV (vAddr 3 (xW 3))) fun v13 => oLet (sL (lLoad none (xC v13))) fun v14 => oLet (sC 149 [(xC v12), (xC v14)]) fun v15 => oLet (sV (vExtract 0 (xC v15))) fun v16 => oLet (sV (vExtract 1 (xC v15))) fun v17 => oLet (sN (aAlloc [.str [], .str [], .bool false, .bool false, .nilslice, .nilslice, .nilslice])) fun v5 => oDo (sM (tStore 7 (xC v5) (xC v16))) (oSet 6 (sV ((xC v17))) fun v6 => oEnd)))
 (cSeq (cOps (oSet 18 (sV ((xW 6))) fun v18 => oEnd))
 (cCond (xW 18) (cOps (oLet (sV (vAddr 3 (xW 3))) fun v19 => oLet (sL (lLoad none (xC v19))) fun v20 => oSet 4 (sV ((xC v20))) fun v4 => oEnd))
 cSkip)))
 (cSeq (cSeq (cOps (oLet (sV (vEq .i64 (xW 8) (xC (.int .i64 24)))) fun v22 => oSet 21 (sV ((xC v22))) fun v21 => oEnd))
 (cCond (xW 21) cSkip
 (cOps (oLet (sV (vEq .i64 (xW 8) (xC (.int .i64 25)))) fun v23 => oSet 21 (sV ((xC v23))) fun v21 => oEnd))))
 (cCond (xW 21) (cOps (oLet (sV ((xW 0))) fun v25 => oLet (sV (vAddr 3 (xW 3))) fun v26 => oLet (sL (lLoad none (xC v26))) fun v27 => oLet (sV (vAddr 4 (xW 3))) fun v28 => oLet (sL (lLoad none (xC v28))) fun v29 => oLet (sV (vAddr 5 (xW 3))) fun v30 => oLet (sL (lLoad none (xC v30))) fun v31 => oLet (sC 158 [(xC v25), (xC v27), (xC v29), (xC v31), (xC (.bool true))]) fun v32 => oLet (sV (vExtract 0 (xC v32))) fun v33 => oLet (sV (vExtract 1 (xC v32))) fun v34 => oSet 4 (sV ((xC v33))) fun v4 => oEnd))
 (cSeq (cOps (oLet (sV (vEq .i64 (xW 8) (xC (.int .i64 32)))) fun v36 => oSet 35 (sV ((xC v36))) fun v35 => oEnd))
 (cCond (xW 35) (cOps (oLet (sV ((xW 0))) fun v38 => oLet (sL (lLoad (some 6) (xW 3))) fun v39 => oLet (sC 115 [(xC v38), (xC v39)]) fun v40 => oLet (sV (vExtract 0 (xC v40))) fun v41 => oLet (sV (vExtract 1 (xC v40))) fun v42 => oLet (sV (vExtract 2 (xC v40))) fun v43 => oSet 4 (sV ((xC v41))) fun v4 => oEnd))
 cSkip))))))))
 (cSeq (cSeq (cOps (oLet (sV ((xW 4))) fun v44 => oLet (sC 108 [(xC v44)]) fun v45 => oLet (sG (xC v45) true (sV (vAddr 0 (xW 3)))) fun v47 => oLet (sG (xC v45) true (sL (lLoad none (xC v47)))) fun v48 => oLet (sG (xC v45) true (sV (vEq .i64 (xC v48) (xC (.int .i64 32))))) fun v49 => oSet 50 (sV (vPick (xC v45) (xC v49) (xC (.bool false)))) fun v50 => oEnd))
 (cCond (xW 50) (cSeq (cOps (oSet 4 (sV ((xC (.str [])))) fun v4 => oEnd))
 cRet)
 cSkip))
 (cSeq (cOps (oLet (sV ((xW 4))) fun v51 => oSet 4 (sV ((xC v51))) fun v4 => oEnd))
 cRet)))), [.tmp (way 4)]⟩
theorem Tryz.k114_c : compF Tryz.prog [7, 10, 12, 13, 14, 15, 11, 16, 17, 5, 19, 20, 22, 23, 25, 26, 27, 28, 29, 30, 31, 32, 24, 33, 34, 36, 38, 39, 40, 37, 41, 42, 43, 44, 45, 46, 47, 48, 49, 51] Tryz.f114 = some Tryz.k114 := by kernel_rfl
def Tryz.k115 : KF := ⟨[(way 0), (way 1)], (cSeq (cOps (oSet 3 (sN (aBox (xW 1))) fun v3 => oSet 4 (sV ((xC (.str [])))) fun v4 => oSet 5 (sN (aAlloc [.str [], .str [], .bool false, .bool false, .int .i64 0, .int .i64 0, .nilslice, .nilslice])) fun v5 => oSet 6 (sV ((xC (.bool false)))) fun v6 => oEnd))
 (cSeq (cOps (oLet (sV ((xW 0))) fun v8 => oLet (sV (vAddr 3 (xW 3))) fun v9 => oLet (sL (lLoad none (xC v9))) fun v10 => oLet (sV (vAddr 4 (xW 3))) fun v11 => oLet (sL (lLoad none (xC v11))) fun v12 => oLet (sV (vAddr 5 (xW 3))) fun v13 => oLet (sL (lLoad none (xC v13))) fun v14 => oLet (sC 159 [(xC v8), (xC v10), (xC v12), (xC v14)]) fun v15 => oLet (sV (vExtract 0 (xC v15))) fun v16 => oLet (sV (vExtract 1 (xC v15))) fun v17 => oLet (sV (vExtract 2 (xC v15))) fun v18 => oSet 4 (sV ((xC v16))) fun v4 => oDo (sM (tStore 8 (xW 5) (xC v17))) (oSet 6 (sV ((xC v18))) fun v6 => oEnd)))
 (cSeq (cSeq (cOps (oLet (sV ((xW 6))) fun v19 => oLet (sV (vUn .not (xC v19))) fun v20 => oLet (sG (xC v20) false (sV ((xW 0)))) fun v22 => oLet (sG (xC v20) false (sL (lLoad (some 6) (xW 3)))) fun v23 => oLet (sG (xC v20) false (sV ((xW 4)))) fun v24 => oLet (sG (xC v20) false (sL (lLoad (some 8) (xW 5)))) fun v25 => oLet (sG (xC v20) false (sC 160 [(xC v22), (xC v23), (xC v24), (xC v25)])) fun v26 => oLet (sG (xC v20) false (sV (vUn .not (xC v26)))) fun v27 => oSet 28 (sV (vPick (xC v20) (xC (.bool true)) (xC v27))) fun v28 => oEnd))
 (cCond (xW 28) (cSeq (cOps (oLet (sV (vFill [.str [], .str [], .bool false, .bool false, .int .i64 0, .int .i64 0, .nilslice, .nilslice] [] [])) fun v29 => oSet 4 (sV ((xC (.str [])))) fun v4 => oDo (sM (tStore 8 (xW 5) (xC v29))) (oSet 6 (sV ((xC (.bool false)))) fun v6 => oEnd)))
 cRet)
 cSkip))
 (cSeq (cOps (oLet (sV ((xW 4))) fun v30 => oLet (sL (lLoad (some 8) (xW 5))) fun v31 => oSet 4 (sV ((xC v30))) fun v4 => oDo (sM (tStore 8 (xW 5) (xC v31))) (oSet 6 (sV ((xC (.bool true)))) fun v6 => oEnd)))
 cRet)))), [.tmp (way 4), .cell (way 5) (some 8), .tmp (way 6)]⟩
theorem Tryz.k115_c : compF Tryz.prog [8, 9, 10, 11, 12, 13, 14, 15, 7, 16, 17, 18, 19, 20, 21, 22, 23, 24, 25, 26, 27, 29, 30, 31] Tryz.f115 = some Tryz.k115 := by kernel_rfl
def Tryz.k116 : KF := ⟨[(way 0)], (cSeq (cOps (oSet 2 (sV ((xC (.bool false)))) fun v2 => oEnd))
 (cSeq (cOps (oLet (sV ((xW 0))) fun v3 => oLet (sV (vGe .i64 (xC v3) (xC (.int .i64 32)))) fun v4 => oLet (sG (xC v4) true (sV ((xC v3)))) fun v6 => oLet (sG (xC v4) true (sV (vLe .i64 (xC v6) (xC (.int .i64 35))))) fun v7 => oLet (sV (vPick (xC v4) (xC v7) (xC (.bool false)))) fun v8 => oSet 2 (sV ((xC v8))) fun v2 => oEnd))
 cRet)), [.tmp (way 2)]⟩
theorem Tryz.k116_c : compF Tryz.prog [3, 4, 5, 6, 7, 8] Tryz.f116 = some Tryz.k116 := by kernel_rfl
def Tryz.k118 : KF := ⟨[(way 0), (way 1), (way 2)], (cSeq (cOps (oSet 6 (sV ((xC (.str [])))) fun v6 => oEnd))
 (cSeq (cSeq (cOps (oLet (sV ((xW 2))) fun v11 => oLet (sC 129 [(xC v11)]) fun v12 => oLet (sV (vExtract 0 (xC v12))) fun v13 => oLet (sV (vExtract 1 (xC v12))) fun v14 => oLet (sV (vExtract 2 (xC v12))) fun v15 => oSet 9 (sV ((xC v15))) fun v9 => oEnd))
 (cSeq (cOps (oLet (sV ((xW 9))) fun v16 => oLet (sV (vNe .i64 (xC v16) (xC (.int .i64 0)))) fun v17 => oLet (sG (xC v17) false (sV ((xW 0)))) fun v19 => oLet (sG (xC v17) false (sC 39 [(xC v19)])) fun v20 => oLet (sG (xC v17) false (sV (vUn .not (xC v20)))) fun v21 => oLet (sV (vPick (xC v17) (xC (.bool true)) (xC v21))) fun v22 => oLet (sG (xC v22) false (sV ((xW 1)))) fun v24 => oLet (sG (xC v22) false (sC 130 [(xC v24)])) fun v25 => oLet (sG (xC v22) false (sV (vUn .not (xC v25)))) fun v26 => oSet 27 (sV (vPick (xC v22) (xC (.bool true)) (xC v26))) fun v27 => oEnd))
 (cCond (xW 27) (cSeq (cOps (oSet 6 (sV ((xC (.str [])))) fun v6 => oEnd))
 cRet)
 cSkip)))
 (cSeq (cOps (oLet (sV ((xW 0))) fun v28 => oLet (sV (vStr .add (xC v28) (xC (.str [46])))) fun v29 => oLet (sV ((xW 1))) fun v30 => oLet (sV (vStr .add (xC v29) (xC v30))) fun v31 => oLet (sV ((xW 2))) fun v32 => oLet (sV (vStr .add (xC v31) (xC v32))) fun v33 => oSet 6 (sV ((xC v33))) fun v6 => oEnd))
 cRet))), [.tmp (way 6)]⟩
theorem Tryz.k118_c : compF Tryz.prog [11, 12, 10, 13, 14, 15, 7, 8, 16, 17, 18, 19, 20, 21, 22, 23, 24, 25, 26, 28, 29, 30, 31, 32, 33] Tryz.f118 = some Tryz.k118 := by kernel_rfl
def Tryz.k121 : KF := ⟨[(way 0)], (cSeq (cOps (oSet 2 (sV ((xC (.nilslice)))) fun v2 => oEnd))
 (cSeq (cSeq (cOps (oLet (sV ((xW 0))) fun v6 => oLet (sV (vLen (xC v6))) fun v7 => oSet 8 (sV (vLt .i64 (xC v7) (xC (.int .i64 2)))) fun v8 => oEnd))
 (cCond (xW 8) (cSeq (cOps (oLet (sV ((xW 0))) fun v9 => oSet 2 (sV ((xC v9))) fun v2 => oEnd))
 cRet)
 cSkip))
 (cSeq (cSeq (cOps (oSet 3 (sV ((xC (.int .i64 1)))) fun v3 => oEnd))
 (cBlock 0 (cLoop (cSeq (cSeq (cOps (oLet (sV ((xW 3))) fun v10 => oLet (sV ((xW 0))) fun v11 => oLet (sV (vLen (xC v11))) fun v12 => oSet 13 (sV (vLt .i64 (xC v10) (xC v12))) fun v13 => oEnd))
 (cCond (xW 13) cSkip
 (cExit 0)))
 (cSeq (cBlock 1 (cSeq (cOps (oLet (sV ((xW 0))) fun v16 => oLet (sV ((xW 3))) fun v17 => oLet (sV (vIdx 1 (xC v16) (xC v17))) fun v18 => oLet (sL (lLoad none (xC v18))) fun v19 => oLet (sV (vSub .i64 (xC v17) (xC (.int .i64 1)))) fun v22 => oLet (sV (vIdx 1 (xC v16) (xC v22))) fun v23 => oLet (sL (lLoad none (xC v23))) fun v24 => oSet 25 (sV (vSEq (xC v19) (xC v24))) fun v25 => oEnd))
 (cCond (xW 25) (cSeq (cOps (oLet (sV ((xW 0))) fun v26 => oLet (sV ((xW 3))) fun v27 => oLet (sV (vSlice 1 (xC v26) [(xC v27)] [] [])) fun v28 => oSet 4 (sV ((xC v28))) fun v4 => oEnd))
 (cSeq (cSeq (cOps (oSet 5 (sV ((xC (.int .i64 1)))) fun v5 => oEnd))
 (cBlock 2 (cLoop (cSeq (cSeq (cOps (oLet (sV ((xW 5))) fun v29 => oLet (sV ((xW 4))) fun v30 => oLet (sV (vLen (xC v30))) fun v31 => oSet 32 (sV (vLt .i64 (xC v29) (xC v31))) fun v32 => oEnd))
 (cCond (xW 32) cSkip
 (cExit 2)))
 (cSeq (cBlock 3 (cSeq (cOps (oLet (sV ((xW 4))) fun v35 => oLet (sV ((xW 5))) fun v36 => oLet (sV (vIdx 1 (xC v35) (xC v36))) fun v37 => oLet (sL (lLoad none (xC v37))) fun v38 => oLet (sV (vSub .i64 (xC v36) (xC (.int .i64 1)))) fun v41 => oLet (sV (vIdx 1 (xC v35) (xC v41))) fun v42 => oLet (sL (lLoad none (xC v42))) fun v43 => oSet 44 (sV (vSNe (xC v38) (xC v43))) fun v44 => oEnd))
 (cCond (xW 44) (cSeq (cOps (oLet (sV ((xW 0))) fun v45 => oLet (sV ((xW 3))) fun v46 => oLet (sV ((xW 4))) fun v47 => oLet (sV ((xW 5))) fun v48 => oLet (sV (vIdx 1 (xC v47) (xC v48))) fun v49 => oLet (sL (lLoad none (xC v49))) fun v50 => oLet (sV (vIdx 1 (xC v45) (xC v46))) fun v51 => oDo (sM (tStore 1 (xC v51) (xC v50))) (oEnd)))
 (cOps (oLet (sV ((xW 3))) fun v52 => oLet (sV (vAdd .i64 (xC v52) (xC (.int .i64 1)))) fun v53 => oSet 3 (sV ((xC v53))) fun v3 => oEnd)))
 cSkip)))
 (cOps (oLet (sV ((xW 5))) fun v33 => oLet (sV (vAdd .i64 (xC v33) (xC (.int .i64 1)))) fun v34 => oSet 5 (sV ((xC v34))) fun v5 => oEnd)))))))
 (cSeq (cOps (oLet (sV ((xW 0))) fun v54 => oLet (sV ((xW 3))) fun v55 => oLet (sV (vSlice 1 (xC v54) [(xC v55)] [] [])) fun v56 => oNo))
 (cSeq (cOps (oLet (sV ((xW 0))) fun v57 => oLet (sV ((xW 3))) fun v58 => oLet (sV (vSlice 1 (xC v57) [] [(xC v58)] [])) fun v59 => oSet 2 (sV ((xC v59))) fun v2 => oEnd))
 cRet))))
 cSkip)))
 (cOps (oLet (sV ((xW 3))) fun v14 => oLet (sV (vAdd .i64 (xC v14) (xC (.int .i64 1)))) fun v15 => oSet 3 (sV ((xC v15))) fun v3 => oEnd)))))))
 (cSeq (cOps (oLet (sV ((xW 0))) fun v60 => oSet 2 (sV ((xC v60))) fun v2 => oEnd))
 cRet)))), [.tmp (way 2)]⟩
theorem Tryz.k121_c : compF Tryz.prog [6, 7, 9, 10, 11, 12, 16, 17, 18, 19, 20, 21, 22, 23, 24, 26, 27, 28, 29, 30, 31, 35, 36, 37, 38, 39, 40, 41, 42, 43, 45, 46, 47, 48, 49, 50, 51, 52, 53, 33, 34, 54, 55, 56, 57, 58, 59, 14, 15, 60] Tryz.f121 = some Tryz.k121 := by kernel_rfl
def Tryz.k122 : KF := ⟨[(way 0), (way 1)], (cSeq (cOps (oSet 4 (sV ((xC (.bool false)))) fun v4 => oEnd))
 (cSeq (cSeq (cOps (oLet (sV ((xW 0))) fun v6 => oLet (sV (vLen (xC v6))) fun v7 => oLet (sV ((xW 1))) fun v8 => oLet (sV (vLen (xC v8))) fun v9 => oSet 10 (sV (vNe .i64 (xC v7) (xC v9))) fun v10 => oEnd))
 (cCond (xW 10) (cSeq (cOps (oSet 4 (sV ((xC (.bool false)))) fun v4 => oEnd))
 cRet)
 cSkip))
 (cSeq (cSeq (cOps (oSet 5 (sV ((xC (.int .i64 0)))) fun v5 => oEnd))
 (cBlock 0 (cLoop (cSeq (cSeq (cOps (oLet (sV ((xW 5))) fun v11 => oLet (sV ((xW 0))) fun v12 => oLet (sV (vLen (xC v12))) fun v13 => oSet 14 (sV (vLt .i64 (xC v11) (xC v13))) fun v14 => oEnd))
 (cCond (xW 14) cSkip
 (cExit 0)))
 (cSeq (cBlock 1 (cSeq (cOps (oLet (sV ((xW 0))) fun v17 => oLet (sV ((xW 5))) fun v18 => oLet (sV (vIdx 2 (xC v17) (xC v18))) fun v19 => oLet (sV (vAddr 0 (xC v19))) fun v20 => oLet (sL (lLoad none (xC v20))) fun v21 => oLet (sV ((xW 1))) fun v22 => oLet (sV (vIdx 2 (xC v22) (xC v18))) fun v24 => oLet (sV (vAddr 0 (xC v24))) fun v25 => oLet (sL (lLoad none (xC v25))) fun v26 => oLet (sV (vSNe (xC v21) (xC v26))) fun v27 => oLet (sG (xC v27) false (sV ((xC v17)))) fun v29 => oLet (sG (xC v27) false (sV ((xC v18)))) fun v30 => oLet (sG (xC v27) false (sV (vIdx 2 (xC v29) (xC v30)))) fun v31 => oLet (sG (xC v27) false (sV (vAddr 1 (xC v31)))) fun v32 => oLet (sG (xC v27) false (sL (lLoad none (xC v32)))) fun v33 => oLet (sG (xC v27) false (sV ((xC v22)))) fun v34 => oLet (sG (xC v27) false (sV ((xC v18)))) fun v35 => oLet (sG (xC v27) false (sV (vIdx 2 (xC v34) (xC v35)))) fun v36 => oLet (sG (xC v27) false (sV (vAddr 1 (xC v36)))) fun v37 => oLet (sG (xC v27) false (sL (lLoad none (xC v37)))) fun v38 => oLet (sG (xC v27) false (sC 161 [(xC v33), (xC v38)])) fun v39 => oLet (sG (xC v27) false (sV (vUn .not (xC v39)))) fun v40 => oSet 41 (sV (vPick (xC v27) (xC (.bool true)) (xC v40))) fun v41 => oEnd))
 (cCond (xW 41) (cSeq (cOps (oSet 4 (sV ((xC (.bool false)))) fun v4 => oEnd))
 cRet)
 cSkip)))
 (cOps (oLet (sV ((xW 5))) fun v15 => oLet (sV (vAdd .i64 (xC v15) (xC (.int .i64 1)))) fun v16 => oSet 5 (sV ((xC v16))) fun v5 => oEnd)))))))
 (cSeq (cOps (oSet 4 (sV ((xC (.bool true)))) fun v4 => oEnd))
 cRet)))), [.tmp (way 4)]⟩
theorem Tryz.k122_c : compF Tryz.prog [6, 7, 8, 9, 11, 12, 13, 17, 18, 19, 20, 21, 22, 23, 24, 25, 26, 27, 28, 29, 30, 31, 32, 33, 34, 35, 36, 37, 38, 39, 40, 15, 16] Tryz.f122 = some Tryz.k122 := by kernel_rfl
def Tryz.k123 : KF := ⟨[(way 0), (way 1)], (cSeq (cOps (oSet 4 (sV ((xC (.bool false)))) fun v4 => oEnd))
 (cSeq (cSeq (cOps (oLet (sV ((xW 0))) fun v6 => oLet (sV (vLen (xC v6))) fun v7 => oLet (sV ((xW 1))) fun v8 => oLet (sV (vLen (xC v8))) fun v9 => oSet 10 (sV (vNe .i64 (xC v7) (xC v9))) fun v10 => oEnd))
 (cCond (xW 10) (cSeq (cOps (oSet 4 (sV ((xC (.bool false)))) fun v4 => oEnd))
 cRet)
 cSkip))
 (cSeq (cSeq (cOps (oSet 5 (sV ((xC (.int .i64 0)))) fun v5 => oEnd))
 (cBlock 0 (cLoop (cSeq (cSeq (cOps (oLet (sV ((xW 5))) fun v11 => oLet (sV ((xW 0))) fun v12 => oLet (sV (vLen (xC v12))) fun v13 => oSet 14 (sV (vLt .i64 (xC v11) (xC v13))) fun v14 => oEnd))
 (cCond (xW 14) cSkip
 (cExit 0)))
 (cSeq (cBlock 1 (cSeq (cOps (oLet (sV ((xW 0))) fun v17 => oLet (sV ((xW 5))) fun v18 => oLet (sV (vIdx 3 (xC v17) (xC v18))) fun v19 => oLet (sL (lLoad (some 3) (xC v19))) fun v20 => oLet (sV ((xW 1))) fun v21 => oLet (sV (vIdx 3 (xC v21) (xC v18))) fun v23 => oLet (sL (lLoad (some 3) (xC v23))) fun v24 => oSet 25 (sL (lNe (.struct [.str, .int, .str]) (xC v20) (xC v24))) fun v25 => oEnd))
 (cCond (xW 25) (cSeq (cOps (oSet 4 (sV ((xC (.bool false)))) fun v4 => oEnd))
 cRet)
 cSkip)))
 (cOps (oLet (sV ((xW 5))) fun v15 => oLet (sV (vAdd .i64 (xC v15) (xC (.int .i64 1)))) fun v16 => oSet 5 (sV ((xC v16))) fun v5 => oEnd)))))))
 (cSeq (cOps (oSet 4 (sV ((xC (.bool true)))) fun v4 => oEnd))
 cRet)))), [.tmp (way 4)]⟩
theorem Tryz.k123_c : compF Tryz.prog [6, 7, 8, 9, 11, 12, 13, 17, 18, 19, 20, 21, 22, 23, 24, 15, 16] Tryz.f123 = some Tryz.k123 := by kernel_rfl
def Tryz.k124 : KF := ⟨[(way 0), (way 1)], (cSeq (cOps (oSet 4 (sV ((xC (.bool false)))) fun v4 => oEnd))
 (cSeq (cSeq (cOps (oLet (sV ((xW 0))) fun v6 => oLet (sV (vLen (xC v6))) fun v7 => oLet (sV ((xW 1))) fun v8 => oLet (sV (vLen (xC v8))) fun v9 => oSet 10 (sV (vNe .i64 (xC v7) (xC v9))) fun v10 => oEnd))
 (cCond (xW 10) (cSeq (cOps (oSet 4 (sV ((xC (.bool false)))) fun v4 => oEnd))
 cRet)
 cSkip))
 (cSeq (cSeq (cOps (oSet 5 (sV ((xC (.int .i64 0)))) fun v5 => oEnd))
 (cBlock 0 (cLoop (cSeq (cSeq (cOps (oLet (sV ((xW 5))) fun v11 => oLet (sV ((xW 0))) fun v12 => oLet (sV (vLen (xC v12))) fun v13 => oSet 14 (sV (vLt .i64 (xC v11) (xC v13))) fun v14 => oEnd))
 (cCond (xW 14) cSkip
 (cExit 0)))
 (cSeq (cBlock 1 (cSeq (cOps (oLet (sV ((xW 0))) fun v17 => oLet (sV ((xW 5))) fun v18 => oLet (sV (vIdx 1 (xC v17) (xC v18))) fun v19 => oLet (sL (lLoad none (xC v19))) fun v20 => oLet (sV ((xW 1))) fun v21 => oLet (sV (vIdx 1 (xC v21) (xC v18))) fun v23 => oLet (sL (lLoad none (xC v23))) fun v24 => oSet 25 (sV (vSNe (xC v20) (xC v24))) fun v25 => oEnd))
 (cCond (xW 25) (cSeq (cOps (oSet 4 (sV ((xC (.bool false)))) fun v4 => oEnd))
 cRet)
 cSkip)))
 (cOps (oLet (sV ((xW 5))) fun v15 => oLet (sV (vAdd .i64 (xC v15) (xC (.int .i64 1)))) fun v16 => oSet 5 (sV ((xC v16))) fun v5 => oEnd)))))))
 (cSeq (cOps (oSet 4 (sV ((xC (.bool true)))) fun v4 => oEnd))
 cRet)))), [.tmp (way 4)]⟩
theorem Tryz.k124_c : compF Tryz.prog [6, 7, 8, 9, 11, 12, 13, 17, 18, 19, 20, 21, 22, 23, 24, 15, 16] Tryz.f124 = some Tryz.k124 := by kernel_rfl
def Tryz.k125 : KF := ⟨[(way 0)], (cSeq (cOps (oSet 2 (sV ((xC (.nilslice)))) fun v2 => oEnd))
 (cSeq (cOps (oSet 3 (sV ((xC (.nilslice)))) fun v3 => oEnd))
 (cSeq (cSeq (cOps (oSet 4 (sV ((xC (.int .i64 0)))) fun v4 => oEnd))
 (cBlock 0 (cLoop (cSeq (cSeq (cOps (oLet (sV ((xW 4))) fun v7 => oLet (sV ((xW 0))) fun v8 => oLet (sV (vLen (xC v8))) fun v9 => oSet 10 (sV (vLt .i64 (xC v7) (xC v9))) fun v10 => oEnd))
 (cCond (xW 10) cSkip
 (cExit 0)))
 (cSeq (cBlock 1 (cSeq (cOps (oLet (sV ((xW 3))) fun v13 => oLet (sV (vLen (xC v13))) fun v14 => oSet 5 (sV ((xC v14))) fun v5 => oEnd))
 (cSeq (cBlock 2 (cLoop (cSeq (cSeq (cOps (oLet (sV ((xW 5))) fun v15 => oLet (sV (vGt .i64 (xC v15) (xC (.int .i64 0)))) fun v16 => oLet (sG (xC v16) true (sV ((xW 3)))) fun v18 => oLet (sG (xC v16) true (sV ((xC v15)))) fun v19 => oLet (sG (xC v16) true (sV (vSub .i64 (xC v19) (xC (.int .i64 1))))) fun v20 => oLet (sG (xC v16) true (sV (vIdx 1 (xC v18) (xC v20)))) fun v21 => oLet (sG (xC v16) true (sL (lLoad none (xC v21)))) fun v22 => oLet (sG (xC v16) true (sV ((xW 0)))) fun v23 => oLet (sG (xC v16) true (sV ((xW 4)))) fun v24 => oLet (sG (xC v16) true (sV (vIdx 1 (xC v23) (xC v24)))) fun v25 => oLet (sG (xC v16) true (sL (lLoad none (xC v25)))) fun v26 => oLet (sG (xC v16) true (sV (vStr .gtr (xC v22) (xC v26)))) fun v27 => oSet 28 (sV (vPick (xC v16) (xC v27) (xC (.bool false)))) fun v28 => oEnd))
 (cCond (xW 28) cSkip
 (cExit 2)))
 (cBlock 3 (cOps (oLet (sV ((xW 5))) fun v29 => oLet (sV (vSub .i64 (xC v29) (xC (.int .i64 1)))) fun v30 => oSet 5 (sV ((xC v30))) fun v5 => oEnd))))))
 (cSeq (cSeq (cOps (oLet (sV ((xW 5))) fun v31 => oLet (sV (vGt .i64 (xC v31) (xC (.int .i64 0)))) fun v32 => oLet (sG (xC v32) true (sV ((xW 3)))) fun v34 => oLet (sG (xC v32) true (sV ((xC v31)))) fun v35 => oLet (sG (xC v32) true (sV (vSub .i64 (xC v35) (xC (.int .i64 1))))) fun v36 => oLet (sG (xC v32) true (sV (vIdx 1 (xC v34) (xC v36)))) fun v37 => oLet (sG (xC v32) true (sL (lLoad none (xC v37)))) fun v38 => oLet (sG (xC v32) true (sV ((xW 0)))) fun v39 => oLet (sG (xC v32) true (sV ((xW 4)))) fun v40 => oLet (sG (xC v32) true (sV (vIdx 1 (xC v39) (xC v40)))) fun v41 => oLet (sG (xC v32) true (sL (lLoad none (xC v41)))) fun v42 => oLet (sG (xC v32) true (sV (vSEq (xC v38) (xC v42)))) fun v43 => oSet 44 (sV (vPick (xC v32) (xC v43) (xC (.bool false)))) fun v44 => oEnd))
 (cCond (xW 44) (cExit 1)
 cSkip))
 (cSeq (cOps (oLet (sV ((xW 3))) fun v45 => oLet (sN (aRow 1 1 [1] [(xC (.str []))])) fun v46 => oLet (sM (tAppend 16 1 (xC v45) (xC v46))) fun v47 => oSet 3 (sV ((xC v47))) fun v3 => oEnd))
 (cSeq (cSeq (cOps (oLet (sV ((xW 3))) fun v48 => oLet (sV (vLen (xC v48))) fun v49 => oLet (sV (vSub .i64 (xC v49) (xC (.int .i64 1)))) fun v50 => oSet 6 (sV ((xC v50))) fun v6 => oEnd))
 (cBlock 4 (cLoop (cSeq (cSeq (cOps (oLet (sV ((xW 6))) fun v51 => oLet (sV ((xW 5))) fun v52 => oSet 53 (sV (vGt .i64 (xC v51) (xC v52))) fun v53 => oEnd))
 (cCond (xW 53) cSkip
 (cExit 4)))
 (cSeq (cBlock 5 (cOps (oLet (sV ((xW 3))) fun v56 => oLet (sV ((xW 6))) fun v57 => oLet (sV (vSub .i64 (xC v57) (xC (.int .i64 1)))) fun v60 => oLet (sV (vIdx 1 (xC v56) (xC v60))) fun v61 => oLet (sL (lLoad none (xC v61))) fun v62 => oLet (sV (vIdx 1 (xC v56) (xC v57))) fun v63 => oDo (sM (tStore 1 (xC v63) (xC v62))) (oEnd))))
 (cOps (oLet (sV ((xW 6))) fun v54 => oLet (sV (vSub .i64 (xC v54) (xC (.int .i64 1)))) fun v55 => oSet 6 (sV ((xC v55))) fun v6 => oEnd)))))))
 (cOps (oLet (sV ((xW 3))) fun v64 => oLet (sV ((xW 5))) fun v65 => oLet (sV ((xW 0))) fun v66 => oLet (sV ((xW 4))) fun v67 => oLet (sV (vIdx 1 (xC v66) (xC v67))) fun v68 => oLet (sL (lLoad none (xC v68))) fun v69 => oLet (sV (vIdx 1 (xC v64) (xC v65))) fun v70 => oDo (sM (tStore 1 (xC v70) (xC v69))) (oEnd)))))))))
 (cOps (oLet (sV ((xW 4))) fun v11 => oLet (sV (vAdd .i64 (xC v11) (xC (.int .i64 1)))) fun v12 => oSet 4 (sV ((xC v12))) fun v4 => oEnd)))))))
 (cSeq (cOps (oLet (sV ((xW 3))) fun v71 => oSet 2 (sV ((xC v71))) fun v2 => oEnd))
 cRet)))), [.tmp (way 2)]⟩
theorem Tryz.k125_c : compF Tryz.prog [7, 8, 9, 13, 14, 15, 16, 17, 18, 19, 20, 21, 22, 23, 24, 25, 26, 27, 29, 30, 31, 32, 33, 34, 35, 36, 37, 38, 39, 40, 41, 42, 43, 45, 46, 47, 48, 49, 50, 51, 52, 56, 57, 58, 59, 60, 61, 62, 63, 54, 55, 64, 65, 66, 67, 68, 69, 70, 11, 12, 71] Tryz.f125 = some Tryz.k125 := by kernel_rfl
def Tryz.k126 : KF := ⟨[(way 0), (way 1)], (cSeq (cOps (oSet 2 (sN (aBox (xW 0))) fun v2 => oSet 4 (sV ((xC (.nilslice)))) fun v4 => oEnd))
 (cSeq (cOps (oSet 5 (sV ((xC (.nilslice)))) fun v5 => oEnd))
 (cSeq (cSeq (cOps (oSet 6 (sV ((xC (.int .i64 0)))) fun v6 => oEnd))
 (cBlock 0 (cLoop (cSeq (cSeq (cOps (oLet (sV ((xW 6))) fun v7 => oLet (sV (vAddr 0 (xW 2))) fun v8 => oLet (sL (lLoad none (xC v8))) fun v9 => oLet (sV (vLen (xC v9))) fun v10 => oSet 11 (sV (vLt .i64 (xC v7) (xC v10))) fun v11 => oEnd))
 (cCond (xW 11) cSkip
 (cExit 0)))
 (cSeq (cBlock 1 (cSeq (cOps (oLet (sV (vAddr 0 (xW 2))) fun v14 => oLet (sL (lLoad none (xC v14))) fun v15 => oLet (sV ((xW 6))) fun v16 => oLet (sV (vIdx 2 (xC v15) (xC v16))) fun v17 => oLet (sV (vAddr 0 (xC v17))) fun v18 => oLet (sL (lLoad none (xC v18))) fun v19 => oLet (sV ((xW 1))) fun v20 => oSet 21 (sV (vSEq (xC v19) (xC v20))) fun v21 => oEnd))
 (cCond (xW 21) (cOps (oLet (sV ((xW 5))) fun v22 => oLet (sV (vAddr 0 (xW 2))) fun v23 => oLet (sL (lLoad none (xC v23))) fun v24 => oLet (sV ((xW 6))) fun v25 => oLet (sV (vIdx 2 (xC v24) (xC v25))) fun v26 => oLet (sV (vAddr 1 (xC v26))) fun v27 => oLet (sL (lLoad none (xC v27))) fun v28 => oLet (sM (tAppend 8 1 (xC v22) (xC v28))) fun v29 => oSet 5 (sV ((xC v29))) fun v5 => oEnd))
 cSkip)))
 (cOps (oLet (sV ((xW 6))) fun v12 => oLet (sV (vAdd .i64 (xC v12) (xC (.int .i64 1)))) fun v13 => oSet 6 (sV ((xC v13))) fun v6 => oEnd)))))))
 (cSeq (cOps (oLet (sV ((xW 5))) fun v30 => oLet (sC 162 [(xC v30)]) fun v31 => oSet 4 (sV ((xC v31))) fun v4 => oEnd))
 cRet)))), [.tmp (way 4)]⟩
theorem Tryz.k126_c : compF Tryz.prog [7, 8, 9, 10, 14, 15, 16, 17, 18, 19, 20, 22, 23, 24, 25, 26, 27, 28, 29, 12, 13, 30, 31] Tryz.f126 = some Tryz.k126 := by kernel_rfl
def Tryz.k127 : KF := ⟨[(way 0)], (cSeq (cOps (oSet 2 (sV ((xC (.nilslice)))) fun v2 => oEnd))
 (cSeq (cOps (oSet 3 (sV ((xC (.nilslice)))) fun v3 => oEnd))
 (cSeq (cSeq (cOps (oSet 4 (sV ((xC (.int .i64 0)))) fun v4 => oEnd))
 (cBlock 0 (cLoop (cSeq (cSeq (cOps (oLet (sV ((xW 4))) fun v7 => oLet (sV ((xW 0))) fun v8 => oLet (sV (vLen (xC v8))) fun v9 => oSet 10 (sV (vLt .i64 (xC v7) (xC v9))) fun v10 => oEnd))
 (cCond (xW 10) cSkip
 (cExit 0)))
 (cSeq (cBlock 1 (cSeq (cOps (oLet (sV ((xW 3))) fun v13 => oLet (sV (vLen (xC v13))) fun v14 => oSet 5 (sV ((xC v14))) fun v5 => oEnd))
 (cSeq (cBlock 2 (cLoop (cSeq (cSeq (cOps (oLet (sV ((xW 5))) fun v15 => oLet (sV (vGt .i64 (xC v15) (xC (.int .i64 0)))) fun v16 => oLet (sG (xC v16) true (sV ((xW 0)))) fun v18 => oLet (sG (xC v16) true (sV ((xW 4)))) fun v19 => oLet (sG (xC v16) true (sV (vIdx 3 (xC v18) (xC v19)))) fun v20 => oLet (sG (xC v16) true (sL (lLoad (some 3) (xC v20)))) fun v21 => oLet (sG (xC v16) true (sV ((xW 3)))) fun v22 => oLet (sG (xC v16) true (sV ((xC v15)))) fun v23 => oLet (sG (xC v16) true (sV (vSub .i64 (xC v23) (xC (.int .i64 1))))) fun v24 => oLet (sG (xC v16) true (sV (vIdx 3 (xC v22) (xC v24)))) fun v25 => oLet (sG (xC v16) true (sL (lLoad (some 3) (xC v25)))) fun v26 => oLet (sG (xC v16) true (sC 163 [(xC v21), (xC v26)])) fun v27 => oSet 28 (sV (vPick (xC v16) (xC v27) (xC (.bool false)))) fun v28 => oEnd))
 (cCond (xW 28) cSkip
 (cExit 2)))
 (cBlock 3 (cOps (oLet (sV ((xW 5))) fun v29 => oLet (sV (vSub .i64 (xC v29) (xC (.int .i64 1)))) fun v30 => oSet 5 (sV ((xC v30))) fun v5 => oEnd))))))
 (cSeq (cSeq (cOps (oLet (sV ((xW 5))) fun v31 => oLet (sV (vGt .i64 (xC v31) (xC (.int .i64 0)))) fun v32 => oLet (sG (xC v32) true (sV ((xW 3)))) fun v34 => oLet (sG (xC v32) true (sV ((xC v31)))) fun v35 => oLet (sG (xC v32) true (sV (vSub .i64 (xC v35) (xC (.int .i64 1))))) fun v36 => oLet (sG (xC v32) true (sV (vIdx 3 (xC v34) (xC v36)))) fun v37 => oLet (sG (xC v32) true (sL (lLoad (some 3) (xC v37)))) fun v38 => oLet (sG (xC v32) true (sV ((xW 0)))) fun v39 => oLet (sG (xC v32) true (sV ((xW 4)))) fun v40 => oLet (sG (xC v32) true (sV (vIdx 3 (xC v39) (xC v40)))) fun v41 => oLet (sG (xC v32) true (sL (lLoad (some 3) (xC v41)))) fun v42 => oLet (sG (xC v32) true (sL (lEq (.struct [.str, .int, .str]) (xC v38) (xC v42)))) fun v43 => oSet 44 (sV (vPick (xC v32) (xC v43) (xC (.bool false)))) fun v44 => oEnd))
 (cCond (xW 44) (cExit 1)
 cSkip))
 (cSeq (cOps (oLet (sV ((xW 3))) fun v45 => oLet (sV (vFill [.str [], .int .i64 0, .str []] [] [])) fun v46 => oLet (sN (aRow 1 3 [3] [(xC v46)])) fun v47 => oLet (sM (tAppend 40 3 (xC v45) (xC v47))) fun v48 => oSet 3 (sV ((xC v48))) fun v3 => oEnd))
 (cSeq (cSeq (cOps (oLet (sV ((xW 3))) fun v49 => oLet (sV (vLen (xC v49))) fun v50 => oLet (sV (vSub .i64 (xC v50) (xC (.int .i64 1)))) fun v51 => oSet 6 (sV ((xC v51))) fun v6 => oEnd))
 (cBlock 4 (cLoop (cSeq (cSeq (cOps (oLet (sV ((xW 6))) fun v52 => oLet (sV ((xW 5))) fun v53 => oSet 54 (sV (vGt .i64 (xC v52) (xC v53))) fun v54 => oEnd))
 (cCond (xW 54) cSkip
 (cExit 4)))
 (cSeq (cBlock 5 (cOps (oLet (sV ((xW 3))) fun v57 => oLet (sV ((xW 6))) fun v58 => oLet (sV (vSub .i64 (xC v58) (xC (.int .i64 1)))) fun v61 => oLet (sV (vIdx 3 (xC v57) (xC v61))) fun v62 => oLet (sL (lLoad (some 3) (xC v62))) fun v63 => oLet (sV (vIdx 3 (xC v57) (xC v58))) fun v64 => oDo (sM (tStore 3 (xC v64) (xC v63))) (oEnd))))
 (cOps (oLet (sV ((xW 6))) fun v55 => oLet (sV (vSub .i64 (xC v55) (xC (.int .i64 1)))) fun v56 => oSet 6 (sV ((xC v56))) fun v6 => oEnd)))))))
 (cOps (oLet (sV ((xW 3))) fun v65 => oLet (sV ((xW 5))) fun v66 => oLet (sV ((xW 0))) fun v67 => oLet (sV ((xW 4))) fun v68 => oLet (sV (vIdx 3 (xC v67) (xC v68))) fun v69 => oLet (sL (lLoad (some 3) (xC v69))) fun v70 => oLet (sV (vIdx 3 (xC v65) (xC v66))) fun v71 => oDo (sM (tStore 3 (xC v71) (xC v70))) (oEnd)))))))))
 (cOps (oLet (sV ((xW 4))) fun v11 => oLet (sV (vAdd .i64 (xC v11) (xC (.int .i64 1)))) fun v12 => oSet 4 (sV ((xC v12))) fun v4 => oEnd)))))))
 (cSeq (cOps (oLet (sV ((xW 3))) fun v72 => oSet 2 (sV ((xC v72))) fun v2 => oEnd))
 cRet)))), [.tmp (way 2)]⟩
theorem Tryz.k127_c : compF Tryz.prog [7, 8, 9, 13, 14, 15, 16, 17, 18, 19, 20, 21, 22, 23, 24, 25, 26, 27, 29, 30, 31, 32, 33, 34, 35, 36, 37, 38, 39, 40, 41, 42, 43, 45, 46, 47, 48, 49, 50, 51, 52, 53, 57, 58, 59, 60, 61, 62, 63, 64, 55, 56, 65, 66, 67, 68, 69, 70, 71, 11, 12, 72] Tryz.f127 = some Tryz.k127 := by kernel_rfl
def Tryz.k128 : KF := ⟨[(way 0), (way 1)], (cSeq (cOps (oSet 4 (sV ((xC (.int .i64 0)))) fun v4 => oEnd))
 (cSeq (cOps (oLet (sV ((xW 0))) fun v5 => oLet (sV ((xW 1))) fun v6 => oLet (sC 164 [(xC v5), (xC v6)]) fun v7 => oSet 4 (sV ((xC v7))) fun v4 => oEnd))
 cRet)), [.tmp (way 4)]⟩
theorem Tryz.k128_c : compF Tryz.prog [5, 6, 7] Tryz.f128 = some Tryz.k128 := by kernel_rfl
def Tryz.k129 : KF := ⟨[(way 0)], (cSeq (cOps (oSet 2 (sV ((xC (.nilslice)))) fun v2 => oSet 3 (sV ((xC (.str [])))) fun v3 => oSet 4 (sV ((xC (.int .i64 0)))) fun v4 => oEnd))
 (cScope (cSeq (cOps (oLet (sV ((xW 0))) fun v10 => oLet (sC 165 [(xC v10), (xC (.str [40]))]) fun v11 => oLet (sV (vExtract 0 (xC v11))) fun v12 => oLet (sV (vExtract 1 (xC v11))) fun v13 => oSet 5 (sV ((xC v12))) fun v5 => oSet 6 (sV ((xC v13))) fun v6 => oEnd))
 (cSeq (cOps (oSet 7 (sV ((xC (.str [])))) fun v7 => oEnd))
 (cSeq cSkip
 (cSeq (cSeq (cOps (oLet (sV ((xW 5))) fun v15 => oLet (sC 76 [(xC v15)]) fun v16 => oLet (sV (vExtract 0 (xC v16))) fun v17 => oLet (sV (vExtract 1 (xC v16))) fun v18 => oSet 7 (sV ((xC v17))) fun v7 => oSet 5 (sV ((xC v18))) fun v5 => oEnd))
 (cSeq (cOps (oLet (sV ((xW 7))) fun v19 => oLet (sV (vSNe (xC v19) (xC (.str [])))) fun v20 => oLet (sG (xC v20) true (sV ((xW 2)))) fun v22 => oLet (sG (xC v20) true (sV (vLen (xC v22)))) fun v23 => oLet (sG (xC v20) true (sV (vLt .i64 (xC v23) (xC (.int .i64 8))))) fun v24 => oSet 25 (sV (vPick (xC v20) (xC v24) (xC (.bool false)))) fun v25 => oEnd))
 (cCond (xW 25) (cSeq (cOps (oLet (sV ((xW 2))) fun v26 => oLet (sV ((xW 7))) fun v27 => oLet (sN (aRow 1 1 [1] [(xC v27)])) fun v28 => oLet (sM (tAppend 16 1 (xC v26) (xC v28))) fun v29 => oSet 2 (sV ((xC v29))) fun v2 => oEnd))
 (cGoto 0))
 cSkip)))
 (cSeq (cOps (oLet (sV ((xW 7))) fun v31 => oLet (sV ((xW 5))) fun v32 => oLet (sV (vStr .add (xC v31) (xC v32))) fun v33 => oLet (sC 165 [(xC v33), (xC (.str [41]))]) fun v34 => oLet (sV (vExtract 0 (xC v34))) fun v35 => oLet (sV (vExtract 1 (xC v34))) fun v36 => oSet 3 (sV ((xC v35))) fun v3 => oSet 8 (sV ((xC v36))) fun v8 => oEnd))
 (cSeq (cSeq (cOps (oLet (sV ((xW 6))) fun v37 => oLet (sV (vUn .not (xC v37))) fun v38 => oLet (sG (xC v38) false (sV ((xW 8)))) fun v40 => oLet (sG (xC v38) false (sV (vUn .not (xC v40)))) fun v41 => oLet (sV (vPick (xC v38) (xC (.bool true)) (xC v41))) fun v42 => oLet (sG (xC v42) false (sV ((xW 3)))) fun v44 => oLet (sG (xC v42) false (sV (vSNe (xC v44) (xC (.str [86]))))) fun v45 => oLet (sG (xC v42) false (sV ((xC v45)))) fun v46 => oLet (sG (xC v46) true (sV ((xW 3)))) fun v47 => oLet (sG (xC v46) true (sC 41 [(xC v47)])) fun v48 => oLet (sG (xC v46) true (sV (vUn .not (xC v48)))) fun v49 => oLet (sG (xC v42) false (sV (vPick (xC v46) (xC v49) (xC (.bool false))))) fun v50 => oSet 51 (sV (vPick (xC v42) (xC (.bool true)) (xC v50))) fun v51 => oEnd))
 (cCond (xW 51) (cSeq (cOps (oSet 2 (sV ((xC (.nilslice)))) fun v2 => oSet 3 (sV ((xC (.str [])))) fun v3 => oSet 4 (sV ((xC (.int .i64 6)))) fun v4 => oEnd))
 cRet)
 cSkip))
 (cSeq (cOps (oLet (sV ((xW 2))) fun v52 => oLet (sV ((xW 3))) fun v53 => oSet 2 (sV ((xC v52))) fun v2 => oSet 3 (sV ((xC v53))) fun v3 => oSet 4 (sV ((xC (.int .i64 0)))) fun v4 => oEnd))
 cRet))))))) [(0, (cSeq cSkip
 (cSeq (cSeq (cOps (oLet (sV ((xW 5))) fun v15 => oLet (sC 76 [(xC v15)]) fun v16 => oLet (sV (vExtract 0 (xC v16))) fun v17 => oLet (sV (vExtract 1 (xC v16))) fun v18 => oSet 7 (sV ((xC v17))) fun v7 => oSet 5 (sV ((xC v18))) fun v5 => oEnd))
 (cSeq (cOps (oLet (sV ((xW 7))) fun v19 => oLet (sV (vSNe (xC v19) (xC (.str [])))) fun v20 => oLet (sG (xC v20) true (sV ((xW 2)))) fun v22 => oLet (sG (xC v20) true (sV (vLen (xC v22)))) fun v23 => oLet (sG (xC v20) true (sV (vLt .i64 (xC v23) (xC (.int .i64 8))))) fun v24 => oSet 25 (sV (vPick (xC v20) (xC v24) (xC (.bool false)))) fun v25 => oEnd))
 (cCond (xW 25) (cSeq (cOps (oLet (sV ((xW 2))) fun v26 => oLet (sV ((xW 7))) fun v27 => oLet (sN (aRow 1 1 [1] [(xC v27)])) fun v28 => oLet (sM (tAppend 16 1 (xC v26) (xC v28))) fun v29 => oSet 2 (sV ((xC v29))) fun v2 => oEnd))
 (cGoto 0))
 cSkip)))
 (cSeq (cOps (oLet (sV ((xW 7))) fun v31 => oLet (sV ((xW 5))) fun v32 => oLet (sV (vStr .add (xC v31) (xC v32))) fun v33 => oLet (sC 165 [(xC v33), (xC (.str [41]))]) fun v34 => oLet (sV (vExtract 0 (xC v34))) fun v35 => oLet (sV (vExtract 1 (xC v34))) fun v36 => oSet 3 (sV ((xC v35))) fun v3 => oSet 8 (sV ((xC v36))) fun v8 => oEnd))
 (cSeq (cSeq (cOps (oLet (sV ((xW 6))) fun v37 => oLet (sV (vUn .not (xC v37))) fun v38 => oLet (sG (xC v38) false (sV ((xW 8)))) fun v40 => oLet (sG (xC v38) false (sV (vUn .not (xC v40)))) fun v41 => oLet (sV (vPick (xC v38) (xC (.bool true)) (xC v41))) fun v42 => oLet (sG (xC v42) false (sV ((xW 3)))) fun v44 => oLet (sG (xC v42) false (sV (vSNe (xC v44) (xC (.str [86]))))) fun v45 => oLet (sG (xC v42) false (sV ((xC v45)))) fun v46 => oLet (sG (xC v46) true (sV ((xW 3)))) fun v47 => oLet (sG (xC v46) true (sC 41 [(xC v47)])) fun v48 => oLet (sG (xC v46) true (sV (vUn .not (xC v48)))) fun v49 => oLet (sG (xC v42) false (sV (vPick (xC v46) (xC v49) (xC (.bool false))))) fun v50 => oSet 51 (sV (vPick (xC v42) (xC (.bool true)) (xC v50))) fun v51 => oEnd))
 (cCond (xW 51) (cSeq (cOps (oSet 2 (sV ((xC (.nilslice)))) fun v2 => oSet 3 (sV ((xC (.str [])))) fun v3 => oSet 4 (sV ((xC (.int .i64 6)))) fun v4 => oEnd))
 cRet)
 cSkip))
 (cSeq (cOps (oLet (sV ((xW 2))) fun v52 => oLet (sV ((xW 3))) fun v53 => oSet 2 (sV ((xC v52))) fun v2 => oSet 3 (sV ((xC v53))) fun v3 => oSet 4 (sV ((xC (.int .i64 0)))) fun v4 => oEnd))
 cRet))))))])), [.tmp (way 2), .tmp (way 3), .tmp (way 4)]⟩
theorem Tryz.k129_c : compF Tryz.prog [10, 11, 9, 12, 13, 15, 16, 14, 17, 18, 19, 20, 21, 22, 23, 24, 26, 27, 28, 29, 31, 32, 33, 34, 30, 35, 36, 37, 38, 39, 40, 41, 42, 43, 44, 45, 46, 47, 48, 49, 50, 52, 53] Tryz.f129 = some Tryz.k129 := by kernel_rfl
def Tryz.k130 : KF := ⟨[(way 0)], (cSeq (cOps (oSet 2 (sV ((xC (.bool false)))) fun v2 => oEnd))
 (cSeq (cOps (oLet (sV ((xW 0))) fun v3 => oLet (sV (vSEq (xC v3) (xC (.str [60, 105, 110, 105, 116, 62])))) fun v4 => oLet (sG (xC v4) false (sV ((xC v3)))) fun v6 => oLet (sG (xC v4) false (sV (vSEq (xC v6) (xC (.str [60, 99, 108, 105, 110, 105, 116, 62]))))) fun v7 => oLet (sV (vPick (xC v4) (xC (.bool true)) (xC v7))) fun v8 => oLet (sG (xC v8) false (sV ((xC v3)))) fun v10 => oLet (sG (xC v8) false (sC 39 [(xC v10)])) fun v11 => oLet (sV (vPick (xC v8) (xC (.bool true)) (xC v11))) fun v12 => oSet 2 (sV ((xC v12))) fun v2 => oEnd))
 cRet)), [.tmp (way 2)]⟩
theorem Tryz.k130_c : compF Tryz.prog [3, 4, 5, 6, 7, 8, 9, 10, 11, 12] Tryz.f130 = some Tryz.k130 := by kernel_rfl
def Tryz.k131 : KF := ⟨[(way 0), (way 1), (way 2)], (cSeq (cOps (oSet 6 (sV ((xC (.bool false)))) fun v6 => oEnd))
 (cSeq (cOps (oLet (sV ((xW 1))) fun v7 => oLet (sV ((xW 0))) fun v8 => oLet (sV (vLe .i64 (xC v7) (xC v8))) fun v9 => oLet (sG (xC v9) true (sV ((xC v8)))) fun v11 => oLet (sG (xC v9) true (sV ((xW 2)))) fun v12 => oLet (sG (xC v9) true (sV (vLe .i64 (xC v11) (xC v12)))) fun v13 => oLet (sV (vPick (xC v9) (xC v13) (xC (.bool false)))) fun v14 => oSet 6 (sV ((xC v14))) fun v6 => oEnd))
 cRet)), [.tmp (way 6)]⟩
theorem Tryz.k131_c : compF Tryz.prog [7, 8, 9, 10, 11, 12, 13, 14] Tryz.f131 = some Tryz.k131 := by kernel_rfl
def Tryz.k132 : KF := ⟨[(way 0)], (cSeq (cOps (oSet 2 (sV ((xC (.int .i64 0)))) fun v2 => oEnd))
 (cSeq (cOps (oLet (sV ((xW 0))) fun v3 => oLet (sV (vLen (xC v3))) fun v4 => oSet 2 (sV ((xC v4))) fun v2 => oEnd))
 cRet)), [.tmp (way 2)]⟩
theorem Tryz.k132_c : compF Tryz.prog [3, 4] Tryz.f132 = some Tryz.k132 := by kernel_rfl
def Tryz.k133 : KF := ⟨[(way 0)], (cSeq (cOps (oSet 2 (sN (aAlloc [.bool false, .bool false, .bool false, .bool false, .bool false])) fun v2 => oSet 3 (sV ((xC (.bool false)))) fun v3 => oEnd))
 (cSeq (cOps (oLet (sV ((xW 0))) fun v7 => oLet (sC 166 [(xC v7)]) fun v8 => oLet (sV (vExtract 0 (xC v8))) fun v9 => oLet (sV (vExtract 1 (xC v8))) fun v10 => oSet 4 (sN (aAlloc [.str [], .bool false, .bool false, .bool false, .bool false, .bool false, .int .i64 0, .int .i64 0])) fun v4 => oDo (sM (tStore 8 (xC v4) (xC v9))) (oSet 5 (sV ((xC v10))) fun v5 => oEnd)))
 (cSeq (cOps (oLet (sV (vAddr 1 (xW 4))) fun v11 => oLet (sL (lLoad (some 5) (xC v11))) fun v12 => oLet (sV ((xW 5))) fun v13 => oDo (sM (tStore 5 (xW 2) (xC v12))) (oSet 3 (sV ((xC v13))) fun v3 => oEnd)))
 cRet))), [.cell (way 2) (some 5), .tmp (way 3)]⟩
theorem Tryz.k133_c : compF Tryz.prog [7, 8, 6, 9, 10, 11, 12, 13] Tryz.f133 = some Tryz.k133 := by kernel_rfl
def Tryz.k135 : KF := ⟨[(way 0)], (cSeq (cOps (oSet 1 (sN (aBox (xW 0))) fun v1 => oSet 2 (sV ((xC (.bool false)))) fun v2 => oEnd))
 (cSeq (cOps (oLet (sV (vAddr 5 (xW 1))) fun v8 => oLet (sL (lLoad none (xC v8))) fun v9 => oLet (sC 129 [(xC v9)]) fun v10 => oLet (sV (vExtract 0 (xC v10))) fun v11 => oLet (sV (vExtract 1 (xC v10))) fun v12 => oLet (sV (vExtract 2 (xC v10))) fun v13 => oSet 5 (sV ((xC v13))) fun v5 => oEnd))
 (cSeq (cBlock 0 (cSeq (cOps (oLet (sV (vAddr 0 (xW 1))) fun v15 => oLet (sL (lLoad none (xC v15))) fun v16 => oLet (sV (vEq .i64 (xC v16) (xC (.int .i64 21)))) fun v17 => oSet 14 (sV ((xC v17))) fun v14 => oEnd))
 (cCond (xW 14) (cSeq (cOps (oLet (sV (vAddr 3 (xW 1))) fun v18 => oLet (sL (lLoad none (xC v18))) fun v19 => oLet (sC 39 [(xC v19)]) fun v20 => oSet 2 (sV ((xC v20))) fun v2 => oEnd))
 cRet)
 (cSeq (cOps (oLet (sV (vAddr 0 (xW 1))) fun v22 => oLet (sL (lLoad none (xC v22))) fun v23 => oLet (sC 167 [(xC v23)]) fun v24 => oSet 21 (sV ((xC v24))) fun v21 => oEnd))
 (cCond (xW 21) (cSeq (cOps (oLet (sV (vAddr 3 (xW 1))) fun v25 => oLet (sL (lLoad none (xC v25))) fun v26 => oLet (sC 39 [(xC v26)]) fun v27 => oLet (sG (xC v27) true (sV (vAddr 4 (xW 1)))) fun v29 => oLet (sG (xC v27) true (sL (lLoad none (xC v29)))) fun v30 => oLet (sG (xC v27) true (sC 39 [(xC v30)])) fun v31 => oLet (sV (vPick (xC v27) (xC v31) (xC (.bool false)))) fun v32 => oLet (sG (xC v32) true (sV (vAddr 5 (xW 1)))) fun v34 => oLet (sG (xC v32) true (sL (lLoad none (xC v34)))) fun v35 => oLet (sG (xC v32) true (sC 41 [(xC v35)])) fun v36 => oLet (sV (vPick (xC v32) (xC v36) (xC (.bool false)))) fun v37 => oSet 2 (sV ((xC v37))) fun v2 => oEnd))
 cRet)
 (cSeq (cOps (oLet (sV (vAddr 0 (xW 1))) fun v39 => oLet (sL (lLoad none (xC v39))) fun v40 => oLet (sC 116 [(xC v40)]) fun v41 => oSet 38 (sV ((xC v41))) fun v38 => oEnd))
 (cCond (xW 38) (cSeq (cOps (oLet (sV (vAddr 4 (xW 1))) fun v42 => oLet (sL (lLoad none (xC v42))) fun v43 => oLet (sC 39 [(xC v43)]) fun v44 => oLet (sG (xC v44) false (sV (vAddr 4 (xW 1)))) fun v46 => oLet (sG (xC v44) false (sL (lLoad none (xC v46)))) fun v47 => oLet (sG (xC v44) false (sV (vSEq (xC v47) (xC (.str [60, 105, 110, 105, 116, 62]))))) fun v48 => oLet (sG (xC v44) false (sV ((xC v48)))) fun v49 => oLet (sG (xC v49) true (sV (vAddr 0 (xW 1)))) fun v50 => oLet (sG (xC v49) true (sL (lLoad none (xC v50)))) fun v51 => oLet (sG (xC v49) true (sV (vEq .i64 (xC v51) (xC (.int .i64 33))))) fun v52 => oLet (sG (xC v44) false (sV (vPick (xC v49) (xC v52) (xC (.bool false))))) fun v53 => oLet (sV (vPick (xC v44) (xC (.bool true)) (xC v53))) fun v54 => oSet 6 (sV ((xC v54))) fun v6 => oEnd))
 (cSeq (cOps (oLet (sV (vAddr 3 (xW 1))) fun v55 => oLet (sL (lLoad none (xC v55))) fun v56 => oLet (sC 39 [(xC v56)]) fun v57 => oLet (sG (xC v57) true (sV ((xW 6)))) fun v59 => oLet (sV (vPick (xC v57) (xC v59) (xC (.bool false)))) fun v60 => oLet (sG (xC v60) true (sV ((xW 5)))) fun v62 => oLet (sG (xC v60) true (sV (vEq .i64 (xC v62) (xC (.int .i64 0))))) fun v63 => oLet (sV (vPick (xC v60) (xC v63) (xC (.bool false)))) fun v64 => oSet 2 (sV ((xC v64))) fun v2 => oEnd))
 cRet))
 (cSeq (cOps (oLet (sV (vAddr 0 (xW 1))) fun v66 => oLet (sL (lLoad none (xC v66))) fun v67 => oLet (sV (vEq .i64 (xC v67) (xC (.int .i64 26)))) fun v68 => oSet 65 (sV ((xC v68))) fun v65 => oEnd))
 (cCond (xW 65) (cSeq (cOps (oLet (sV (vAddr 5 (xW 1))) fun v69 => oLet (sL (lLoad none (xC v69))) fun v70 => oLet (sC 41 [(xC v70)]) fun v71 => oLet (sG (xC v71) true (sV (vAddr 5 (xW 1)))) fun v73 => oLet (sG (xC v71) true (sL (lLoad none (xC v73)))) fun v74 => oLet (sG (xC v71) true (sC 168 [(xC v74)])) fun v75 => oLet (sG (xC v71) true (sV (vSNe (xC v75) (xC (.str []))))) fun v76 => oLet (sV (vPick (xC v71) (xC v76) (xC (.bool false)))) fun v77 => oSet 2 (sV ((xC v77))) fun v2 => oEnd))
 cRet)
 (cSeq (cOps (oLet (sV (vAddr 0 (xW 1))) fun v79 => oLet (sL (lLoad none (xC v79))) fun v80 => oLet (sV (vEq .i64 (xC v80) (xC (.int .i64 30)))) fun v81 => oLet (sG (xC v81) false (sV (vAddr 0 (xW 1)))) fun v83 => oLet (sG (xC v81) false (sL (lLoad none (xC v83)))) fun v84 => oLet (sG (xC v81) false (sV (vEq .i64 (xC v84) (xC (.int .i64 31))))) fun v85 => oLet (sV (vPick (xC v81) (xC (.bool true)) (xC v85))) fun v86 => oSet 78 (sV ((xC v86))) fun v78 => oEnd))
 (cCond (xW 78) (cSeq (cOps (oLet (sV (vAddr 5 (xW 1))) fun v87 => oLet (sL (lLoad none (xC v87))) fun v88 => oLet (sC 169 [(xC v88)]) fun v89 => oSet 2 (sV ((xC v89))) fun v2 => oEnd))
 cRet)
 cSkip)))))))))))
 (cSeq (cOps (oSet 2 (sV ((xC (.bool true)))) fun v2 => oEnd))
 cRet)))), [.tmp (way 2)]⟩
theorem Tryz.k135_c : compF Tryz.prog [8, 9, 10, 7, 11, 12, 13, 3, 4, 15, 16, 17, 18, 19, 20, 22, 23, 24, 25, 26, 27, 28, 29, 30, 31, 32, 33, 34, 35, 36, 37, 39, 40, 41, 42, 43, 44, 45, 46, 47, 48, 49, 50, 51, 52, 53, 54, 55, 56, 57, 58, 59, 60, 61, 62, 63, 64, 66, 67, 68, 69, 70, 71, 72, 73, 74, 75, 76, 77, 79, 80, 81, 82, 83, 84, 85, 86, 87, 88, 89] Tryz.f135 = some Tryz.k135 := by kernel_rfl
def Tryz.k136 : KF := ⟨[(way 0)], (cSeq (cOps (oSet 2 (sV ((xC (.bool false)))) fun v2 => oEnd))
 (cSeq (cOps (oLet (sV ((xW 0))) fun v3 => oLet (sV (vGe .i64 (xC v3) (xC (.int .i64 17)))) fun v4 => oLet (sG (xC v4) true (sV ((xC v3)))) fun v6 => oLet (sG (xC v4) true (sV (vLe .i64 (xC v6) (xC (.int .i64 20))))) fun v7 => oLet (sV (vPick (xC v4) (xC v7) (xC (.bool false)))) fun v8 => oSet 2 (sV ((xC v8))) fun v2 => oEnd))
 cRet)), [.tmp (way 2)]⟩
theorem Tryz.k136_c : compF Tryz.prog [3, 4, 5, 6, 7, 8] Tryz.f136 = some Tryz.k136 := by kernel_rfl
def Tryz.k137 : KF := ⟨[(way 0), (way 1)], (cSeq (cOps (oSet 8 (sV ((xW 1))) fun v8 => oSet 9 (sV (vLen (xC v8))) fun v9 => oSet 10 (sV ((xC (.int .i64 0)))) fun v10 => oEnd))
 (cBlock 0 (cLoop (cSeq (cOps (oSet 11 (sV (vLt .i64 (xW 10) (xW 9))) fun v11 => oEnd))
 (cSeq (cCond (xW 11) cSkip
 (cExit 0))
 (cSeq (cBlock 1 (cSeq (cOps (oLet (sV (vIdx 1 (xW 8) (xW 10))) fun v12 => oLet (sL (lLoad none (xC v12))) fun v13 => oSet 5 (sV ((xC v13))) fun v5 => oEnd))
 (cSeq (cOps (oLet (sV ((xW 0))) fun v15 => oLet (sV (vNil (xC v15))) fun v16 => oLet (sV (vAddr 1 (xC v16))) fun v17 => oLet (sL (lLoad none (xC v17))) fun v18 => oLet (sV ((xW 5))) fun v19 => oLet (sL (lLookup (.one .str) (some (.int .i64 0)) true (xC v18) (xC v19))) fun v20 => oLet (sV (vExtract 0 (xC v20))) fun v21 => oLet (sV (vExtract 1 (xC v20))) fun v22 => oSet 7 (sV ((xC v22))) fun v7 => oEnd))
 (cSeq (cOps (oLet (sV ((xW 7))) fun v23 => oSet 24 (sV (vUn .not (xC v23))) fun v24 => oEnd))
 (cCond (xW 24) (cSeq (cOps (oLet (sV ((xW 0))) fun v25 => oLet (sV (vNil (xC v25))) fun v26 => oLet (sV (vAddr 1 (xC v26))) fun v27 => oLet (sL (lLoad none (xC v27))) fun v28 => oLet (sV ((xW 5))) fun v29 => oLet (sV (vNil (xC v25))) fun v31 => oLet (sV (vAddr 0 (xC v31))) fun v32 => oLet (sL (lLoad none (xC v32))) fun v33 => oLet (sV (vLen (xC v33))) fun v34 => oDo (sM (tMapPut (.one .str) (xC v28) (xC v29) (xC v34))) (oEnd)))
 (cOps (oLet (sV ((xW 0))) fun v35 => oLet (sV (vNil (xC v35))) fun v37 => oLet (sV (vAddr 0 (xC v37))) fun v38 => oLet (sL (lLoad none (xC v38))) fun v39 => oLet (sV ((xW 5))) fun v40 => oLet (sN (aRow 1 1 [1] [(xC v40)])) fun v41 => oLet (sM (tAppend 16 1 (xC v39) (xC v41))) fun v42 => oLet (sV (vNil (xC v35))) fun v43 => oLet (sV (vAddr 0 (xC v43))) fun v44 => oDo (sM (tStore 1 (xC v44) (xC v42))) (oEnd))))
 cSkip)))))
 (cOps (oLet (sV (vAdd .i64 (xW 10) (xC (.int .i64 1)))) fun v45 => oSet 10 (sV ((xC v45))) fun v10 => oEnd)))))))), []⟩
theorem Tryz.k137_c : compF Tryz.prog [12, 13, 15, 16, 17, 18, 19, 20, 14, 21, 22, 6, 23, 25, 26, 27, 28, 29, 30, 31, 32, 33, 34, 35, 36, 37, 38, 39, 40, 41, 42, 43, 44, 45] Tryz.f137 = some Tryz.k137 := by kernel_rfl
def Tryz.k138 : KF := ⟨[(way 0)], (cSeq (cOps (oSet 1 (sN (aBox (xW 0))) fun v1 => oSet 2 (sV ((xC (.nilslice)))) fun v2 => oEnd))
 (cSeq (cOps (oLet (sV (vAddr 0 (xW 1))) fun v6 => oLet (sL (lLoad none (xC v6))) fun v7 => oLet (sC 133 [(xC v7)]) fun v8 => oLet (sV (vExtract 0 (xC v8))) fun v9 => oLet (sV (vExtract 1 (xC v8))) fun v10 => oSet 3 (sN (aAlloc [.bool false, .bool false, .bool false, .bool false, .bool false])) fun v3 => oDo (sM (tStore 5 (xC v3) (xC v9))) (oEnd)))
 (cSeq (cSeq (cOps (oLet (sV (vAddr 2 (xW 3))) fun v11 => oSet 12 (sL (lLoad none (xC v11))) fun v12 => oEnd))
 (cCond (xW 12) (cOps (oLet (sV ((xW 2))) fun v13 => oLet (sV (vAddr 3 (xW 1))) fun v14 => oLet (sL (lLoad none (xC v14))) fun v15 => oLet (sN (aRow 1 1 [1] [(xC v15)])) fun v16 => oLet (sM (tAppend 16 1 (xC v13) (xC v16))) fun v17 => oSet 2 (sV ((xC v17))) fun v2 => oEnd))
 cSkip))
 (cSeq (cSeq (cOps (oLet (sV (vAddr 3 (xW 3))) fun v18 => oSet 19 (sL (lLoad none (xC v18))) fun v19 => oEnd))
 (cCond (xW 19) (cOps (oLet (sV ((xW 2))) fun v20 => oLet (sV (vAddr 4 (xW 1))) fun v21 => oLet (sL (lLoad none (xC v21))) fun v22 => oLet (sN (aRow 1 1 [1] [(xC v22)])) fun v23 => oLet (sM (tAppend 16 1 (xC v20) (xC v23))) fun v24 => oSet 2 (sV ((xC v24))) fun v2 => oEnd))
 cSkip))
 (cSeq (cSeq (cOps (oLet (sV (vAddr 4 (xW 3))) fun v25 => oSet 26 (sL (lLoad none (xC v25))) fun v26 => oEnd))
 (cCond (xW 26) (cOps (oLet (sV ((xW 2))) fun v27 => oLet (sV (vAddr 5 (xW 1))) fun v28 => oLet (sL (lLoad none (xC v28))) fun v29 => oLet (sN (aRow 1 1 [1] [(xC v29)])) fun v30 => oLet (sM (tAppend 16 1 (xC v27) (xC v30))) fun v31 => oSet 2 (sV ((xC v31))) fun v2 => oEnd))
 cSkip))
 (cSeq (cOps (oLet (sV ((xW 2))) fun v32 => oSet 2 (sV ((xC v32))) fun v2 => oEnd))
 cRet)))))), [.tmp (way 2)]⟩
theorem Tryz.k138_c : compF Tryz.prog [6, 7, 8, 5, 9, 10, 4, 11, 13, 14, 15, 16, 17, 18, 20, 21, 22, 23, 24, 25, 27, 28, 29, 30, 31, 32] Tryz.f138 = some Tryz.k138 := by kernel_rfl
def Tryz.k143 : KF := ⟨[(way 0), (way 1), (way 2), (way 3), (way 4), (way 5)], (cSeq (cOps (oSet 12 (sV ((xC (.int .i64 0)))) fun v12 => oEnd))
 (cSeq (cOps (oLet (sV ((xW 0))) fun v14 => oLet (sV ((xW 1))) fun v15 => oLet (sV ((xW 2))) fun v16 => oLet (sV ((xW 4))) fun v17 => oLet (sV ((xW 5))) fun v18 => oLet (sC 170 [(xC v14), (xC v15), (xC v16), (xC v17), (xC v18)]) fun v19 => oLet (sV (vExtract 0 (xC v19))) fun v20 => oLet (sV (vExtract 1 (xC v19))) fun v21 => oSet 1 (sV ((xC v20))) fun v1 => oSet 2 (sV ((xC v21))) fun v2 => oEnd))
 (cSeq (cOps (oLet (sV ((xW 0))) fun v23 => oLet (sV ((xW 2))) fun v24 => oLet (sV ((xW 3))) fun v25 => oLet (sV ((xW 4))) fun v26 => oLet (sV ((xW 5))) fun v27 => oLet (sC 170 [(xC v23), (xC v24), (xC v25), (xC v26), (xC v27)]) fun v28 => oLet (sV (vExtract 0 (xC v28))) fun v29 => oLet (sV (vExtract 1 (xC v28))) fun v30 => oSet 2 (sV ((xC v29))) fun v2 => oSet 3 (sV ((xC v30))) fun v3 => oEnd))
 (cSeq (cOps (oLet (sV ((xW 0))) fun v32 => oLet (sV ((xW 1))) fun v33 => oLet (sV ((xW 2))) fun v34 => oLet (sV ((xW 4))) fun v35 => oLet (sV ((xW 5))) fun v36 => oLet (sC 170 [(xC v32), (xC v33), (xC v34), (xC v35), (xC v36)]) fun v37 => oLet (sV (vExtract 0 (xC v37))) fun v38 => oLet (sV (vExtract 1 (xC v37))) fun v39 => oSet 1 (sV ((xC v38))) fun v1 => oSet 2 (sV ((xC v39))) fun v2 => oEnd))
 (cSeq (cOps (oLet (sV ((xW 2))) fun v40 => oSet 12 (sV ((xC v40))) fun v12 => oEnd))
 cRet))))), [.tmp (way 12)]⟩
theorem Tryz.k143_c : compF Tryz.prog [14, 15, 16, 17, 18, 19, 13, 20, 21, 23, 24, 25, 26, 27, 28, 22, 29, 30, 32, 33, 34, 35, 36, 37, 31, 38, 39, 40] Tryz.f143 = some Tryz.k143 := by kernel_rfl
def Tryz.k146 : KF := ⟨[(way 0), (way 1), (way 2), (way 3), (way 4)], (cSeq (cOps (oSet 6 (sN (aBox (xW 1))) fun v6 => oSet 7 (sV ((xC (.bool false)))) fun v7 => oEnd))
 (cSeq (cOps (oLet (sL (lLoad none (xW 2))) fun v9 => oLet (sV ((xW 0))) fun v10 => oLet (sL (lLoad (some 8) (xW 6))) fun v11 => oLet (sC 147 [(xC v9), (xC v10), (xC v11)]) fun v12 => oLet (sV (vExtract 0 (xC v12))) fun v13 => oLet (sV (vExtract 1 (xC v12))) fun v14 => oLet (sV (vExtract 2 (xC v12))) fun v15 => oLet (sV (vExtract 3 (xC v12))) fun v16 => oDo (sM (tStore 1 (xW 3) (xC v15))) (oDo (sM (tStore 3 (xW 4) (xC v16))) (oEnd))))
 (cSeq (cOps (oLet (sL (lLoad none (xW 3))) fun v17 => oLet (sV (vEq .i64 (xC v17) (xC (.int .i64 0)))) fun v18 => oSet 7 (sV ((xC v18))) fun v7 => oEnd))
 cRet))), [.tmp (way 7)]⟩
theorem Tryz.k146_c : compF Tryz.prog [9, 10, 11, 12, 8, 13, 14, 15, 16, 17, 18] Tryz.f146 = some Tryz.k146 := by kernel_rfl
def Tryz.k147 : KF := ⟨[(way 0), (way 1), (way 2)], (cSeq (cOps (oSet 5 (sN (aBox (xW 2))) fun v5 => oSet 6 (sV ((xC (.nilslice)))) fun v6 => oSet 7 (sV ((xC (.nilslice)))) fun v7 => oSet 8 (sV ((xC (.int .i64 0)))) fun v8 => oSet 9 (sN (aAlloc [.str [], .int .i64 0, .int .i64 0])) fun v9 => oEnd))
 (cSeq (cSeq (cOps (oLet (sV ((xW 0))) fun v16 => oLet (sV ((xW 1))) fun v17 => oLet (sC 149 [(xC v16), (xC v17)]) fun v18 => oLet (sV (vExtract 0 (xC v18))) fun v19 => oLet (sV (vExtract 1 (xC v18))) fun v20 => oLet (sN (aAlloc [.str [], .str [], .bool false, .bool false, .nilslice, .nilslice, .nilslice])) fun v10 => oDo (sM (tStore 7 (xC v10) (xC v19))) (oSet 11 (sV ((xC v20))) fun v11 => oEnd)))
 (cSeq (cOps (oLet (sV ((xW 11))) fun v21 => oLet (sV (vUn .not (xC v21))) fun v22 => oLet (sG (xC v22) false (sV (vAddr 3 (xW 5)))) fun v24 => oLet (sG (xC v22) false (sL (lLoad none (xC v24)))) fun v25 => oLet (sV (vPick (xC v22) (xC (.bool true)) (xC v25))) fun v26 => oLet (sG (xC v26) false (sV ((xW 1)))) fun v28 => oLet (sG (xC v26) false (sC 108 [(xC v28)])) fun v29 => oLet (sV (vPick (xC v26) (xC (.bool true)) (xC v29))) fun v30 => oLet (sG (xC v30) false (sV (vAddr 6 (xW 5)))) fun v32 => oLet (sG (xC v30) false (sL (lLoad none (xC v32)))) fun v33 => oLet (sG (xC v30) false (sV (vLen (xC v33)))) fun v34 => oLet (sG (xC v30) false (sV (vEq .i64 (xC v34) (xC (.int .i64 0))))) fun v35 => oSet 36 (sV (vPick (xC v30) (xC (.bool true)) (xC v35))) fun v36 => oEnd))
 (cCond (xW 36) (cSeq (cOps (oLet (sV (vFill [.str [], .int .i64 0, .int .i64 0] [] [])) fun v37 => oSet 6 (sV ((xC (.nilslice)))) fun v6 => oSet 7 (sV ((xC (.nilslice)))) fun v7 => oSet 8 (sV ((xC (.int .i64 1)))) fun v8 => oDo (sM (tStore 3 (xW 9) (xC v37))) (oEnd)))
 cRet)
 cSkip)))
 (cSeq (cOps (oLet (sV ((xW 0))) fun v38 => oLet (sV ((xW 1))) fun v39 => oLet (sL (lLoad (some 8) (xW 5))) fun v40 => oLet (sV (vAddr 6 (xW 5))) fun v41 => oLet (sL (lLoad none (xC v41))) fun v42 => oLet (sV (vLen (xC v42))) fun v43 => oLet (sN (aMakeSlice 48 2 [.nilslice, .nilslice] (xC v43) (xC v43))) fun v44 => oLet (sV (vAddr 6 (xW 5))) fun v45 => oLet (sL (lLoad none (xC v45))) fun v46 => oLet (sV (vLen (xC v46))) fun v47 => oLet (sN (aMakeSlice 1 1 [.bool false] (xC v47) (xC v47))) fun v48 => oLet (sV (vFill [.nilptr, .str [], .str [], .str [], .bool false, .bool false, .int .i64 0, .int .i64 0, .nilslice, .nilslice, .nilslice, .nilslice, .nilslice] [(0, 1), (1, 1), (2, 8), (10, 1), (11, 1)] [(xC v38), (xC v39), (xC v40), (xC v44), (xC v48)])) fun v49 => oLet (sN (aBox (xC v49))) fun v50 => oSet 12 (sV ((xC v50))) fun v12 => oEnd))
 (cSeq (cSeq (cOps (oLet (sV ((xW 12))) fun v52 => oLet (sC 172 [(xC v52)]) fun v53 => oLet (sV (vExtract 0 (xC v53))) fun v54 => oLet (sV (vExtract 1 (xC v53))) fun v55 => oSet 13 (sV ((xC v54))) fun v13 => oSet 14 (sV ((xC v55))) fun v14 => oEnd))
 (cSeq (cOps (oLet (sV ((xW 14))) fun v56 => oSet 57 (sV (vNe .i64 (xC v56) (xC (.int .i64 0)))) fun v57 => oEnd))
 (cCond (xW 57) (cSeq (cOps (oLet (sV ((xW 1))) fun v58 => oLet (sV (vAddr 0 (xW 5))) fun v59 => oLet (sL (lLoad none (xC v59))) fun v60 => oLet (sV (vAddr 1 (xW 5))) fun v61 => oLet (sL (lLoad none (xC v61))) fun v62 => oLet (sC 118 [(xC v58), (xC v60), (xC v62)]) fun v63 => oLet (sV ((xW 13))) fun v64 => oLet (sV ((xW 14))) fun v65 => oLet (sV (vCat [1, 1, 1] [(xC v63), (xC v64), (xC v65)])) fun v66 => oSet 6 (sV ((xC (.nilslice)))) fun v6 => oSet 7 (sV ((xC (.nilslice)))) fun v7 => oSet 8 (sV ((xC (.int .i64 9)))) fun v8 => oDo (sM (tStore 3 (xW 9) (xC v66))) (oEnd)))
 cRet)
 cSkip)))
 (cSeq (cOps (oLet (sV ((xW 12))) fun v67 => oLet (sV (vNil (xC v67))) fun v68 => oLet (sV (vAddr 10 (xC v68))) fun v69 => oLet (sL (lLoad none (xC v69))) fun v70 => oLet (sV (vNil (xC v67))) fun v72 => oLet (sV (vAddr 11 (xC v72))) fun v73 => oLet (sL (lLoad none (xC v73))) fun v74 => oLet (sV (vFill [.str [], .int .i64 0, .int .i64 0] [] [])) fun v75 => oSet 6 (sV ((xC v70))) fun v6 => oSet 7 (sV ((xC v74))) fun v7 => oSet 8 (sV ((xC (.int .i64 0)))) fun v8 => oDo (sM (tStore 3 (xW 9) (xC v75))) (oEnd)))
 cRet))))), [.tmp (way 6), .tmp (way 7), .tmp (way 8), .cell (way 9) (some 3)]⟩
theorem Tryz.k147_c : compF Tryz.prog [16, 17, 18, 15, 19, 20, 10, 21, 22, 23, 24, 25, 26, 27, 28, 29, 30, 31, 32, 33, 34, 35, 37, 38, 39, 40, 41, 42, 43, 44, 45, 46, 47, 48, 49, 50, 52, 53, 51, 54, 55, 56, 58, 59, 60, 61, 62, 63, 64, 65, 66, 67, 68, 69, 70, 71, 72, 73, 74, 75] Tryz.f147 = some Tryz.k147 := by kernel_rfl
def Tryz.k148 : KF := ⟨[(way 0)], (cSeq (cOps (oSet 2 (sV ((xC (.nilslice)))) fun v2 => oEnd))
 (cSeq (cSeq (cOps (oLet (sV ((xW 0))) fun v5 => oSet 6 (sL (lEq (.ptr true) (xC v5) (xC (.nilptr)))) fun v6 => oEnd))
 (cCond (xW 6) (cSeq (cOps (oSet 2 (sV ((xC (.nilslice)))) fun v2 => oEnd))
 cRet)
 cSkip))
 (cSeq (cSeq (cOps (oLet (sV ((xW 0))) fun v7 => oLet (sV (vNil (xC v7))) fun v8 => oLet (sV (vAddr 0 (xC v8))) fun v9 => oSet 10 (sL (lLoad none (xC v9))) fun v10 => oSet 11 (sV (vLen (xC v10))) fun v11 => oSet 12 (sV ((xC (.int .i64 0)))) fun v12 => oEnd))
 (cBlock 0 (cLoop (cSeq (cOps (oSet 13 (sV (vLt .i64 (xW 12) (xW 11))) fun v13 => oEnd))
 (cSeq (cCond (xW 13) cSkip
 (cExit 0))
 (cSeq (cBlock 1 (cSeq (cOps (oLet (sV (vIdx 7 (xW 10) (xW 12))) fun v14 => oLet (sL (lLoad (some 7) (xC v14))) fun v15 => oSet 4 (sN (aAlloc [.str [], .str [], .bool false, .bool false, .nilslice, .nilslice, .nilslice])) fun v4 => oDo (sM (tStore 7 (xC v4) (xC v15))) (oEnd)))
 (cOps (oLet (sV ((xW 2))) fun v16 => oLet (sV (vAddr 0 (xW 4))) fun v17 => oLet (sL (lLoad none (xC v17))) fun v18 => oLet (sN (aRow 1 1 [1] [(xC v18)])) fun v19 => oLet (sM (tAppend 16 1 (xC v16) (xC v19))) fun v20 => oSet 2 (sV ((xC v20))) fun v2 => oEnd))))
 (cOps (oLet (sV (vAdd .i64 (xW 12) (xC (.int .i64 1)))) fun v21 => oSet 12 (sV ((xC v21))) fun v12 => oEnd))))))))
 (cSeq (cOps (oLet (sV ((xW 2))) fun v22 => oSet 2 (sV ((xC v22))) fun v2 => oEnd))
 cRet)))), [.tmp (way 2)]⟩
theorem Tryz.k148_c : compF Tryz.prog [5, 7, 8, 9, 14, 15, 16, 17, 18, 19, 20, 21, 22] Tryz.f148 = some Tryz.k148 := by kernel_rfl
def Tryz.k149 : KF := ⟨[(way 0), (way 1)], (cSeq (cOps (oSet 4 (sN (aAlloc [.str [], .str [], .bool false, .bool false, .nilslice, .nilslice, .nilslice])) fun v4 => oSet 5 (sV ((xC (.bool false)))) fun v5 => oEnd))
 (cSeq (cOps (oLet (sV ((xW 0))) fun v6 => oLet (sV ((xW 1))) fun v7 => oLet (sC 54 [(xC v6), (xC v7)]) fun v8 => oLet (sV (vExtract 0 (xC v8))) fun v9 => oLet (sV (vExtract 1 (xC v8))) fun v10 => oDo (sM (tStore 7 (xW 4) (xC v9))) (oSet 5 (sV ((xC v10))) fun v5 => oEnd)))
 cRet)), [.cell (way 4) (some 7), .tmp (way 5)]⟩
theorem Tryz.k149_c : compF Tryz.prog [6, 7, 8, 9, 10] Tryz.f149 = some Tryz.k149 := by kernel_rfl
def Tryz.k150 : KF := ⟨[(way 0), (way 1), (way 2)], (cSeq (cOps (oSet 3 (sN (aBox (xW 0))) fun v3 => oSet 4 (sN (aBox (xW 1))) fun v4 => oSet 6 (sN (aAlloc [.int .i64 0, .int .i64 0, .nilslice, .int .i64 0, .int .i64 0, .int .i64 0, .int .i64 0, .str [], .str [], .str []])) fun v6 => oEnd))
 (cSeq (cOps (oLet (sV (vAddr 0 (xW 3))) fun v8 => oSee (seeL (lLoad none (xC v8))) fun q1 => oLet (sLo [] 0 (lLoad none (xC v8))) fun v9 => oLet (sL (lLoad (some 6) (xW 3))) fun v10 => oCap fun c3 => oLet (sC 173 [(xC v10)]) fun v11 => oCap fun d3 => oLate [q1] <| oLet (sV (vFill [.int .i64 0, .int .i64 0, .nilslice, .int .i64 0, .int .i64 0, .int .i64 0, .int .i64 0, .str [], .str [], .str []] [(0, 1), (1, 1), (3, 1), (4, 6)] [(xC v9), (xC (.int .i64 (-1))), (xC (.int .i64 (-1))), (xC v11)])) fun v12 => oSet 7 (sN (aAlloc [.int .i64 0, .int .i64 0, .nilslice, .int .i64 0, .int .i64 0, .int .i64 0, .int .i64 0, .str [], .str [], .str []])) fun v7 => oCap fun c6 => oDo (sM (tStore 10 (xC v7) (xC v12))) (oCap fun d6 => oEnd)))
 (cSeq (cSeq (cOps (oLet (sV ((xW 2))) fun v13 => oSet 14 (sV (vLt .i64 (xC v13) (xC (.int .i64 0)))) fun v14 => oEnd))
 (cCond (xW 14) (cSeq (cOps (oLet (sL (lLoad (some 10) (xW 7))) fun v15 => oDo (sM (tStore 10 (xW 6) (xC v15))) (oEnd)))
 cRet)
 cSkip))
 (cSeq (cOps (oLet (sL (lLoad (some 6) (xW 3))) fun v17 => oLet (sV (vAddr 5 (xW 4))) fun v18 => oLet (sL (lLoad none (xC v18))) fun v19 => oLet (sV ((xW 2))) fun v20 => oLet (sC 174 [(xC v17), (xC v19), (xC v20)]) fun v21 => oLet (sV (vExtract 0 (xC v21))) fun v22 => oLet (sV (vExtract 1 (xC v21))) fun v23 => oLet (sV (vAddr 2 (xW 7))) fun v24 => oDo (sM (tStore 1 (xC v24) (xC v22))) (oLet (sV (vAddr 1 (xW 7))) fun v25 => oDo (sM (tStore 1 (xC v25) (xC v23))) (oEnd))))
 (cSeq (cSeq (cOps (oLet (sV (vAddr 0 (xW 3))) fun v26 => oLet (sL (lLoad none (xC v26))) fun v27 => oSet 28 (sC 136 [(xC v27)]) fun v28 => oEnd))
 (cCond (xW 28) (cOps (oLet (sV (vAddr 1 (xW 3))) fun v29 => oLet (sL (lLoad none (xC v29))) fun v30 => oLet (sV (vAddr 3 (xW 7))) fun v31 => oDo (sM (tStore 1 (xC v31) (xC v30))) (oEnd)))
 cSkip))
 (cSeq (cOps (oLet (sL (lLoad (some 10) (xW 7))) fun v32 => oDo (sM (tStore 10 (xW 6) (xC v32))) (oEnd)))
 cRet)))))), [.cell (way 6) (some 10)]⟩
theorem Tryz.k150_c : compF Tryz.prog [8, 9, 10, 11, 12, 13, 15, 17, 18, 19, 20, 21, 16, 22, 23, 24, 25, 26, 27, 29, 30, 31, 32] Tryz.f150 = some Tryz.k150 := by kernel_rfl
def Tryz.k151 : KF := ⟨[(way 0), (way 1), (way 2)], (cSeq (cOps (oSet 3 (sN (aBox (xW 0))) fun v3 => oSet 4 (sV ((xC (.bool false)))) fun v4 => oEnd))
 (cSeq (cOps (oLet (sV (vAddr 0 (xW 3))) fun v5 => oLet (sL (lLoad none (xC v5))) fun v6 => oLet (sL (lLoad none (xW 1))) fun v7 => oLet (sV (vSEq (xC v6) (xC v7))) fun v8 => oLet (sG (xC v8) true (sV (vAddr 1 (xW 3)))) fun v10 => oLet (sG (xC v8) true (sL (lLoad none (xC v10)))) fun v11 => oLet (sG (xC v8) true (sL (lLoad none (xW 2)))) fun v12 => oLet (sG (xC v8) true (sV (vSEq (xC v11) (xC v12)))) fun v13 => oLet (sV (vPick (xC v8) (xC v13) (xC (.bool false)))) fun v14 => oSet 4 (sV ((xC v14))) fun v4 => oEnd))
 cRet)), [.tmp (way 4)]⟩
theorem Tryz.k151_c : compF Tryz.prog [5, 6, 7, 8, 9, 10, 11, 12, 13, 14] Tryz.f151 = some Tryz.k151 := by kernel_rfl
def Tryz.k152 : KF := ⟨[(way 0), (way 1)], (cSeq (cOps (oSet 4 (sV ((xC (.nilslice)))) fun v4 => oEnd))
 (cSeq (cOps (oLet (sV ((xW 0))) fun v7 => oLet (sV ((xW 1))) fun v8 => oLet (sC 175 [(xC v7), (xC v8)]) fun v9 => oSet 5 (sV ((xC v9))) fun v5 => oEnd))
 (cSeq (cSeq (cOps (oLet (sV ((xW 5))) fun v10 => oLet (sV (vLen (xC v10))) fun v11 => oLet (sV (vSub .i64 (xC v11) (xC (.int .i64 1)))) fun v12 => oSet 6 (sV ((xC v12))) fun v6 => oEnd))
 (cBlock 0 (cLoop (cSeq (cSeq (cOps (oLet (sV ((xW 6))) fun v13 => oSet 14 (sV (vGe .i64 (xC v13) (xC (.int .i64 0)))) fun v14 => oEnd))
 (cCond (xW 14) cSkip
 (cExit 0)))
 (cSeq (cBlock 1 (cSeq (cOps (oLet (sV ((xW 0))) fun v17 => oLet (sV ((xW 5))) fun v18 => oLet (sV ((xW 6))) fun v19 => oLet (sV (vIdx 1 (xC v18) (xC v19))) fun v20 => oLet (sL (lLoad none (xC v20))) fun v21 => oSet 22 (sC 176 [(xC v17), (xC v21)]) fun v22 => oEnd))
 (cCond (xW 22) (cOps (oLet (sV ((xW 4))) fun v23 => oLet (sV ((xW 5))) fun v24 => oLet (sV ((xW 6))) fun v25 => oLet (sV (vIdx 1 (xC v24) (xC v25))) fun v26 => oLet (sL (lLoad none (xC v26))) fun v27 => oLet (sN (aRow 1 1 [1] [(xC v27)])) fun v28 => oLet (sM (tAppend 16 1 (xC v23) (xC v28))) fun v29 => oSet 4 (sV ((xC v29))) fun v4 => oEnd))
 cSkip)))
 (cOps (oLet (sV ((xW 6))) fun v15 => oLet (sV (vSub .i64 (xC v15) (xC (.int .i64 1)))) fun v16 => oSet 6 (sV ((xC v16))) fun v6 => oEnd)))))))
 (cSeq (cOps (oLet (sV ((xW 4))) fun v30 => oSet 4 (sV ((xC v30))) fun v4 => oEnd))
 cRet)))), [.tmp (way 4)]⟩
theorem Tryz.k152_c : compF Tryz.prog [7, 8, 9, 10, 11, 12, 13, 17, 18, 19, 20, 21, 23, 24, 25, 26, 27, 28, 29, 15, 16, 30] Tryz.f152 = some Tryz.k152 := by kernel_rfl
def Tryz.k154 : KF := ⟨[(way 0)], (cSeq (cOps (oSet 1 (sN (aBox (xW 0))) fun v1 => oSet 2 (sV ((xC (.nilfunc)))) fun v2 => oEnd))
 (cSeq (cOps (oLet (sV (vFunc 179 [(xW 1)])) fun v3 => oSet 2 (sV ((xC v3))) fun v2 => oEnd))
 cRet)), [.tmp (way 2)]⟩
theorem Tryz.k154_c : compF Tryz.prog [3] Tryz.f154 = some Tryz.k154 := by kernel_rfl
def Tryz.k156 : KF := ⟨[(way 0)], (cSeq (cOps (oSet 2 (sV ((xC (.nilslice)))) fun v2 => oEnd))
 (cSeq (cSeq (cOps (oLet (sV ((xW 0))) fun v6 => oLet (sV (vLen (xC v6))) fun v7 => oSet 8 (sV (vLt .i64 (xC v7) (xC (.int .i64 2)))) fun v8 => oEnd))
 (cCond (xW 8) (cSeq (cOps (oLet (sV ((xW 0))) fun v9 => oSet 2 (sV ((xC v9))) fun v2 => oEnd))
 cRet)
 cSkip))
 (cSeq (cSeq (cOps (oSet 3 (sV ((xC (.int .i64 1)))) fun v3 => oEnd))
 (cBlock 0 (cLoop (cSeq (cSeq (cOps (oLet (sV ((xW 3))) fun v10 => oLet (sV ((xW 0))) fun v11 => oLet (sV (vLen (xC v11))) fun v12 => oSet 13 (sV (vLt .i64 (xC v10) (xC v12))) fun v13 => oEnd))
 (cCond (xW 13) cSkip
 (cExit 0)))
 (cSeq (cBlock 1 (cSeq (cOps (oLet (sV ((xW 0))) fun v16 => oLet (sV ((xW 3))) fun v17 => oLet (sV (vIdx 3 (xC v16) (xC v17))) fun v18 => oLet (sL (lLoad (some 3) (xC v18))) fun v19 => oLet (sV (vSub .i64 (xC v17) (xC (.int .i64 1)))) fun v22 => oLet (sV (vIdx 3 (xC v16) (xC v22))) fun v23 => oLet (sL (lLoad (some 3) (xC v23))) fun v24 => oSet 25 (sL (lEq (.struct [.str, .int, .str]) (xC v19) (xC v24))) fun v25 => oEnd))
 (cCond (xW 25) (cSeq (cOps (oLet (sV ((xW 0))) fun v26 => oLet (sV ((xW 3))) fun v27 => oLet (sV (vSlice 3 (xC v26) [(xC v27)] [] [])) fun v28 => oSet 4 (sV ((xC v28))) fun v4 => oEnd))
 (cSeq (cSeq (cOps (oSet 5 (sV ((xC (.int .i64 1)))) fun v5 => oEnd))
 (cBlock 2 (cLoop (cSeq (cSeq (cOps (oLet (sV ((xW 5))) fun v29 => oLet (sV ((xW 4))) fun v30 => oLet (sV (vLen (xC v30))) fun v31 => oSet 32 (sV (vLt .i64 (xC v29) (xC v31))) fun v32 => oEnd))
 (cCond (xW 32) cSkip
 (cExit 2)))
 (cSeq (cBlock 3 (cSeq (cOps (oLet (sV ((xW 4))) fun v35 => oLet (sV ((xW 5))) fun v36 => oLet (sV (vIdx 3 (xC v35) (xC v36))) fun v37 => oLet (sL (lLoad (some 3) (xC v37))) fun v38 => oLet (sV (vSub .i64 (xC v36) (xC (.int .i64 1)))) fun v41 => oLet (sV (vIdx 3 (xC v35) (xC v41))) fun v42 => oLet (sL (lLoad (some 3) (xC v42))) fun v43 => oSet 44 (sL (lNe (.struct [.str, .int, .str]) (xC v38) (xC v43))) fun v44 => oEnd))
 (cCond (xW 44) (cSeq (cOps (oLet (sV ((xW 0))) fun v45 => oLet (sV ((xW 3))) fun v46 => oLet (sV ((xW 4))) fun v47 => oLet (sV ((xW 5))) fun v48 => oLet (sV (vIdx 3 (xC v47) (xC v48))) fun v49 => oLet (sL (lLoad (some 3) (xC v49))) fun v50 => oLet (sV (vIdx 3 (xC v45) (xC v46))) fun v51 => oDo (sM (tStore 3 (xC v51) (xC v50))) (oEnd)))
 (cOps (oLet (sV ((xW 3))) fun v52 => oLet (sV (vAdd .i64 (xC v52) (xC (.int .i64 1)))) fun v53 => oSet 3 (sV ((xC v53))) fun v3 => oEnd)))
 cSkip)))
 (cOps (oLet (sV ((xW 5))) fun v33 => oLet (sV (vAdd .i64 (xC v33) (xC (.int .i64 1)))) fun v34 => oSet 5 (sV ((xC v34))) fun v5 => oEnd)))))))
 (cSeq (cOps (oLet (sV ((xW 0))) fun v54 => oLet (sV ((xW 3))) fun v55 => oLet (sV (vSlice 3 (xC v54) [(xC v55)] [] [])) fun v56 => oNo))
 (cSeq (cOps (oLet (sV ((xW 0))) fun v57 => oLet (sV ((xW 3))) fun v58 => oLet (sV (vSlice 3 (xC v57) [] [(xC v58)] [])) fun v59 => oSet 2 (sV ((xC v59))) fun v2 => oEnd))
 cRet))))
 cSkip)))
 (cOps (oLet (sV ((xW 3))) fun v14 => oLet (sV (vAdd .i64 (xC v14) (xC (.int .i64 1)))) fun v15 => oSet 3 (sV ((xC v15))) fun v3 => oEnd)))))))
 (cSeq (cOps (oLet (sV ((xW 0))) fun v60 => oSet 2 (sV ((xC v60))) fun v2 => oEnd))
 cRet)))), [.tmp (way 2)]⟩
theorem Tryz.k156_c : compF Tryz.prog [6, 7, 9, 10, 11, 12, 16, 17, 18, 19, 20, 21, 22, 23, 24, 26, 27, 28, 29, 30, 31, 35, 36, 37, 38, 39, 40, 41, 42, 43, 45, 46, 47, 48, 49, 50, 51, 52, 53, 33, 34, 54, 55, 56, 57, 58, 59, 14, 15, 60] Tryz.f156 = some Tryz.k156 := by kernel_rfl
end
end Go.Proofs
