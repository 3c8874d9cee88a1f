/- What functions of the program are compiled to, and that they are. -/
import Derived.Test.YtcfknlkgnolndaaGreatDoorSh11
import Derived.Test.YtcfknlkgnolndaaGreatDoorProg
import Derived.KernelRfl
set_option linter.unusedVariables false
set_option linter.unusedSimpArgs false
set_option linter.unusedSectionVars false
namespace Go.Proofs
open Go.Sh
noncomputable section
set_option linter.unusedVariables false
def Tryz.k101 : KF := ⟨[(way 0)], (cSeq (cOps (oSet 2 (sV ((xC (.nilslice)))) fun v2 => oEnd))
 (cSeq (cSeq (cOps (oLet (sV ((xW 0))) fun v3 => oSet 4 (sL (lEq .slice (xC v3) (xC (.nilslice)))) fun v4 => oEnd))
 (cCond (xW 4) (cSeq (cOps (oSet 2 (sV ((xC (.nilslice)))) fun v2 => oEnd))
 cRet)
 cSkip))
 (cSeq (cOps (oLet (sN (aRow 0 1 [] [])) fun v5 => oLet (sV ((xW 0))) fun v6 => oLet (sM (tAppend 1 1 (xC v5) (xC v6))) fun v7 => oSet 2 (sV ((xC v7))) fun v2 => oEnd))
 cRet))), [.tmp (way 2)]⟩
theorem Tryz.k101_c : compF Tryz.prog [3, 5, 6, 7] Tryz.f101 = some Tryz.k101 := by kernel_rfl
def Tryz.k102 : KF := ⟨[(way 0), (way 1)], (cSeq (cOps (oSet 4 (sV ((xC (.int .i64 0)))) fun v4 => oEnd))
 (cSeq (cOps (oLet (sV ((xW 0))) fun v10 => oLet (sV ((xW 1))) fun v11 => oLet (sC 103 [(xC v10)]) fun v13 => oLet (sC 104 [(xC v10), (xC v11), (xC v13)]) fun v14 => oLet (sV (vExtract 0 (xC v14))) fun v15 => oLet (sV (vExtract 1 (xC v14))) fun v16 => oSet 5 (sV ((xC v15))) fun v5 => oEnd))
 (cSeq (cSeq (cOps (oSet 17 (sV ((xW 5))) fun v17 => oSet 18 (sV (vLen (xC v17))) fun v18 => oSet 19 (sV ((xC (.int .i64 0)))) fun v19 => oEnd))
 (cBlock 0 (cLoop (cSeq (cOps (oSet 20 (sV (vLt .i64 (xW 19) (xW 18))) fun v20 => oEnd))
 (cSeq (cCond (xW 20) cSkip
 (cExit 0))
 (cSeq (cBlock 1 (cSeq (cOps (oLet (sV (vIdx 1 (xW 17) (xW 19))) fun v21 => oLet (sL (lLoad none (xC v21))) fun v22 => oSet 8 (sV ((xC v22))) fun v8 => oEnd))
 (cOps (oLet (sV ((xW 4))) fun v23 => oLet (sV (vSh .shl .i64 (xC v23) (xC (.int .u64 8)))) fun v24 => oLet (sV ((xW 8))) fun v25 => oLet (sV (vToI .i64 (xC v25))) fun v26 => oLet (sV (vAr .or .i64 (xC v24) (xC v26))) fun v27 => oSet 4 (sV ((xC v27))) fun v4 => oEnd))))
 (cOps (oLet (sV (vAdd .i64 (xW 19) (xC (.int .i64 1)))) fun v28 => oSet 19 (sV ((xC v28))) fun v19 => oEnd))))))))
 (cSeq (cOps (oLet (sV ((xW 4))) fun v29 => oSet 4 (sV ((xC v29))) fun v4 => oEnd))
 cRet)))), [.tmp (way 4)]⟩
theorem Tryz.k102_c : compF Tryz.prog [10, 11, 12, 13, 14, 9, 15, 16, 6, 21, 22, 23, 24, 25, 26, 27, 28, 29] Tryz.f102 = some Tryz.k102 := by kernel_rfl
def Tryz.k103 : KF := ⟨[(way 0)], (cSeq (cOps (oSet 2 (sV ((xC (.int .i64 0)))) fun v2 => oEnd))
 (cSeq (cSeq (cOps (oLet (sV ((xW 0))) fun v3 => oSet 4 (sL (lEq (.ptr true) (xC v3) (xC (.nilptr)))) fun v4 => oEnd))
 (cCond (xW 4) (cSeq (cOps (oSet 2 (sV ((xC (.int .i64 0)))) fun v2 => oEnd))
 cRet)
 cSkip))
 (cSeq (cOps (oLet (sV ((xW 0))) fun v5 => oLet (sV (vNil (xC v5))) fun v6 => oLet (sV (vAddr 1 (xC v6))) fun v7 => oLet (sL (lLoad none (xC v7))) fun v8 => oSet 2 (sV ((xC v8))) fun v2 => oEnd))
 cRet))), [.tmp (way 2)]⟩
theorem Tryz.k103_c : compF Tryz.prog [3, 5, 6, 7, 8] Tryz.f103 = some Tryz.k103 := by kernel_rfl
def Tryz.k104 : KF := ⟨[(way 0), (way 1), (way 2)], (cSeq (cOps (oSet 6 (sV ((xC (.nilslice)))) fun v6 => oSet 7 (sV ((xC (.bool false)))) fun v7 => oEnd))
 (cScope (cSeq (cSeq (cOps (oLet (sV ((xW 0))) fun v8 => oLet (sL (lEq (.ptr true) (xC v8) (xC (.nilptr)))) fun v9 => oLet (sG (xC v9) false (sV ((xC v8)))) fun v11 => oLet (sG (xC v9) false (sV (vNil (xC v11)))) fun v12 => oLet (sG (xC v9) false (sV (vAddr 2 (xC v12)))) fun v13 => oLet (sG (xC v9) false (sL (lLoad none (xC v13)))) fun v14 => oSet 15 (sV (vPick (xC v9) (xC (.bool true)) (xC v14))) fun v15 => oEnd))
 (cCond (xW 15) (cGoto 0)
 cSkip))
 (cSeq (cSeq (cOps (oLet (sV ((xW 1))) fun v16 => oLet (sV ((xW 0))) fun v17 => oLet (sV (vNil (xC v17))) fun v18 => oLet (sV (vAddr 0 (xC v18))) fun v19 => oLet (sL (lLoad none (xC v19))) fun v20 => oLet (sV (vLen (xC v20))) fun v21 => oLet (sV (vNil (xC v17))) fun v23 => oLet (sV (vAddr 1 (xC v23))) fun v24 => oLet (sL (lLoad none (xC v24))) fun v25 => oLet (sV (vSub .i64 (xC v21) (xC v25))) fun v26 => oSet 27 (sV (vGt .i64 (xC v16) (xC v26))) fun v27 => oEnd))
 (cCond (xW 27) (cSeq (cOps (oLet (sV ((xW 0))) fun v28 => oLet (sV ((xW 2))) fun v30 => oLet (sV (vNil (xC v28))) fun v31 => oLet (sV (vAddr 2 (xC v31))) fun v32 => oDo (sM (tStore 1 (xC v32) (xC (.bool true)))) (oLet (sV (vNil (xC v28))) fun v33 => oLet (sV (vAddr 1 (xC v33))) fun v34 => oDo (sM (tStore 1 (xC v34) (xC v30))) (oEnd))))
 (cGoto 0))
 cSkip))
 (cSeq (cOps (oLet (sV ((xW 0))) fun v35 => oLet (sV (vNil (xC v35))) fun v36 => oLet (sV (vAddr 0 (xC v36))) fun v37 => oLet (sL (lLoad none (xC v37))) fun v38 => oLet (sV (vNil (xC v35))) fun v40 => oLet (sV (vAddr 1 (xC v40))) fun v41 => oLet (sL (lLoad none (xC v41))) fun v42 => oLet (sV (vNil (xC v35))) fun v44 => oLet (sV (vAddr 1 (xC v44))) fun v45 => oLet (sL (lLoad none (xC v45))) fun v46 => oLet (sV ((xW 1))) fun v47 => oLet (sV (vAdd .i64 (xC v46) (xC v47))) fun v48 => oLet (sV (vSlice 1 (xC v38) [(xC v42)] [(xC v48)] [])) fun v49 => oSet 6 (sV ((xC v49))) fun v6 => oEnd))
 (cSeq (cOps (oLet (sV ((xW 0))) fun v50 => oLet (sV (vNil (xC v50))) fun v51 => oLet (sV (vAddr 1 (xC v51))) fun v52 => oLet (sL (lLoad none (xC v52))) fun v53 => oLet (sV ((xW 1))) fun v54 => oLet (sV (vAdd .i64 (xC v53) (xC v54))) fun v55 => oLet (sV (vNil (xC v50))) fun v56 => oLet (sV (vAddr 1 (xC v56))) fun v57 => oDo (sM (tStore 1 (xC v57) (xC v55))) (oEnd)))
 (cSeq (cSeq (cOps (oLet (sV ((xW 6))) fun v58 => oSet 6 (sV ((xC v58))) fun v6 => oSet 7 (sV ((xC (.bool true)))) fun v7 => oEnd))
 cRet)
 (cSeq cSkip
 (cSeq (cOps (oSet 6 (sV ((xC (.nilslice)))) fun v6 => oSet 7 (sV ((xC (.bool false)))) fun v7 => oEnd))
 cRet))))))) [(0, (cSeq cSkip
 (cSeq (cOps (oSet 6 (sV ((xC (.nilslice)))) fun v6 => oSet 7 (sV ((xC (.bool false)))) fun v7 => oEnd))
 cRet)))])), [.tmp (way 6), .tmp (way 7)]⟩
theorem Tryz.k104_c : compF Tryz.prog [8, 9, 10, 11, 12, 13, 14, 16, 17, 18, 19, 20, 21, 22, 23, 24, 25, 26, 28, 29, 30, 31, 32, 33, 34, 35, 36, 37, 38, 39, 40, 41, 42, 43, 44, 45, 46, 47, 48, 49, 50, 51, 52, 53, 54, 55, 56, 57, 58] Tryz.f104 = some Tryz.k104 := by kernel_rfl
def Tryz.k105 : KF := ⟨[(way 0)], (cSeq (cOps (oSet 2 (sV ((xC (.int .i64 0)))) fun v2 => oSet 3 (sV ((xC (.int .i64 0)))) fun v3 => oEnd))
 (cSeq (cSeq (cOps (oLet (sV ((xW 0))) fun v4 => oLet (sL (lEq (.ptr true) (xC v4) (xC (.nilptr)))) fun v5 => oLet (sG (xC v5) false (sV ((xC v4)))) fun v7 => oLet (sG (xC v5) false (sV (vNil (xC v7)))) fun v8 => oLet (sG (xC v5) false (sV (vAddr 2 (xC v8)))) fun v9 => oLet (sG (xC v5) false (sL (lLoad none (xC v9)))) fun v10 => oLet (sG (xC v5) false (sV (vUn .not (xC v10)))) fun v11 => oSet 12 (sV (vPick (xC v5) (xC (.bool true)) (xC v11))) fun v12 => oEnd))
 (cCond (xW 12) (cSeq (cOps (oSet 2 (sV ((xC (.int .i64 0)))) fun v2 => oSet 3 (sV ((xC (.int .i64 0)))) fun v3 => oEnd))
 cRet)
 cSkip))
 (cSeq (cOps (oLet (sV ((xW 0))) fun v13 => oLet (sV (vNil (xC v13))) fun v14 => oLet (sV (vAddr 1 (xC v14))) fun v15 => oLet (sL (lLoad none (xC v15))) fun v16 => oSet 2 (sV ((xC (.int .i64 2)))) fun v2 => oSet 3 (sV ((xC v16))) fun v3 => oEnd))
 cRet))), [.tmp (way 2), .tmp (way 3)]⟩
theorem Tryz.k105_c : compF Tryz.prog [4, 5, 6, 7, 8, 9, 10, 11, 13, 14, 15, 16] Tryz.f105 = some Tryz.k105 := by kernel_rfl
def Tryz.k109 : KF := ⟨[(way 0), (way 1)], (cSeq (cOps (oSet 4 (sV ((xC (.int .i64 0)))) fun v4 => oEnd))
 (cSeq (cSeq (cOps (oLet (sV ((xW 0))) fun v6 => oSet 7 (sV (vLen (xC v6))) fun v7 => oSet 8 (sV ((xC (.int .i64 0)))) fun v8 => oEnd))
 (cBlock 0 (cLoop (cSeq (cOps (oSet 9 (sV (vLt .i64 (xW 8) (xW 7))) fun v9 => oEnd))
 (cSeq (cCond (xW 9) cSkip
 (cExit 0))
 (cSeq (cBlock 1 (cSeq (cOps (oLet (sV ((xW 8))) fun v10 => oSet 5 (sV ((xC v10))) fun v5 => oEnd))
 (cSeq (cOps (oLet (sV ((xW 1))) fun v11 => oLet (sV ((xW 0))) fun v12 => oLet (sV ((xW 5))) fun v13 => oLet (sV (vIdx 7 (xC v12) (xC v13))) fun v14 => oLet (sL (lLoad (some 7) (xC v14))) fun v15 => oSet 16 (sX (xC v11) [(xC v15)]) fun v16 => oEnd))
 (cCond (xW 16) (cSeq (cOps (oLet (sV ((xW 5))) fun v17 => oSet 4 (sV ((xC v17))) fun v4 => oEnd))
 cRet)
 cSkip))))
 (cOps (oLet (sV (vAdd .i64 (xW 8) (xC (.int .i64 1)))) fun v18 => oSet 8 (sV ((xC v18))) fun v8 => oEnd))))))))
 (cSeq (cOps (oSet 4 (sV ((xC (.int .i64 (-1))))) fun v4 => oEnd))
 cRet))), [.tmp (way 4)]⟩
theorem Tryz.k109_c : compF Tryz.prog [6, 10, 11, 12, 13, 14, 15, 17, 18] Tryz.f109 = some Tryz.k109 := by kernel_rfl
def Tryz.k112 : KF := ⟨[(way 0)], (cSeq (cOps (oSet 2 (sV ((xC (.bool false)))) fun v2 => oEnd))
 (cSeq (cSeq (cOps (oSet 3 (sV ((xC (.int .i64 0)))) fun v3 => oEnd))
 (cBlock 0 (cLoop (cSeq (cSeq (cOps (oLet (sV ((xW 3))) fun v6 => oLet (sV ((xW 0))) fun v7 => oLet (sV (vLenS (xC v7))) fun v8 => oSet 9 (sV (vLt .i64 (xC v6) (xC v8))) fun v9 => oEnd))
 (cCond (xW 9) cSkip
 (cExit 0)))
 (cSeq (cBlock 1 (cSeq (cOps (oLet (sV ((xW 0))) fun v12 => oLet (sV ((xW 3))) fun v13 => oLet (sV (vIdxS (xC v12) (xC v13))) fun v14 => oSet 4 (sV ((xC v14))) fun v4 => oEnd))
 (cSeq (cOps (oLet (sV ((xW 4))) fun v15 => oLet (sV (vGe .u8 (xC v15) (xC (.int .u8 97)))) fun v16 => oLet (sG (xC v16) true (sV ((xC v15)))) fun v18 => oLet (sG (xC v16) true (sV (vLe .u8 (xC v18) (xC (.int .u8 122))))) fun v19 => oLet (sV (vPick (xC v16) (xC v19) (xC (.bool false)))) fun v20 => oLet (sG (xC v20) false (sV ((xC v15)))) fun v22 => oLet (sG (xC v20) false (sV (vGe .u8 (xC v22) (xC (.int .u8 65))))) fun v23 => oLet (sG (xC v20) false (sV ((xC v23)))) fun v24 => oLet (sG (xC v24) true (sV ((xC v15)))) fun v25 => oLet (sG (xC v24) true (sV (vLe .u8 (xC v25) (xC (.int .u8 90))))) fun v26 => oLet (sG (xC v20) false (sV (vPick (xC v24) (xC v26) (xC (.bool false))))) fun v27 => oLet (sV (vPick (xC v20) (xC (.bool true)) (xC v27))) fun v28 => oLet (sG (xC v28) false (sV ((xC v15)))) fun v30 => oLet (sG (xC v28) false (sV (vEq .u8 (xC v30) (xC (.int .u8 95))))) fun v31 => oLet (sV (vPick (xC v28) (xC (.bool true)) (xC v31))) fun v32 => oSet 5 (sV ((xC v32))) fun v5 => oEnd))
 (cSeq (cOps (oLet (sV ((xW 5))) fun v33 => oLet (sV (vUn .not (xC v33))) fun v34 => oLet (sG (xC v34) true (sV ((xW 3)))) fun v36 => oLet (sG (xC v34) true (sV (vEq .i64 (xC v36) (xC (.int .i64 0))))) fun v37 => oLet (sG (xC v34) true (sV ((xC v37)))) fun v38 => oLet (sG (xC v38) false (sV ((xW 4)))) fun v39 => oLet (sG (xC v38) false (sV (vLt .u8 (xC v39) (xC (.int .u8 48))))) fun v40 => oLet (sG (xC v34) true (sV (vPick (xC v38) (xC (.bool true)) (xC v40)))) fun v41 => oLet (sG (xC v34) true (sV ((xC v41)))) fun v42 => oLet (sG (xC v42) false (sV ((xW 4)))) fun v43 => oLet (sG (xC v42) false (sV (vGt .u8 (xC v43) (xC (.int .u8 57))))) fun v44 => oLet (sG (xC v34) true (sV (vPick (xC v42) (xC (.bool true)) (xC v44)))) fun v45 => oSet 46 (sV (vPick (xC v34) (xC v45) (xC (.bool false)))) fun v46 => oEnd))
 (cCond (xW 46) (cSeq (cOps (oSet 2 (sV ((xC (.bool false)))) fun v2 => oEnd))
 cRet)
 cSkip)))))
 (cOps (oLet (sV ((xW 3))) fun v10 => oLet (sV (vAdd .i64 (xC v10) (xC (.int .i64 1)))) fun v11 => oSet 3 (sV ((xC v11))) fun v3 => oEnd)))))))
 (cSeq (cOps (oLet (sV ((xW 0))) fun v47 => oLet (sV (vLenS (xC v47))) fun v48 => oLet (sV (vGe .i64 (xC v48) (xC (.int .i64 1)))) fun v49 => oLet (sG (xC v49) true (sV ((xC v47)))) fun v51 => oLet (sG (xC v49) true (sV (vLenS (xC v51)))) fun v52 => oLet (sG (xC v49) true (sV (vLe .i64 (xC v52) (xC (.int .i64 30))))) fun v53 => oLet (sV (vPick (xC v49) (xC v53) (xC (.bool false)))) fun v54 => oSet 2 (sV ((xC v54))) fun v2 => oEnd))
 cRet))), [.tmp (way 2)]⟩
theorem Tryz.k112_c : compF Tryz.prog [6, 7, 8, 12, 13, 14, 15, 16, 17, 18, 19, 20, 21, 22, 23, 24, 25, 26, 27, 28, 29, 30, 31, 32, 33, 34, 35, 36, 37, 38, 39, 40, 41, 42, 43, 44, 45, 10, 11, 47, 48, 49, 50, 51, 52, 53, 54] Tryz.f112 = some Tryz.k112 := by kernel_rfl
def Tryz.k114 : KF := ⟨[(way 0)], (cSeq (cOps (oSet 1 (sN (aBox (xW 0))) fun v1 => oSet 2 (sV ((xC (.int .i64 0)))) fun v2 => oEnd))
 (cSeq (cOps (oLet (sV (vAddr 1 (xW 1))) fun v12 => oLet (sL (lLoad none (xC v12))) fun v13 => oLet (sC 163 [(xC v13)]) fun v14 => oLet (sV (vExtract 0 (xC v14))) fun v15 => oLet (sV (vExtract 1 (xC v14))) fun v16 => oLet (sV (vExtract 2 (xC v14))) fun v17 => oSet 3 (sV ((xC v15))) fun v3 => oSet 4 (sV ((xC v16))) fun v4 => oSet 5 (sV ((xC v17))) fun v5 => oEnd))
 (cSeq (cSeq (cOps (oLet (sV (vAddr 0 (xW 1))) fun v18 => oLet (sL (lLoad none (xC v18))) fun v19 => oLet (sC 164 [(xC v19)]) fun v20 => oLet (sV (vUn .not (xC v20))) fun v21 => oLet (sG (xC v21) false (sV ((xW 5)))) fun v23 => oLet (sG (xC v21) false (sV (vNe .i64 (xC v23) (xC (.int .i64 0))))) fun v24 => oLet (sV (vPick (xC v21) (xC (.bool true)) (xC v24))) fun v25 => oLet (sG (xC v25) false (sV (vAddr 0 (xW 1)))) fun v27 => oLet (sG (xC v25) false (sL (lLoad none (xC v27)))) fun v28 => oLet (sG (xC v25) false (sV (vSEq (xC v28) (xC (.str [60, 99, 108, 105, 110, 105, 116, 62]))))) fun v29 => oLet (sG (xC v25) false (sV ((xC v29)))) fun v30 => oLet (sG (xC v30) true (sV (vAddr 2 (xW 1)))) fun v31 => oLet (sG (xC v30) true (sL (lLoad none (xC v31)))) fun v32 => oLet (sG (xC v30) true (sV (vUn .not (xC v32)))) fun v33 => oLet (sG (xC v30) true (sV ((xC v33)))) fun v34 => oLet (sG (xC v34) false (sV (vAddr 1 (xW 1)))) fun v35 => oLet (sG (xC v34) false (sL (lLoad none (xC v35)))) fun v36 => oLet (sG (xC v34) false (sV (vSNe (xC v36) (xC (.str [40, 41, 86]))))) fun v37 => oLet (sG (xC v30) true (sV (vPick (xC v34) (xC (.bool true)) (xC v37)))) fun v38 => oLet (sG (xC v25) false (sV (vPick (xC v30) (xC v38) (xC (.bool false))))) fun v39 => oLet (sV (vPick (xC v25) (xC (.bool true)) (xC v39))) fun v40 => oLet (sG (xC v40) false (sV (vAddr 0 (xW 1)))) fun v42 => oLet (sG (xC v40) false (sL (lLoad none (xC v42)))) fun v43 => oLet (sG (xC v40) false (sV (vSEq (xC v43) (xC (.str [60, 105, 110, 105, 116, 62]))))) fun v44 => oLet (sG (xC v40) false (sV ((xC v44)))) fun v45 => oLet (sG (xC v45) true (sV (vAddr 2 (xW 1)))) fun v46 => oLet (sG (xC v45) true (sL (lLoad none (xC v46)))) fun v47 => oLet (sG (xC v45) true (sV ((xC v47)))) fun v48 => oLet (sG (xC v48) false (sV (vAddr 3 (xW 1)))) fun v49 => oLet (sG (xC v48) false (sL (lLoad none (xC v49)))) fun v50 => oLet (sG (xC v45) true (sV (vPick (xC v48) (xC (.bool true)) (xC v50)))) fun v51 => oLet (sG (xC v45) true (sV ((xC v51)))) fun v52 => oLet (sG (xC v52) false (sV ((xW 4)))) fun v53 => oLet (sG (xC v52) false (sV (vSNe (xC v53) (xC (.str [86]))))) fun v54 => oLet (sG (xC v45) true (sV (vPick (xC v52) (xC (.bool true)) (xC v54)))) fun v55 => oLet (sG (xC v40) false (sV (vPick (xC v45) (xC v55) (xC (.bool false))))) fun v56 => oSet 57 (sV (vPick (xC v40) (xC (.bool true)) (xC v56))) fun v57 => oEnd))
 (cCond (xW 57) (cSeq (cOps (oSet 2 (sV ((xC (.int .i64 6)))) fun v2 => oEnd))
 cRet)
 cSkip))
 (cSeq (cSeq (cOps (oLet (sV (vAddr 4 (xW 1))) fun v58 => oLet (sL (lLoad none (xC v58))) fun v59 => oLet (sV (vLt .i64 (xC v59) (xC (.int .i64 0)))) fun v60 => oLet (sG (xC v60) false (sV (vAddr 4 (xW 1)))) fun v62 => oLet (sG (xC v60) false (sL (lLoad none (xC v62)))) fun v63 => oLet (sG (xC v60) false (sV (vGt .i64 (xC v63) (xC (.int .i64 20))))) fun v64 => oLet (sV (vPick (xC v60) (xC (.bool true)) (xC v64))) fun v65 => oLet (sG (xC v65) false (sV (vAddr 5 (xW 1)))) fun v67 => oLet (sG (xC v65) false (sL (lLoad none (xC v67)))) fun v68 => oLet (sG (xC v65) false (sV (vLt .i64 (xC v68) (xC (.int .i64 0))))) fun v69 => oLet (sV (vPick (xC v65) (xC (.bool true)) (xC v69))) fun v70 => oLet (sG (xC v70) false (sV (vAddr 5 (xW 1)))) fun v72 => oLet (sG (xC v70) false (sL (lLoad none (xC v72)))) fun v73 => oLet (sG (xC v70) false (sV (vGt .i64 (xC v73) (xC (.int .i64 20))))) fun v74 => oLet (sV (vPick (xC v70) (xC (.bool true)) (xC v74))) fun v75 => oLet (sG (xC v75) false (sV (vAddr 6 (xW 1)))) fun v77 => oLet (sG (xC v75) false (sL (lLoad none (xC v77)))) fun v78 => oLet (sG (xC v75) false (sV (vLen (xC v78)))) fun v79 => oLet (sG (xC v75) false (sV (vGt .i64 (xC v79) (xC (.int .i64 200))))) fun v80 => oLet (sV (vPick (xC v75) (xC (.bool true)) (xC v80))) fun v81 => oLet (sG (xC v81) false (sV (vAddr 7 (xW 1)))) fun v83 => oLet (sG (xC v81) false (sL (lLoad none (xC v83)))) fun v84 => oLet (sG (xC v81) false (sV (vLen (xC v84)))) fun v85 => oLet (sG (xC v81) false (sV (vGt .i64 (xC v85) (xC (.int .i64 20))))) fun v86 => oSet 87 (sV (vPick (xC v81) (xC (.bool true)) (xC v86))) fun v87 => oEnd))
 (cCond (xW 87) (cSeq (cOps (oSet 2 (sV ((xC (.int .i64 5)))) fun v2 => oEnd))
 cRet)
 cSkip))
 (cSeq (cSeq (cOps (oLet (sV (vAddr 3 (xW 1))) fun v88 => oSet 89 (sL (lLoad none (xC v88))) fun v89 => oEnd))
 (cCond (xW 89) (cSeq (cSeq (cOps (oLet (sV (vAddr 2 (xW 1))) fun v90 => oLet (sL (lLoad none (xC v90))) fun v91 => oLet (sG (xC v91) false (sV (vAddr 4 (xW 1)))) fun v93 => oLet (sG (xC v91) false (sL (lLoad none (xC v93)))) fun v94 => oLet (sG (xC v91) false (sV (vNe .i64 (xC v94) (xC (.int .i64 0))))) fun v95 => oLet (sV (vPick (xC v91) (xC (.bool true)) (xC v95))) fun v96 => oLet (sG (xC v96) false (sV (vAddr 5 (xW 1)))) fun v98 => oLet (sG (xC v96) false (sL (lLoad none (xC v98)))) fun v99 => oLet (sG (xC v96) false (sV (vNe .i64 (xC v99) (xC (.int .i64 0))))) fun v100 => oLet (sV (vPick (xC v96) (xC (.bool true)) (xC v100))) fun v101 => oLet (sG (xC v101) false (sV (vAddr 6 (xW 1)))) fun v103 => oLet (sG (xC v101) false (sL (lLoad none (xC v103)))) fun v104 => oLet (sG (xC v101) false (sV (vLen (xC v104)))) fun v105 => oLet (sG (xC v101) false (sV (vGt .i64 (xC v105) (xC (.int .i64 0))))) fun v106 => oLet (sV (vPick (xC v101) (xC (.bool true)) (xC v106))) fun v107 => oLet (sG (xC v107) false (sV (vAddr 7 (xW 1)))) fun v109 => oLet (sG (xC v107) false (sL (lLoad none (xC v109)))) fun v110 => oLet (sG (xC v107) false (sV (vLen (xC v110)))) fun v111 => oLet (sG (xC v107) false (sV (vGt .i64 (xC v111) (xC (.int .i64 0))))) fun v112 => oSet 113 (sV (vPick (xC v107) (xC (.bool true)) (xC v112))) fun v113 => oEnd))
 (cCond (xW 113) (cSeq (cOps (oSet 2 (sV ((xC (.int .i64 7)))) fun v2 => oEnd))
 cRet)
 cSkip))
 (cSeq (cOps (oSet 2 (sV ((xC (.int .i64 0)))) fun v2 => oEnd))
 cRet))
 cSkip))
 (cSeq (cSeq (cOps (oLet (sV (vAddr 6 (xW 1))) fun v114 => oLet (sL (lLoad none (xC v114))) fun v115 => oLet (sV (vLen (xC v115))) fun v116 => oSet 117 (sV (vEq .i64 (xC v116) (xC (.int .i64 0)))) fun v117 => oEnd))
 (cCond (xW 117) (cSeq (cOps (oSet 2 (sV ((xC (.int .i64 7)))) fun v2 => oEnd))
 cRet)
 cSkip))
 (cSeq (cOps (oLet (sV ((xW 3))) fun v118 => oLet (sV (vLen (xC v118))) fun v119 => oSet 6 (sV ((xC v119))) fun v6 => oEnd))
 (cSeq (cSeq (cOps (oLet (sV (vAddr 2 (xW 1))) fun v120 => oLet (sL (lLoad none (xC v120))) fun v121 => oSet 122 (sV (vUn .not (xC v121))) fun v122 => oEnd))
 (cCond (xW 122) (cOps (oLet (sV ((xW 6))) fun v123 => oLet (sV (vAdd .i64 (xC v123) (xC (.int .i64 1)))) fun v124 => oSet 6 (sV ((xC v124))) fun v6 => oEnd))
 cSkip))
 (cSeq (cSeq (cOps (oLet (sV (vAddr 5 (xW 1))) fun v125 => oLet (sL (lLoad none (xC v125))) fun v126 => oLet (sV ((xW 6))) fun v127 => oSet 128 (sV (vLt .i64 (xC v126) (xC v127))) fun v128 => oEnd))
 (cCond (xW 128) (cSeq (cOps (oSet 2 (sV ((xC (.int .i64 4)))) fun v2 => oEnd))
 cRet)
 cSkip))
 (cSeq (cSeq (cOps (oSet 7 (sV ((xC (.int .i64 0)))) fun v7 => oEnd))
 (cBlock 0 (cLoop (cSeq (cSeq (cOps (oLet (sV ((xW 7))) fun v129 => oLet (sV (vAddr 6 (xW 1))) fun v130 => oLet (sL (lLoad none (xC v130))) fun v131 => oLet (sV (vLen (xC v131))) fun v132 => oSet 133 (sV (vLt .i64 (xC v129) (xC v132))) fun v133 => oEnd))
 (cCond (xW 133) cSkip
 (cExit 0)))
 (cSeq (cBlock 1 (cSeq (cOps (oLet (sV (vAddr 6 (xW 1))) fun v136 => oLet (sL (lLoad none (xC v136))) fun v137 => oLet (sV ((xW 7))) fun v138 => oLet (sV (vIdx 6 (xC v137) (xC v138))) fun v139 => oLet (sL (lLoad (some 6) (xC v139))) fun v140 => oLet (sV (vAddr 6 (xW 1))) fun v141 => oLet (sL (lLoad none (xC v141))) fun v142 => oLet (sV (vLen (xC v142))) fun v143 => oLet (sV (vAddr 5 (xW 1))) fun v144 => oLet (sL (lLoad none (xC v144))) fun v145 => oLet (sC 165 [(xC v140), (xC v143), (xC v145)]) fun v146 => oSet 8 (sV ((xC v146))) fun v8 => oEnd))
 (cSeq (cOps (oLet (sV ((xW 8))) fun v147 => oSet 148 (sV (vNe .i64 (xC v147) (xC (.int .i64 0)))) fun v148 => oEnd))
 (cCond (xW 148) (cSeq (cOps (oLet (sV ((xW 8))) fun v149 => oSet 2 (sV ((xC v149))) fun v2 => oEnd))
 cRet)
 cSkip))))
 (cOps (oLet (sV ((xW 7))) fun v134 => oLet (sV (vAdd .i64 (xC v134) (xC (.int .i64 1)))) fun v135 => oSet 7 (sV ((xC v135))) fun v7 => oEnd)))))))
 (cSeq (cSeq (cOps (oSet 9 (sV ((xC (.int .i64 0)))) fun v9 => oEnd))
 (cBlock 2 (cLoop (cSeq (cSeq (cOps (oLet (sV ((xW 9))) fun v150 => oLet (sV (vAddr 7 (xW 1))) fun v151 => oLet (sL (lLoad none (xC v151))) fun v152 => oLet (sV (vLen (xC v152))) fun v153 => oSet 154 (sV (vLt .i64 (xC v150) (xC v153))) fun v154 => oEnd))
 (cCond (xW 154) cSkip
 (cExit 2)))
 (cSeq (cBlock 3 (cSeq (cOps (oLet (sV (vAddr 7 (xW 1))) fun v157 => oLet (sL (lLoad none (xC v157))) fun v158 => oLet (sV ((xW 9))) fun v159 => oLet (sV (vIdx 4 (xC v158) (xC v159))) fun v160 => oLet (sL (lLoad (some 4) (xC v160))) fun v161 => oSet 10 (sN (aAlloc [.int .i64 0, .int .i64 0, .int .i64 0, .str []])) fun v10 => oDo (sM (tStore 4 (xC v10) (xC v161))) (oEnd)))
 (cSeq (cSeq (cOps (oLet (sV (vAddr 0 (xW 10))) fun v162 => oLet (sL (lLoad none (xC v162))) fun v163 => oLet (sV (vLt .i64 (xC v163) (xC (.int .i64 0)))) fun v164 => oLet (sG (xC v164) false (sV (vAddr 0 (xW 10)))) fun v166 => oLet (sG (xC v164) false (sL (lLoad none (xC v166)))) fun v167 => oLet (sG (xC v164) false (sV (vAddr 1 (xW 10)))) fun v168 => oLet (sG (xC v164) false (sL (lLoad none (xC v168)))) fun v169 => oLet (sG (xC v164) false (sV (vGe .i64 (xC v167) (xC v169)))) fun v170 => oLet (sV (vPick (xC v164) (xC (.bool true)) (xC v170))) fun v171 => oLet (sG (xC v171) false (sV (vAddr 1 (xW 10)))) fun v173 => oLet (sG (xC v171) false (sL (lLoad none (xC v173)))) fun v174 => oLet (sG (xC v171) false (sV (vAddr 6 (xW 1)))) fun v175 => oLet (sG (xC v171) false (sL (lLoad none (xC v175)))) fun v176 => oLet (sG (xC v171) false (sV (vLen (xC v176)))) fun v177 => oLet (sG (xC v171) false (sV (vGt .i64 (xC v174) (xC v177)))) fun v178 => oLet (sV (vPick (xC v171) (xC (.bool true)) (xC v178))) fun v179 => oLet (sG (xC v179) false (sV (vAddr 2 (xW 10)))) fun v181 => oLet (sG (xC v179) false (sL (lLoad none (xC v181)))) fun v182 => oLet (sG (xC v179) false (sV (vLt .i64 (xC v182) (xC (.int .i64 0))))) fun v183 => oLet (sV (vPick (xC v179) (xC (.bool true)) (xC v183))) fun v184 => oLet (sG (xC v184) false (sV (vAddr 2 (xW 10)))) fun v186 => oLet (sG (xC v184) false (sL (lLoad none (xC v186)))) fun v187 => oLet (sG (xC v184) false (sV (vAddr 6 (xW 1)))) fun v188 => oLet (sG (xC v184) false (sL (lLoad none (xC v188)))) fun v189 => oLet (sG (xC v184) false (sV (vLen (xC v189)))) fun v190 => oLet (sG (xC v184) false (sV (vGe .i64 (xC v187) (xC v190)))) fun v191 => oSet 192 (sV (vPick (xC v184) (xC (.bool true)) (xC v191))) fun v192 => oEnd))
 (cCond (xW 192) (cSeq (cOps (oSet 2 (sV ((xC (.int .i64 4)))) fun v2 => oEnd))
 cRet)
 cSkip))
 (cSeq (cOps (oLet (sV (vAddr 3 (xW 10))) fun v193 => oLet (sL (lLoad none (xC v193))) fun v194 => oLet (sV (vSNe (xC v194) (xC (.str [])))) fun v195 => oLet (sG (xC v195) true (sV (vAddr 3 (xW 10)))) fun v197 => oLet (sG (xC v195) true (sL (lLoad none (xC v197)))) fun v198 => oLet (sG (xC v195) true (sC 112 [(xC v198)])) fun v199 => oLet (sG (xC v195) true (sV (vUn .not (xC v199)))) fun v200 => oSet 201 (sV (vPick (xC v195) (xC v200) (xC (.bool false)))) fun v201 => oEnd))
 (cCond (xW 201) (cSeq (cOps (oSet 2 (sV ((xC (.int .i64 6)))) fun v2 => oEnd))
 cRet)
 cSkip)))))
 (cOps (oLet (sV ((xW 9))) fun v155 => oLet (sV (vAdd .i64 (xC v155) (xC (.int .i64 1)))) fun v156 => oSet 9 (sV ((xC v156))) fun v9 => oEnd)))))))
 (cSeq (cOps (oSet 2 (sV ((xC (.int .i64 0)))) fun v2 => oEnd))
 cRet)))))))))))), [.tmp (way 2)]⟩
theorem Tryz.k114_c : compF Tryz.prog [12, 13, 14, 11, 15, 16, 17, 18, 19, 20, 21, 22, 23, 24, 25, 26, 27, 28, 29, 30, 31, 32, 33, 34, 35, 36, 37, 38, 39, 40, 41, 42, 43, 44, 45, 46, 47, 48, 49, 50, 51, 52, 53, 54, 55, 56, 58, 59, 60, 61, 62, 63, 64, 65, 66, 67, 68, 69, 70, 71, 72, 73, 74, 75, 76, 77, 78, 79, 80, 81, 82, 83, 84, 85, 86, 88, 90, 91, 92, 93, 94, 95, 96, 97, 98, 99, 100, 101, 102, 103, 104, 105, 106, 107, 108, 109, 110, 111, 112, 114, 115, 116, 118, 119, 120, 121, 123, 124, 125, 126, 127, 129, 130, 131, 132, 136, 137, 138, 139, 140, 141, 142, 143, 144, 145, 146, 147, 149, 134, 135, 150, 151, 152, 153, 157, 158, 159, 160, 161, 162, 163, 164, 165, 166, 167, 168, 169, 170, 171, 172, 173, 174, 175, 176, 177, 178, 179, 180, 181, 182, 183, 184, 185, 186, 187, 188, 189, 190, 191, 193, 194, 195, 196, 197, 198, 199, 200, 155, 156] Tryz.f114 = some Tryz.k114 := by kernel_rfl
def Tryz.k115 : KF := ⟨[(way 0), (way 1)], (cSeq (cOps (oSet 4 (sV ((xC (.int .i64 0)))) fun v4 => oEnd))
 (cSeq (cSeq (cOps (oSet 5 (sV ((xC (.int .i64 0)))) fun v5 => oEnd))
 (cBlock 0 (cLoop (cSeq (cSeq (cOps (oLet (sV ((xW 5))) fun v6 => oLet (sV ((xW 0))) fun v7 => oLet (sV (vLen (xC v7))) fun v8 => oSet 9 (sV (vLt .i64 (xC v6) (xC v8))) fun v9 => oEnd))
 (cCond (xW 9) cSkip
 (cExit 0)))
 (cSeq (cBlock 1 (cSeq (cOps (oLet (sV ((xW 0))) fun v12 => oLet (sV ((xW 5))) fun v13 => oLet (sV (vIdx 1 (xC v12) (xC v13))) fun v14 => oLet (sL (lLoad none (xC v14))) fun v15 => oLet (sV ((xW 1))) fun v16 => oSet 17 (sV (vSEq (xC v15) (xC v16))) fun v17 => oEnd))
 (cCond (xW 17) (cSeq (cOps (oLet (sV ((xW 5))) fun v18 => oSet 4 (sV ((xC v18))) fun v4 => oEnd))
 cRet)
 cSkip)))
 (cOps (oLet (sV ((xW 5))) fun v10 => oLet (sV (vAdd .i64 (xC v10) (xC (.int .i64 1)))) fun v11 => oSet 5 (sV ((xC v11))) fun v5 => oEnd)))))))
 (cSeq (cOps (oSet 4 (sV ((xC (.int .i64 (-1))))) fun v4 => oEnd))
 cRet))), [.tmp (way 4)]⟩
theorem Tryz.k115_c : compF Tryz.prog [6, 7, 8, 12, 13, 14, 15, 16, 18, 10, 11] Tryz.f115 = some Tryz.k115 := by kernel_rfl
def Tryz.k116 : KF := ⟨[(way 0), (way 1), (way 2)], (cSeq (cOps (oSet 3 (sN (aBox (xW 0))) fun v3 => oSet 4 (sV ((xC (.bool false)))) fun v4 => oEnd))
 (cSeq (cOps (oLet (sL (lLoad none (xW 1))) fun v5 => oLet (sV (vNe .i64 (xC v5) (xC (.int .i64 0)))) fun v6 => oLet (sG (xC v6) true (sV (vAddr 0 (xW 3)))) fun v8 => oLet (sG (xC v6) true (sL (lLoad none (xC v8)))) fun v9 => oLet (sG (xC v6) true (sL (lLoad none (xW 2)))) fun v10 => oLet (sG (xC v6) true (sV (vSEq (xC v9) (xC v10)))) fun v11 => oLet (sV (vPick (xC v6) (xC v11) (xC (.bool false)))) fun v12 => oSet 4 (sV ((xC v12))) fun v4 => oEnd))
 cRet)), [.tmp (way 4)]⟩
theorem Tryz.k116_c : compF Tryz.prog [5, 6, 7, 8, 9, 10, 11, 12] Tryz.f116 = some Tryz.k116 := by kernel_rfl
def Tryz.k117 : KF := ⟨[(way 0)], (cSeq (cOps (oSet 1 (sN (aBox (xW 0))) fun v1 => oSet 2 (sN (aAlloc [.int .i64 0])) fun v2 => oSet 3 (sN (aAlloc [.str [], .int .i64 0, .int .i64 0])) fun v3 => oEnd))
 (cSeq (cOps (oLet (sL (lLoad none (xW 1))) fun v4 => oLet (sV (vFunc 167 [(xW 1), (xW 2), (xW 3)])) fun v5 => oLet (sC 166 [(xC v4), (xC v5)]) fun v6 => oEnd))
 (cSeq (cOps (oLet (sL (lLoad none (xW 2))) fun v7 => oSee (seeL (lLoad (some 3) (xW 3))) fun q1 => oLet (sLo [] 0 (lLoad (some 3) (xW 3))) fun v8 => oCap fun c2 => oDo (sM (tStore 1 (xW 2) (xC v7))) (oCap fun d2 => oLate [q1] <| oCap fun c3 => oDo (sM (tStore 3 (xW 3) (xC v8))) (oCap fun d3 => oEnd))))
 cRet))), [.cell (way 2) none, .cell (way 3) (some 3)]⟩
theorem Tryz.k117_c : compF Tryz.prog [4, 5, 6, 7, 8] Tryz.f117 = some Tryz.k117 := by kernel_rfl
def Tryz.k118 : KF := ⟨[(way 0)], (cSeq (cOps (oSet 2 (sN (aAlloc [.str [], .str [], .bool false, .bool false, .nilslice, .nilslice, .nilslice])) fun v2 => oEnd))
 (cSeq (cSeq (cOps (oSet 9 (sV ((xC (.int .i64 0)))) fun v9 => oEnd))
 (cBlock 0 (cLoop (cSeq (cOps (oSet 10 (sV (vLt .i64 (xW 9) (xC (.int .i64 4)))) fun v10 => oEnd))
 (cSeq (cCond (xW 10) cSkip
 (cExit 0))
 (cSeq (cBlock 1 (cSeq (cOps (oLet (sV ((xW 9))) fun v11 => oSet 3 (sV ((xC v11))) fun v3 => oEnd))
 (cSeq (cOps (oLet (sV ((xW 0))) fun v12 => oLet (sV (vNil (xC v12))) fun v13 => oLet (sV (vAddr 0 (xC v13))) fun v14 => oLet (sL (lLoad none (xC v14))) fun v15 => oLet (sC 41 [(xC v15)]) fun v16 => oSet 4 (sV ((xC v16))) fun v4 => oEnd))
 (cSeq (cOps (oLet (sV ((xW 0))) fun v17 => oLet (sC 119 [(xC v17)]) fun v18 => oLet (sG (xC v18) true (sV ((xW 4)))) fun v20 => oLet (sG (xC v18) true (sV ((xW 3)))) fun v21 => oLet (sG (xC v18) true (sV (vIdxS (xC (.str [83, 66, 67, 49])) (xC v21)))) fun v22 => oLet (sG (xC v18) true (sV (vToI .i64 (xC v22)))) fun v23 => oLet (sG (xC v18) true (sV (vNe .i64 (xC v20) (xC v23)))) fun v24 => oSet 25 (sV (vPick (xC v18) (xC v24) (xC (.bool false)))) fun v25 => oEnd))
 (cCond (xW 25) (cOps (oLet (sV ((xW 0))) fun v26 => oLet (sC 169 [(xC v26), (xC (.int .i64 3))]) fun v27 => oEnd))
 cSkip)))))
 (cOps (oLet (sV (vAdd .i64 (xW 9) (xC (.int .i64 1)))) fun v28 => oSet 9 (sV ((xC v28))) fun v9 => oEnd))))))))
 (cSeq (cSeq (cOps (oLet (sV ((xW 0))) fun v29 => oLet (sC 170 [(xC v29)]) fun v30 => oSet 5 (sV ((xC v30))) fun v5 => oEnd))
 (cBlock 2 (cLoop (cSeq (cSeq (cOps (oLet (sV ((xW 5))) fun v31 => oLet (sV (vGt .i64 (xC v31) (xC (.int .i64 0)))) fun v32 => oLet (sG (xC v32) true (sV ((xW 0)))) fun v34 => oLet (sG (xC v32) true (sC 119 [(xC v34)])) fun v35 => oSet 36 (sV (vPick (xC v32) (xC v35) (xC (.bool false)))) fun v36 => oEnd))
 (cCond (xW 36) cSkip
 (cExit 2)))
 (cSeq (cBlock 3 (cOps (oLet (sV ((xW 0))) fun v39 => oLet (sV (vNil (xC v39))) fun v41 => oLet (sV (vAddr 1 (xC v41))) fun v42 => oSee (seeL (lLoad none (xC v42))) fun q4 => oLet (sLo [] 0 (lLoad none (xC v42))) fun v43 => oLet (sV (vNil (xC v39))) fun v45 => oLet (sV (vAddr 0 (xC v45))) fun v46 => oLet (sL (lLoad none (xC v46))) fun v47 => oCap fun c9 => oLet (sC 42 [(xC v47)]) fun v48 => oCap fun d9 => oLate [q4] <| oLet (sN (aRow 1 1 [1] [(xC v48)])) fun v49 => oCap fun c11 => oLet (sM (tAppend 16 1 (xC v43) (xC v49))) fun v50 => oCap fun d11 => oLet (sV (vNil (xC v39))) fun v51 => oLet (sV (vAddr 1 (xC v51))) fun v52 => oCap fun c14 => oDo (sM (tStore 1 (xC v52) (xC v50))) (oCap fun d14 => oEnd))))
 (cOps (oLet (sV ((xW 5))) fun v37 => oLet (sV (vSub .i64 (xC v37) (xC (.int .i64 1)))) fun v38 => oSet 5 (sV ((xC v38))) fun v5 => oEnd)))))))
 (cSeq (cOps (oLet (sV ((xW 0))) fun v53 => oLet (sC 171 [(xC v53)]) fun v54 => oLet (sC 171 [(xC v53)]) fun v56 => oLet (sV (vAddr 0 (xW 2))) fun v57 => oDo (sM (tStore 1 (xC v57) (xC v54))) (oLet (sV (vAddr 1 (xW 2))) fun v58 => oDo (sM (tStore 1 (xC v58) (xC v56))) (oEnd))))
 (cSeq (cOps (oLet (sV ((xW 0))) fun v59 => oLet (sC 172 [(xC v59)]) fun v60 => oLet (sC 172 [(xC v59)]) fun v62 => oLet (sV (vAddr 2 (xW 2))) fun v63 => oDo (sM (tStore 1 (xC v63) (xC v60))) (oLet (sV (vAddr 3 (xW 2))) fun v64 => oDo (sM (tStore 1 (xC v64) (xC v62))) (oEnd))))
 (cSeq (cSeq (cOps (oLet (sV ((xW 0))) fun v65 => oLet (sC 170 [(xC v65)]) fun v66 => oSet 6 (sV ((xC v66))) fun v6 => oEnd))
 (cBlock 4 (cLoop (cSeq (cSeq (cOps (oLet (sV ((xW 6))) fun v67 => oLet (sV (vGt .i64 (xC v67) (xC (.int .i64 0)))) fun v68 => oLet (sG (xC v68) true (sV ((xW 0)))) fun v70 => oLet (sG (xC v68) true (sC 119 [(xC v70)])) fun v71 => oSet 72 (sV (vPick (xC v68) (xC v71) (xC (.bool false)))) fun v72 => oEnd))
 (cCond (xW 72) cSkip
 (cExit 4)))
 (cSeq (cBlock 5 (cOps (oLet (sV (vAddr 4 (xW 2))) fun v75 => oSee (seeL (lLoad none (xC v75))) fun q1 => oLet (sLo [] 0 (lLoad none (xC v75))) fun v76 => oLet (sV ((xW 0))) fun v77 => oCap fun c3 => oLet (sC 171 [(xC v77)]) fun v78 => oCap fun d3 => oLate [q1] <| oLet (sN (aRow 1 1 [1] [(xC v78)])) fun v79 => oCap fun c5 => oLet (sM (tAppend 16 1 (xC v76) (xC v79))) fun v80 => oCap fun d5 => oLet (sV (vAddr 4 (xW 2))) fun v81 => oCap fun c7 => oDo (sM (tStore 1 (xC v81) (xC v80))) (oCap fun d7 => oEnd))))
 (cOps (oLet (sV ((xW 6))) fun v73 => oLet (sV (vSub .i64 (xC v73) (xC (.int .i64 1)))) fun v74 => oSet 6 (sV ((xC v74))) fun v6 => oEnd)))))))
 (cSeq (cSeq (cOps (oLet (sV ((xW 0))) fun v82 => oLet (sC 170 [(xC v82)]) fun v83 => oSet 7 (sV ((xC v83))) fun v7 => oEnd))
 (cBlock 6 (cLoop (cSeq (cSeq (cOps (oLet (sV ((xW 7))) fun v84 => oLet (sV (vGt .i64 (xC v84) (xC (.int .i64 0)))) fun v85 => oLet (sG (xC v85) true (sV ((xW 0)))) fun v87 => oLet (sG (xC v85) true (sC 119 [(xC v87)])) fun v88 => oSet 89 (sV (vPick (xC v85) (xC v88) (xC (.bool false)))) fun v89 => oEnd))
 (cCond (xW 89) cSkip
 (cExit 6)))
 (cSeq (cBlock 7 (cOps (oLet (sV (vAddr 5 (xW 2))) fun v92 => oSee (seeL (lLoad none (xC v92))) fun q1 => oLet (sLo [] 0 (lLoad none (xC v92))) fun v93 => oLet (sV ((xW 0))) fun v94 => oCap fun c3 => oLet (sC 171 [(xC v94)]) fun v95 => oCap fun d3 => oLate [q1] <| oCap fun c5 => oLet (sC 171 [(xC v94)]) fun v97 => oCap fun d5 => oLate [q1] <| oCap fun c7 => oLet (sC 172 [(xC v94)]) fun v99 => oCap fun d7 => oLate [q1] <| oLet (sV (vCat [1, 1, 1] [(xC v95), (xC v97), (xC v99)])) fun v100 => oLet (sN (aRow 1 3 [3] [(xC v100)])) fun v101 => oCap fun c10 => oLet (sM (tAppend 40 3 (xC v93) (xC v101))) fun v102 => oCap fun d10 => oLet (sV (vAddr 5 (xW 2))) fun v103 => oCap fun c12 => oDo (sM (tStore 1 (xC v103) (xC v102))) (oCap fun d12 => oEnd))))
 (cOps (oLet (sV ((xW 7))) fun v90 => oLet (sV (vSub .i64 (xC v90) (xC (.int .i64 1)))) fun v91 => oSet 7 (sV ((xC v91))) fun v7 => oEnd)))))))
 (cSeq (cSeq (cOps (oLet (sV ((xW 0))) fun v104 => oLet (sC 170 [(xC v104)]) fun v105 => oSet 8 (sV ((xC v105))) fun v8 => oEnd))
 (cBlock 8 (cLoop (cSeq (cSeq (cOps (oLet (sV ((xW 8))) fun v106 => oLet (sV (vGt .i64 (xC v106) (xC (.int .i64 0)))) fun v107 => oLet (sG (xC v107) true (sV ((xW 0)))) fun v109 => oLet (sG (xC v107) true (sC 119 [(xC v109)])) fun v110 => oSet 111 (sV (vPick (xC v107) (xC v110) (xC (.bool false)))) fun v111 => oEnd))
 (cCond (xW 111) cSkip
 (cExit 8)))
 (cSeq (cBlock 9 (cOps (oLet (sV (vAddr 6 (xW 2))) fun v114 => oSee (seeL (lLoad none (xC v114))) fun q1 => oLet (sLo [] 0 (lLoad none (xC v114))) fun v115 => oLet (sV ((xW 0))) fun v116 => oCap fun c3 => oLet (sC 173 [(xC v116)]) fun v117 => oCap fun d3 => oLate [q1] <| oLet (sN (aRow 1 8 [8] [(xC v117)])) fun v118 => oCap fun c5 => oLet (sM (tAppend 104 8 (xC v115) (xC v118))) fun v119 => oCap fun d5 => oLet (sV (vAddr 6 (xW 2))) fun v120 => oCap fun c7 => oDo (sM (tStore 1 (xC v120) (xC v119))) (oCap fun d7 => oEnd))))
 (cOps (oLet (sV ((xW 8))) fun v112 => oLet (sV (vSub .i64 (xC v112) (xC (.int .i64 1)))) fun v113 => oSet 8 (sV ((xC v113))) fun v8 => oEnd)))))))
 (cSeq (cOps (oLet (sL (lLoad (some 7) (xW 2))) fun v121 => oDo (sM (tStore 7 (xW 2) (xC v121))) (oEnd)))
 cRet))))))))), [.cell (way 2) (some 7)]⟩
theorem Tryz.k118_c : compF Tryz.prog [11, 12, 13, 14, 15, 16, 17, 18, 19, 20, 21, 22, 23, 24, 26, 27, 28, 29, 30, 31, 32, 33, 34, 35, 39, 40, 41, 42, 43, 44, 45, 46, 47, 48, 49, 50, 51, 52, 37, 38, 53, 54, 55, 56, 57, 58, 59, 60, 61, 62, 63, 64, 65, 66, 67, 68, 69, 70, 71, 75, 76, 77, 78, 79, 80, 81, 73, 74, 82, 83, 84, 85, 86, 87, 88, 92, 93, 94, 95, 96, 97, 98, 99, 100, 101, 102, 103, 90, 91, 104, 105, 106, 107, 108, 109, 110, 114, 115, 116, 117, 118, 119, 120, 112, 113, 121] Tryz.f118 = some Tryz.k118 := by kernel_rfl
def Tryz.k119 : KF := ⟨[(way 0)], (cSeq (cOps (oSet 2 (sV ((xC (.bool false)))) fun v2 => oEnd))
 (cSeq (cOps (oLet (sV ((xW 0))) fun v3 => oLet (sC 169 [(xC v3), (xC (.int .i64 0))]) fun v4 => oEnd))
 (cSeq (cOps (oLet (sV ((xW 0))) fun v5 => oLet (sV (vNil (xC v5))) fun v6 => oLet (sV (vAddr 2 (xC v6))) fun v7 => oLet (sL (lLoad none (xC v7))) fun v8 => oLet (sV (vEq .i64 (xC v8) (xC (.int .i64 0)))) fun v9 => oSet 2 (sV ((xC v9))) fun v2 => oEnd))
 cRet))), [.tmp (way 2)]⟩
theorem Tryz.k119_c : compF Tryz.prog [3, 4, 5, 6, 7, 8, 9] Tryz.f119 = some Tryz.k119 := by kernel_rfl
def Tryz.k120 : KF := ⟨[(way 0)], (cSeq (cOps (oSet 1 (sN (aBox (xW 0))) fun v1 => oSet 2 (sV ((xC (.nilslice)))) fun v2 => oSet 3 (sV ((xC (.int .i64 0)))) fun v3 => oEnd))
 (cSeq (cSeq (cOps (oLet (sL (lLoad (some 7) (xW 1))) fun v13 => oLet (sC 73 [(xC v13)]) fun v14 => oSet 4 (sV ((xC v14))) fun v4 => oEnd))
 (cSeq (cOps (oLet (sV ((xW 4))) fun v15 => oSet 16 (sV (vNe .i64 (xC v15) (xC (.int .i64 0)))) fun v16 => oEnd))
 (cCond (xW 16) (cSeq (cOps (oLet (sV ((xW 4))) fun v17 => oSet 2 (sV ((xC (.nilslice)))) fun v2 => oSet 3 (sV ((xC v17))) fun v3 => oEnd))
 cRet)
 cSkip)))
 (cSeq (cOps (oLet (sL (lLoad (some 7) (xW 1))) fun v18 => oLet (sC 174 [(xC v18)]) fun v19 => oLet (sV (vFill [.nilslice, .bool false, .nilptr] [(2, 1)] [(xC v19)])) fun v20 => oLet (sN (aBox (xC v20))) fun v21 => oSet 5 (sV ((xC v21))) fun v5 => oEnd))
 (cSeq (cSeq (cOps (oSet 22 (sV ((xC (.int .i64 0)))) fun v22 => oEnd))
 (cBlock 0 (cLoop (cSeq (cOps (oSet 23 (sV (vLt .i64 (xW 22) (xC (.int .i64 4)))) fun v23 => oEnd))
 (cSeq (cCond (xW 23) cSkip
 (cExit 0))
 (cSeq (cBlock 1 (cSeq (cOps (oLet (sV ((xW 22))) fun v24 => oSet 6 (sV ((xC v24))) fun v6 => oEnd))
 (cOps (oLet (sV ((xW 5))) fun v25 => oLet (sV (vNil (xC v25))) fun v26 => oLet (sV (vAddr 0 (xC v26))) fun v27 => oLet (sV ((xW 6))) fun v28 => oLet (sV (vIdxS (xC (.str [83, 66, 67, 49])) (xC v28))) fun v29 => oLet (sV (vToI .i64 (xC v29))) fun v30 => oLet (sC 35 [(xC v27), (xC v30)]) fun v31 => oEnd))))
 (cOps (oLet (sV (vAdd .i64 (xW 22) (xC (.int .i64 1)))) fun v32 => oSet 22 (sV ((xC v32))) fun v22 => oEnd))))))))
 (cSeq (cOps (oLet (sV ((xW 5))) fun v33 => oLet (sV (vNil (xC v33))) fun v34 => oLet (sV (vAddr 0 (xC v34))) fun v35 => oLet (sV (vNil (xC v33))) fun v37 => oLet (sV (vAddr 2 (xC v37))) fun v38 => oLet (sL (lLoad none (xC v38))) fun v39 => oLet (sV (vNil (xC v39))) fun v40 => oLet (sV (vAddr 0 (xC v40))) fun v41 => oLet (sL (lLoad none (xC v41))) fun v42 => oLet (sV (vLen (xC v42))) fun v43 => oLet (sC 38 [(xC v35), (xC v43)]) fun v44 => oEnd))
 (cSeq (cSeq (cOps (oLet (sV ((xW 5))) fun v45 => oLet (sV (vNil (xC v45))) fun v46 => oLet (sV (vAddr 2 (xC v46))) fun v47 => oLet (sL (lLoad none (xC v47))) fun v48 => oLet (sV (vNil (xC v48))) fun v49 => oLet (sV (vAddr 0 (xC v49))) fun v50 => oSet 51 (sL (lLoad none (xC v50))) fun v51 => oSet 52 (sV (vLen (xC v51))) fun v52 => oSet 53 (sV ((xC (.int .i64 0)))) fun v53 => oEnd))
 (cBlock 2 (cLoop (cSeq (cOps (oSet 54 (sV (vLt .i64 (xW 53) (xW 52))) fun v54 => oEnd))
 (cSeq (cCond (xW 54) cSkip
 (cExit 2))
 (cSeq (cBlock 3 (cSeq (cOps (oLet (sV (vIdx 1 (xW 51) (xW 53))) fun v55 => oLet (sL (lLoad none (xC v55))) fun v56 => oSet 8 (sV ((xC v56))) fun v8 => oEnd))
 (cOps (oLet (sV ((xW 5))) fun v57 => oLet (sV (vNil (xC v57))) fun v58 => oLet (sV (vAddr 0 (xC v58))) fun v59 => oLet (sV ((xW 8))) fun v60 => oLet (sC 37 [(xC v59), (xC v60)]) fun v61 => oEnd))))
 (cOps (oLet (sV (vAdd .i64 (xW 53) (xC (.int .i64 1)))) fun v62 => oSet 53 (sV ((xC v62))) fun v53 => oEnd))))))))
 (cSeq (cOps (oLet (sV ((xW 5))) fun v63 => oLet (sV (vAddr 0 (xW 1))) fun v64 => oLet (sL (lLoad none (xC v64))) fun v65 => oLet (sV (vAddr 1 (xW 1))) fun v66 => oLet (sL (lLoad none (xC v66))) fun v67 => oLet (sN (aRow 2 1 [1, 1] [(xC v65), (xC v67)])) fun v68 => oLet (sC 175 [(xC v63), (xC v68)]) fun v69 => oEnd))
 (cSeq (cOps (oLet (sV ((xW 5))) fun v70 => oLet (sV (vNil (xC v70))) fun v71 => oLet (sV (vAddr 0 (xC v71))) fun v72 => oLet (sV (vAddr 2 (xW 1))) fun v73 => oLet (sL (lLoad none (xC v73))) fun v74 => oCap fun c5 => oLet (sC 176 [(xC v74)]) fun v75 => oCap fun d5 => oCap fun c6 => oLet (sC 35 [(xC v72), (xC v75)]) fun v76 => oCap fun d6 => oLet (sV (vAddr 3 (xW 1))) fun v77 => oLet (sLo [c6, c5] d6.next (lLoad none (xC v77))) fun v78 => oCap fun c9 => oLet (sC 176 [(xC v78)]) fun v79 => oCap fun d9 => oCap fun c10 => oLet (sC 35 [(xC v76), (xC v79)]) fun v80 => oCap fun d10 => oLet (sV (vAddr 4 (xW 1))) fun v81 => oLet (sLo [c10, c9, c6, c5] d10.next (lLoad none (xC v81))) fun v82 => oLet (sV (vLen (xC v82))) fun v83 => oCap fun c14 => oLet (sC 38 [(xC v80), (xC v83)]) fun v84 => oCap fun d14 => oEnd))
 (cSeq (cOps (oLet (sV ((xW 5))) fun v85 => oLet (sV (vAddr 4 (xW 1))) fun v86 => oLet (sL (lLoad none (xC v86))) fun v87 => oLet (sC 175 [(xC v85), (xC v87)]) fun v88 => oEnd))
 (cSeq (cOps (oLet (sV ((xW 5))) fun v89 => oLet (sV (vNil (xC v89))) fun v90 => oLet (sV (vAddr 0 (xC v90))) fun v91 => oLet (sV (vAddr 5 (xW 1))) fun v92 => oLet (sL (lLoad none (xC v92))) fun v93 => oLet (sV (vLen (xC v93))) fun v94 => oLet (sC 38 [(xC v91), (xC v94)]) fun v95 => oEnd))
 (cSeq (cSeq (cOps (oLet (sV (vAddr 5 (xW 1))) fun v96 => oSet 97 (sL (lLoad none (xC v96))) fun v97 => oSet 98 (sV (vLen (xC v97))) fun v98 => oSet 99 (sV ((xC (.int .i64 0)))) fun v99 => oEnd))
 (cBlock 4 (cLoop (cSeq (cOps (oSet 100 (sV (vLt .i64 (xW 99) (xW 98))) fun v100 => oEnd))
 (cSeq (cCond (xW 100) cSkip
 (cExit 4))
 (cSeq (cBlock 5 (cSeq (cOps (oLet (sV (vIdx 3 (xW 97) (xW 99))) fun v101 => oLet (sL (lLoad (some 3) (xC v101))) fun v102 => oSet 10 (sN (aAlloc [.str [], .str [], .bool false])) fun v10 => oDo (sM (tStore 3 (xC v10) (xC v102))) (oEnd)))
 (cSeq (cOps (oLet (sV ((xW 5))) fun v103 => oLet (sV (vAddr 0 (xW 10))) fun v104 => oLet (sL (lLoad none (xC v104))) fun v105 => oLet (sV (vAddr 1 (xW 10))) fun v106 => oLet (sL (lLoad none (xC v106))) fun v107 => oLet (sN (aRow 2 1 [1, 1] [(xC v105), (xC v107)])) fun v108 => oLet (sC 175 [(xC v103), (xC v108)]) fun v109 => oEnd))
 (cOps (oLet (sV ((xW 5))) fun v110 => oLet (sV (vNil (xC v110))) fun v111 => oLet (sV (vAddr 0 (xC v111))) fun v112 => oLet (sV (vAddr 2 (xW 10))) fun v113 => oLet (sL (lLoad none (xC v113))) fun v114 => oLet (sC 176 [(xC v114)]) fun v115 => oLet (sC 35 [(xC v112), (xC v115)]) fun v116 => oEnd)))))
 (cOps (oLet (sV (vAdd .i64 (xW 99) (xC (.int .i64 1)))) fun v117 => oSet 99 (sV ((xC v117))) fun v99 => oEnd))))))))
 (cSeq (cOps (oLet (sV ((xW 5))) fun v118 => oLet (sV (vNil (xC v118))) fun v119 => oLet (sV (vAddr 0 (xC v119))) fun v120 => oLet (sV (vAddr 6 (xW 1))) fun v121 => oLet (sL (lLoad none (xC v121))) fun v122 => oLet (sV (vLen (xC v122))) fun v123 => oLet (sC 38 [(xC v120), (xC v123)]) fun v124 => oEnd))
 (cSeq (cSeq (cOps (oLet (sV (vAddr 6 (xW 1))) fun v125 => oSet 126 (sL (lLoad none (xC v125))) fun v126 => oSet 127 (sV (vLen (xC v126))) fun v127 => oSet 128 (sV ((xC (.int .i64 0)))) fun v128 => oEnd))
 (cBlock 6 (cLoop (cSeq (cOps (oSet 129 (sV (vLt .i64 (xW 128) (xW 127))) fun v129 => oEnd))
 (cSeq (cCond (xW 129) cSkip
 (cExit 6))
 (cSeq (cBlock 7 (cSeq (cOps (oLet (sV (vIdx 8 (xW 126) (xW 128))) fun v130 => oLet (sL (lLoad (some 8) (xC v130))) fun v131 => oSet 12 (sN (aAlloc [.str [], .str [], .bool false, .bool false, .int .i64 0, .int .i64 0, .nilslice, .nilslice])) fun v12 => oDo (sM (tStore 8 (xC v12) (xC v131))) (oEnd)))
 (cOps (oLet (sV ((xW 5))) fun v132 => oLet (sL (lLoad (some 8) (xW 12))) fun v133 => oLet (sC 177 [(xC v132), (xC v133)]) fun v134 => oEnd))))
 (cOps (oLet (sV (vAdd .i64 (xW 128) (xC (.int .i64 1)))) fun v135 => oSet 128 (sV ((xC v135))) fun v128 => oEnd))))))))
 (cSeq (cOps (oLet (sV ((xW 5))) fun v136 => oLet (sV (vNil (xC v136))) fun v137 => oLet (sV (vAddr 0 (xC v137))) fun v138 => oLet (sC 39 [(xC v138)]) fun v139 => oSet 2 (sV ((xC v139))) fun v2 => oSet 3 (sV ((xC (.int .i64 0)))) fun v3 => oEnd))
 cRet)))))))))))))), [.tmp (way 2), .tmp (way 3)]⟩
theorem Tryz.k120_c : compF Tryz.prog [13, 14, 15, 17, 18, 19, 20, 21, 24, 25, 26, 27, 28, 29, 30, 31, 32, 33, 34, 35, 36, 37, 38, 39, 40, 41, 42, 43, 44, 45, 46, 47, 48, 49, 50, 55, 56, 57, 58, 59, 60, 61, 62, 63, 64, 65, 66, 67, 68, 69, 70, 71, 72, 73, 74, 75, 76, 77, 78, 79, 80, 81, 82, 83, 84, 85, 86, 87, 88, 89, 90, 91, 92, 93, 94, 95, 96, 101, 102, 103, 104, 105, 106, 107, 108, 109, 110, 111, 112, 113, 114, 115, 116, 117, 118, 119, 120, 121, 122, 123, 124, 125, 130, 131, 132, 133, 134, 135, 136, 137, 138, 139] Tryz.f120 = some Tryz.k120 := by kernel_rfl
def Tryz.k121 : KF := ⟨[(way 0)], (cSeq (cOps (oSet 2 (sV ((xC (.bool false)))) fun v2 => oEnd))
 (cSeq (cSeq (cOps (oLet (sV ((xW 0))) fun v6 => oSet 7 (sV (vLenS (xC v6))) fun v7 => oSet 8 (sV ((xC (.int .i64 0)))) fun v8 => oEnd))
 (cBlock 0 (cLoop (cSeq (cOps (oSet 9 (sV (vLt .i64 (xW 8) (xW 7))) fun v9 => oEnd))
 (cSeq (cCond (xW 9) cSkip
 (cExit 0))
 (cSeq (cBlock 1 (cSeq (cOps (oLet (sV ((xW 8))) fun v10 => oSet 3 (sV ((xC v10))) fun v3 => oEnd))
 (cSeq (cOps (oLet (sV ((xW 0))) fun v11 => oLet (sV ((xW 3))) fun v12 => oLet (sV (vIdxS (xC v11) (xC v12))) fun v13 => oSet 4 (sV ((xC v13))) fun v4 => oEnd))
 (cSeq (cOps (oLet (sV ((xW 4))) fun v14 => oLet (sV (vGe .u8 (xC v14) (xC (.int .u8 97)))) fun v15 => oLet (sG (xC v15) true (sV ((xC v14)))) fun v17 => oLet (sG (xC v15) true (sV (vLe .u8 (xC v17) (xC (.int .u8 122))))) fun v18 => oLet (sV (vPick (xC v15) (xC v18) (xC (.bool false)))) fun v19 => oLet (sG (xC v19) false (sV ((xC v14)))) fun v21 => oLet (sG (xC v19) false (sV (vGe .u8 (xC v21) (xC (.int .u8 65))))) fun v22 => oLet (sG (xC v19) false (sV ((xC v22)))) fun v23 => oLet (sG (xC v23) true (sV ((xC v14)))) fun v24 => oLet (sG (xC v23) true (sV (vLe .u8 (xC v24) (xC (.int .u8 90))))) fun v25 => oLet (sG (xC v19) false (sV (vPick (xC v23) (xC v25) (xC (.bool false))))) fun v26 => oLet (sV (vPick (xC v19) (xC (.bool true)) (xC v26))) fun v27 => oLet (sG (xC v27) false (sV ((xC v14)))) fun v29 => oLet (sG (xC v27) false (sV (vEq .u8 (xC v29) (xC (.int .u8 95))))) fun v30 => oLet (sV (vPick (xC v27) (xC (.bool true)) (xC v30))) fun v31 => oSet 5 (sV ((xC v31))) fun v5 => oEnd))
 (cSeq (cOps (oLet (sV ((xW 5))) fun v32 => oLet (sV (vUn .not (xC v32))) fun v33 => oLet (sG (xC v33) true (sV ((xW 3)))) fun v35 => oLet (sG (xC v33) true (sV (vEq .i64 (xC v35) (xC (.int .i64 0))))) fun v36 => oLet (sG (xC v33) true (sV ((xC v36)))) fun v37 => oLet (sG (xC v37) false (sV ((xW 4)))) fun v38 => oLet (sG (xC v37) false (sV (vLt .u8 (xC v38) (xC (.int .u8 48))))) fun v39 => oLet (sG (xC v33) true (sV (vPick (xC v37) (xC (.bool true)) (xC v39)))) fun v40 => oLet (sG (xC v33) true (sV ((xC v40)))) fun v41 => oLet (sG (xC v41) false (sV ((xW 4)))) fun v42 => oLet (sG (xC v41) false (sV (vGt .u8 (xC v42) (xC (.int .u8 57))))) fun v43 => oLet (sG (xC v33) true (sV (vPick (xC v41) (xC (.bool true)) (xC v43)))) fun v44 => oSet 45 (sV (vPick (xC v33) (xC v44) (xC (.bool false)))) fun v45 => oEnd))
 (cCond (xW 45) (cSeq (cOps (oSet 2 (sV ((xC (.bool false)))) fun v2 => oEnd))
 cRet)
 cSkip))))))
 (cOps (oLet (sV (vAdd .i64 (xW 8) (xC (.int .i64 1)))) fun v46 => oSet 8 (sV ((xC v46))) fun v8 => oEnd))))))))
 (cSeq (cOps (oLet (sV ((xW 0))) fun v47 => oLet (sV (vSNe (xC v47) (xC (.str [])))) fun v48 => oLet (sG (xC v48) true (sV ((xC v47)))) fun v50 => oLet (sG (xC v48) true (sV (vLenS (xC v50)))) fun v51 => oLet (sG (xC v48) true (sV (vLe .i64 (xC v51) (xC (.int .i64 30))))) fun v52 => oLet (sV (vPick (xC v48) (xC v52) (xC (.bool false)))) fun v53 => oSet 2 (sV ((xC v53))) fun v2 => oEnd))
 cRet))), [.tmp (way 2)]⟩
theorem Tryz.k121_c : compF Tryz.prog [6, 10, 11, 12, 13, 14, 15, 16, 17, 18, 19, 20, 21, 22, 23, 24, 25, 26, 27, 28, 29, 30, 31, 32, 33, 34, 35, 36, 37, 38, 39, 40, 41, 42, 43, 44, 46, 47, 48, 49, 50, 51, 52, 53] Tryz.f121 = some Tryz.k121 := by kernel_rfl
def Tryz.k123 : KF := ⟨[(way 0)], (cSeq (cOps (oSet 2 (sV ((xC (.bool false)))) fun v2 => oEnd))
 (cSeq (cOps (oLet (sV ((xW 0))) fun v6 => oLet (sC 178 [(xC v6)]) fun v7 => oLet (sV (vExtract 0 (xC v7))) fun v8 => oLet (sV (vExtract 1 (xC v7))) fun v9 => oSet 3 (sV ((xC v8))) fun v3 => oSet 4 (sV ((xC v9))) fun v4 => oEnd))
 (cSeq (cOps (oLet (sV ((xW 3))) fun v10 => oLet (sV (vSNe (xC v10) (xC (.str [])))) fun v11 => oLet (sG (xC v11) true (sV ((xW 4)))) fun v13 => oLet (sG (xC v11) true (sV (vSEq (xC v13) (xC (.str []))))) fun v14 => oLet (sV (vPick (xC v11) (xC v14) (xC (.bool false)))) fun v15 => oSet 2 (sV ((xC v15))) fun v2 => oEnd))
 cRet))), [.tmp (way 2)]⟩
theorem Tryz.k123_c : compF Tryz.prog [6, 7, 5, 8, 9, 10, 11, 12, 13, 14, 15] Tryz.f123 = some Tryz.k123 := by kernel_rfl
def Tryz.k124 : KF := ⟨[(way 0)], (cSeq (cOps (oSet 1 (sN (aBox (xW 0))) fun v1 => oSet 2 (sV ((xC (.int .i64 0)))) fun v2 => oEnd))
 (cSeq (cOps (oLet (sV (vAddr 4 (xW 1))) fun v10 => oLet (sL (lLoad none (xC v10))) fun v11 => oLet (sV (vEq .i64 (xC v11) (xC (.int .i64 0)))) fun v12 => oLet (sG (xC v12) true (sV (vAddr 5 (xW 1)))) fun v14 => oLet (sG (xC v12) true (sL (lLoad none (xC v14)))) fun v15 => oLet (sG (xC v12) true (sV (vEq .i64 (xC v15) (xC (.int .i64 0))))) fun v16 => oLet (sV (vPick (xC v12) (xC v16) (xC (.bool false)))) fun v17 => oLet (sG (xC v17) true (sV (vAddr 6 (xW 1)))) fun v19 => oLet (sG (xC v17) true (sL (lLoad none (xC v19)))) fun v20 => oLet (sG (xC v17) true (sV (vLen (xC v20)))) fun v21 => oLet (sG (xC v17) true (sV (vEq .i64 (xC v21) (xC (.int .i64 0))))) fun v22 => oLet (sV (vPick (xC v17) (xC v22) (xC (.bool false)))) fun v23 => oLet (sG (xC v23) true (sV (vAddr 7 (xW 1)))) fun v25 => oLet (sG (xC v23) true (sL (lLoad none (xC v25)))) fun v26 => oLet (sG (xC v23) true (sV (vLen (xC v26)))) fun v27 => oLet (sG (xC v23) true (sV (vEq .i64 (xC v27) (xC (.int .i64 0))))) fun v28 => oLet (sV (vPick (xC v23) (xC v28) (xC (.bool false)))) fun v29 => oSet 3 (sV ((xC v29))) fun v3 => oEnd))
 (cSeq (cBlock 0 (cSeq (cOps (oLet (sL (lLoad (some 8) (xW 1))) fun v31 => oLet (sC 179 [(xC v31)]) fun v32 => oLet (sV (vUn .not (xC v32))) fun v33 => oSet 30 (sV ((xC v33))) fun v30 => oEnd))
 (cCond (xW 30) (cSeq (cOps (oSet 2 (sV ((xC (.int .i64 6)))) fun v2 => oEnd))
 cRet)
 (cSeq (cOps (oLet (sL (lLoad (some 8) (xW 1))) fun v35 => oLet (sC 180 [(xC v35)]) fun v36 => oLet (sV (vUn .not (xC v36))) fun v37 => oSet 34 (sV ((xC v37))) fun v34 => oEnd))
 (cCond (xW 34) (cSeq (cOps (oSet 2 (sV ((xC (.int .i64 5)))) fun v2 => oEnd))
 cRet)
 (cSeq (cSeq (cOps (oLet (sV (vAddr 3 (xW 1))) fun v39 => oLet (sL (lLoad none (xC v39))) fun v40 => oLet (sG (xC v40) true (sV (vAddr 2 (xW 1)))) fun v42 => oLet (sG (xC v40) true (sL (lLoad none (xC v42)))) fun v43 => oLet (sG (xC v40) true (sV ((xC v43)))) fun v44 => oLet (sG (xC v44) false (sV ((xW 3)))) fun v45 => oLet (sG (xC v44) false (sV (vUn .not (xC v45)))) fun v46 => oLet (sG (xC v40) true (sV (vPick (xC v44) (xC (.bool true)) (xC v46)))) fun v47 => oLet (sV (vPick (xC v40) (xC v47) (xC (.bool false)))) fun v48 => oSet 38 (sV ((xC v48))) fun v38 => oEnd))
 (cCond (xW 38) cSkip
 (cOps (oLet (sV (vAddr 3 (xW 1))) fun v49 => oLet (sL (lLoad none (xC v49))) fun v50 => oLet (sV (vUn .not (xC v50))) fun v51 => oLet (sG (xC v51) true (sV (vAddr 6 (xW 1)))) fun v53 => oLet (sG (xC v51) true (sL (lLoad none (xC v53)))) fun v54 => oLet (sG (xC v51) true (sV (vLen (xC v54)))) fun v55 => oLet (sG (xC v51) true (sV (vEq .i64 (xC v55) (xC (.int .i64 0))))) fun v56 => oLet (sV (vPick (xC v51) (xC v56) (xC (.bool false)))) fun v57 => oSet 38 (sV ((xC v57))) fun v38 => oEnd))))
 (cCond (xW 38) (cSeq (cOps (oSet 2 (sV ((xC (.int .i64 7)))) fun v2 => oEnd))
 cRet)
 (cSeq (cOps (oLet (sV (vAddr 3 (xW 1))) fun v59 => oLet (sL (lLoad none (xC v59))) fun v60 => oSet 58 (sV ((xC v60))) fun v58 => oEnd))
 (cCond (xW 58) (cSeq (cOps (oSet 2 (sV ((xC (.int .i64 0)))) fun v2 => oEnd))
 cRet)
 (cSeq (cOps (oLet (sV (vAddr 5 (xW 1))) fun v62 => oSee (seeL (lLoad none (xC v62))) fun q1 => oLet (sLo [] 0 (lLoad none (xC v62))) fun v63 => oLet (sL (lLoad (some 8) (xW 1))) fun v64 => oCap fun c3 => oLet (sC 181 [(xC v64)]) fun v65 => oCap fun d3 => oLate [q1] <| oLet (sV (vLt .i64 (xC v63) (xC v65))) fun v66 => oSet 61 (sV ((xC v66))) fun v61 => oEnd))
 (cCond (xW 61) (cSeq (cOps (oSet 2 (sV ((xC (.int .i64 4)))) fun v2 => oEnd))
 cRet)
 cSkip)))))))))))
 (cSeq (cSeq (cOps (oLet (sV (vAddr 6 (xW 1))) fun v67 => oSet 68 (sL (lLoad none (xC v67))) fun v68 => oSet 69 (sV (vLen (xC v68))) fun v69 => oSet 70 (sV ((xC (.int .i64 0)))) fun v70 => oEnd))
 (cBlock 1 (cLoop (cSeq (cOps (oSet 71 (sV (vLt .i64 (xW 70) (xW 69))) fun v71 => oEnd))
 (cSeq (cCond (xW 71) cSkip
 (cExit 1))
 (cSeq (cBlock 2 (cSeq (cOps (oLet (sV (vIdx 6 (xW 68) (xW 70))) fun v72 => oLet (sL (lLoad (some 6) (xC v72))) fun v73 => oSet 5 (sN (aAlloc [.int .i64 0, .int .i64 0, .int .i64 0, .str [], .str [], .str []])) fun v5 => oDo (sM (tStore 6 (xC v5) (xC v73))) (oEnd)))
 (cSeq (cOps (oLet (sL (lLoad (some 6) (xW 5))) fun v74 => oLet (sV (vAddr 6 (xW 1))) fun v75 => oLet (sL (lLoad none (xC v75))) fun v76 => oLet (sV (vLen (xC v76))) fun v77 => oLet (sV (vAddr 5 (xW 1))) fun v78 => oLet (sL (lLoad none (xC v78))) fun v79 => oLet (sC 182 [(xC v74), (xC v77), (xC v79)]) fun v80 => oSet 6 (sV ((xC v80))) fun v6 => oEnd))
 (cSeq (cOps (oLet (sV ((xW 6))) fun v81 => oSet 82 (sV (vNe .i64 (xC v81) (xC (.int .i64 0)))) fun v82 => oEnd))
 (cCond (xW 82) (cSeq (cOps (oLet (sV ((xW 6))) fun v83 => oSet 2 (sV ((xC v83))) fun v2 => oEnd))
 cRet)
 cSkip)))))
 (cOps (oLet (sV (vAdd .i64 (xW 70) (xC (.int .i64 1)))) fun v84 => oSet 70 (sV ((xC v84))) fun v70 => oEnd))))))))
 (cSeq (cSeq (cOps (oLet (sV (vAddr 7 (xW 1))) fun v85 => oSet 86 (sL (lLoad none (xC v85))) fun v86 => oSet 87 (sV (vLen (xC v86))) fun v87 => oSet 88 (sV ((xC (.int .i64 0)))) fun v88 => oEnd))
 (cBlock 3 (cLoop (cSeq (cOps (oSet 89 (sV (vLt .i64 (xW 88) (xW 87))) fun v89 => oEnd))
 (cSeq (cCond (xW 89) cSkip
 (cExit 3))
 (cSeq (cBlock 4 (cSeq (cOps (oLet (sV (vIdx 4 (xW 86) (xW 88))) fun v90 => oLet (sL (lLoad (some 4) (xC v90))) fun v91 => oSet 8 (sN (aAlloc [.int .i64 0, .int .i64 0, .int .i64 0, .str []])) fun v8 => oDo (sM (tStore 4 (xC v8) (xC v91))) (oEnd)))
 (cSeq (cOps (oLet (sL (lLoad (some 4) (xW 8))) fun v92 => oLet (sV (vAddr 6 (xW 1))) fun v93 => oLet (sL (lLoad none (xC v93))) fun v94 => oLet (sV (vLen (xC v94))) fun v95 => oLet (sC 183 [(xC v92), (xC v95)]) fun v96 => oSet 9 (sV ((xC v96))) fun v9 => oEnd))
 (cSeq (cOps (oLet (sV ((xW 9))) fun v97 => oSet 98 (sV (vNe .i64 (xC v97) (xC (.int .i64 0)))) fun v98 => oEnd))
 (cCond (xW 98) (cSeq (cOps (oLet (sV ((xW 9))) fun v99 => oSet 2 (sV ((xC v99))) fun v2 => oEnd))
 cRet)
 cSkip)))))
 (cOps (oLet (sV (vAdd .i64 (xW 88) (xC (.int .i64 1)))) fun v100 => oSet 88 (sV ((xC v100))) fun v88 => oEnd))))))))
 (cSeq (cOps (oSet 2 (sV ((xC (.int .i64 0)))) fun v2 => oEnd))
 cRet)))))), [.tmp (way 2)]⟩
theorem Tryz.k124_c : compF Tryz.prog [10, 11, 12, 13, 14, 15, 16, 17, 18, 19, 20, 21, 22, 23, 24, 25, 26, 27, 28, 29, 31, 32, 33, 35, 36, 37, 39, 40, 41, 42, 43, 44, 45, 46, 47, 48, 49, 50, 51, 52, 53, 54, 55, 56, 57, 59, 60, 62, 63, 64, 65, 66, 67, 72, 73, 74, 75, 76, 77, 78, 79, 80, 81, 83, 84, 85, 90, 91, 92, 93, 94, 95, 96, 97, 99, 100] Tryz.f124 = some Tryz.k124 := by kernel_rfl
def Tryz.k125 : KF := ⟨[(way 0)], (cSeq (cOps (oSet 1 (sN (aBox (xW 0))) fun v1 => oSet 2 (sV ((xC (.nilslice)))) fun v2 => oEnd))
 (cSeq (cOps (oLet (sL (lLoad (some 7) (xW 1))) fun v3 => oLet (sC 174 [(xC v3)]) fun v4 => oLet (sV (vNil (xC v4))) fun v5 => oLet (sV (vAddr 0 (xC v5))) fun v6 => oLet (sL (lLoad none (xC v6))) fun v7 => oSet 2 (sV ((xC v7))) fun v2 => oEnd))
 cRet)), [.tmp (way 2)]⟩
theorem Tryz.k125_c : compF Tryz.prog [3, 4, 5, 6, 7] Tryz.f125 = some Tryz.k125 := by kernel_rfl
def Tryz.k126 : KF := ⟨[(way 0), (way 1)], (cSeq (cOps (oSet 2 (sN (aBox (xW 0))) fun v2 => oSet 3 (sV ((xC (.bool false)))) fun v3 => oEnd))
 (cSeq (cOps (oLet (sV (vAddr 0 (xW 2))) fun v4 => oLet (sL (lLoad none (xC v4))) fun v5 => oLet (sV (vAddr 0 (xW 1))) fun v6 => oLet (sL (lLoad none (xC v6))) fun v7 => oLet (sV (vSEq (xC v5) (xC v7))) fun v8 => oSet 3 (sV ((xC v8))) fun v3 => oEnd))
 cRet)), [.tmp (way 3)]⟩
theorem Tryz.k126_c : compF Tryz.prog [4, 5, 6, 7, 8] Tryz.f126 = some Tryz.k126 := by kernel_rfl
def Tryz.k127 : KF := ⟨[(way 0), (way 1)], (cSeq (cOps (oSet 4 (sV ((xC (.bool false)))) fun v4 => oEnd))
 (cSeq (cOps (oLet (sV ((xW 0))) fun v5 => oLet (sV ((xW 1))) fun v6 => oLet (sC 109 [(xC v5), (xC v6)]) fun v7 => oLet (sV (vGe .i64 (xC v7) (xC (.int .i64 0)))) fun v8 => oSet 4 (sV ((xC v8))) fun v4 => oEnd))
 cRet)), [.tmp (way 4)]⟩
theorem Tryz.k127_c : compF Tryz.prog [5, 6, 7, 8] Tryz.f127 = some Tryz.k127 := by kernel_rfl
def Tryz.k128 : KF := ⟨[(way 0), (way 1), (way 2)], (cSeq (cOps (oSet 6 (sN (aAlloc [.str [], .str [], .bool false, .bool false, .int .i64 0, .int .i64 0, .nilslice, .nilslice])) fun v6 => oEnd))
 (cSeq (cOps (oLet (sV ((xW 0))) fun v8 => oLet (sV ((xW 1))) fun v9 => oLet (sV ((xW 2))) fun v10 => oLet (sV (vFill [.int .i64 0, .int .i64 0, .int .i64 0, .str [], .str [], .str []] [(0, 1)] [(xC (.int .i64 36))])) fun v11 => oLet (sN (aRow 1 6 [6] [(xC v11)])) fun v12 => oLet (sV (vFill [.str [], .str [], .bool false, .bool false, .int .i64 0, .int .i64 0, .nilslice, .nilslice] [(0, 1), (1, 1), (2, 1), (6, 1)] [(xC v8), (xC v9), (xC v10), (xC v12)])) fun v13 => oSet 7 (sN (aAlloc [.str [], .str [], .bool false, .bool false, .int .i64 0, .int .i64 0, .nilslice, .nilslice])) fun v7 => oDo (sM (tStore 8 (xC v7) (xC v13))) (oEnd)))
 (cSeq (cOps (oLet (sL (lLoad (some 8) (xW 7))) fun v14 => oLet (sC 181 [(xC v14)]) fun v15 => oLet (sV (vAddr 5 (xW 7))) fun v16 => oDo (sM (tStore 1 (xC v16) (xC v15))) (oEnd)))
 (cSeq (cOps (oLet (sL (lLoad (some 8) (xW 7))) fun v17 => oDo (sM (tStore 8 (xW 6) (xC v17))) (oEnd)))
 cRet)))), [.cell (way 6) (some 8)]⟩
theorem Tryz.k128_c : compF Tryz.prog [8, 9, 10, 11, 12, 13, 14, 15, 16, 17] Tryz.f128 = some Tryz.k128 := by kernel_rfl
def Tryz.k129 : KF := ⟨[(way 0)], (cSeq (cOps (oSet 2 (sV ((xC (.nilslice)))) fun v2 => oEnd))
 (cSeq (cSeq (cOps (oLet (sV ((xW 0))) fun v3 => oSet 4 (sL (lEq .slice (xC v3) (xC (.nilslice)))) fun v4 => oEnd))
 (cCond (xW 4) (cSeq (cOps (oSet 2 (sV ((xC (.nilslice)))) fun v2 => oEnd))
 cRet)
 cSkip))
 (cSeq (cOps (oLet (sN (aRow 0 1 [] [])) fun v5 => oLet (sV ((xW 0))) fun v6 => oLet (sM (tAppend 16 1 (xC v5) (xC v6))) fun v7 => oSet 2 (sV ((xC v7))) fun v2 => oEnd))
 cRet))), [.tmp (way 2)]⟩
theorem Tryz.k129_c : compF Tryz.prog [3, 5, 6, 7] Tryz.f129 = some Tryz.k129 := by kernel_rfl
def Tryz.k130 : KF := ⟨[(way 0)], (cSeq (cOps (oSet 2 (sV ((xC (.nilslice)))) fun v2 => oEnd))
 (cSeq (cSeq (cOps (oLet (sV ((xW 0))) fun v3 => oSet 4 (sL (lEq .slice (xC v3) (xC (.nilslice)))) fun v4 => oEnd))
 (cCond (xW 4) (cSeq (cOps (oSet 2 (sV ((xC (.nilslice)))) fun v2 => oEnd))
 cRet)
 cSkip))
 (cSeq (cOps (oLet (sN (aRow 0 3 [] [])) fun v5 => oLet (sV ((xW 0))) fun v6 => oLet (sM (tAppend 40 3 (xC v5) (xC v6))) fun v7 => oSet 2 (sV ((xC v7))) fun v2 => oEnd))
 cRet))), [.tmp (way 2)]⟩
theorem Tryz.k130_c : compF Tryz.prog [3, 5, 6, 7] Tryz.f130 = some Tryz.k130 := by kernel_rfl
def Tryz.k131 : KF := ⟨[(way 0)], (cSeq (cOps (oSet 2 (sV ((xC (.nilslice)))) fun v2 => oEnd))
 (cSeq (cSeq (cOps (oLet (sV ((xW 0))) fun v3 => oSet 4 (sL (lEq .slice (xC v3) (xC (.nilslice)))) fun v4 => oEnd))
 (cCond (xW 4) (cSeq (cOps (oSet 2 (sV ((xC (.nilslice)))) fun v2 => oEnd))
 cRet)
 cSkip))
 (cSeq (cOps (oLet (sN (aRow 0 8 [] [])) fun v5 => oLet (sV ((xW 0))) fun v6 => oLet (sM (tAppend 104 8 (xC v5) (xC v6))) fun v7 => oSet 2 (sV ((xC v7))) fun v2 => oEnd))
 cRet))), [.tmp (way 2)]⟩
theorem Tryz.k131_c : compF Tryz.prog [3, 5, 6, 7] Tryz.f131 = some Tryz.k131 := by kernel_rfl
def Tryz.k132 : KF := ⟨[(way 0)], (cSeq (cOps (oSet 1 (sN (aBox (xW 0))) fun v1 => oSet 2 (sN (aAlloc [.str [], .str [], .bool false, .bool false, .int .i64 0, .int .i64 0, .nilslice, .nilslice])) fun v2 => oEnd))
 (cSeq (cOps (oLet (sV (vAddr 6 (xW 1))) fun v3 => oLet (sL (lLoad none (xC v3))) fun v4 => oCap fun c2 => oLet (sC 184 [(xC v4)]) fun v5 => oCap fun d2 => oLet (sV (vAddr 7 (xW 1))) fun v6 => oLet (sLo [c2] d2.next (lLoad none (xC v6))) fun v7 => oCap fun c5 => oLet (sC 185 [(xC v7)]) fun v8 => oCap fun d5 => oLet (sV (vAddr 6 (xW 1))) fun v9 => oCap fun c7 => oDo (sM (tStore 1 (xC v9) (xC v5))) (oCap fun d7 => oLet (sV (vAddr 7 (xW 1))) fun v10 => oCap fun c9 => oDo (sM (tStore 1 (xC v10) (xC v8))) (oCap fun d9 => oEnd))))
 (cSeq (cOps (oLet (sL (lLoad (some 8) (xW 1))) fun v11 => oDo (sM (tStore 8 (xW 2) (xC v11))) (oEnd)))
 cRet))), [.cell (way 2) (some 8)]⟩
theorem Tryz.k132_c : compF Tryz.prog [3, 4, 5, 6, 7, 8, 9, 10, 11] Tryz.f132 = some Tryz.k132 := by kernel_rfl
def Tryz.k133 : KF := ⟨[(way 0), (way 1), (way 2), (way 3), (way 4)], (cSeq (cOps (oSet 10 (sV ((xC (.bool true)))) fun v10 => oEnd))
 (cSeq (cOps (oSet 11 (sV ((xC (.bool true)))) fun v11 => oEnd))
 (cBlock 0 (cLoop (cBlock 1 (cSeq (cOps (oLet (sV ((xW 2))) fun v21 => oLet (sV ((xW 1))) fun v22 => oLet (sV (vSub .i64 (xC v21) (xC v22))) fun v23 => oSet 12 (sV ((xC v23))) fun v12 => oEnd))
 (cSeq (cSeq (cOps (oLet (sV ((xW 12))) fun v24 => oSet 25 (sV (vLe .i64 (xC v24) (xC (.int .i64 12)))) fun v25 => oEnd))
 (cCond (xW 25) (cSeq (cOps (oLet (sV ((xW 0))) fun v26 => oLet (sV ((xW 1))) fun v27 => oLet (sV ((xW 2))) fun v28 => oLet (sV ((xW 4))) fun v29 => oLet (sC 186 [(xC v26), (xC v27), (xC v28), (xC v29)]) fun v30 => oEnd))
 cRet)
 cSkip))
 (cSeq (cSeq (cOps (oLet (sV ((xW 3))) fun v31 => oSet 32 (sV (vEq .i64 (xC v31) (xC (.int .i64 0)))) fun v32 => oEnd))
 (cCond (xW 32) (cSeq (cOps (oLet (sV ((xW 0))) fun v33 => oLet (sV ((xW 1))) fun v34 => oLet (sV ((xW 2))) fun v35 => oLet (sV ((xW 4))) fun v36 => oLet (sC 187 [(xC v33), (xC v34), (xC v35), (xC v36)]) fun v37 => oEnd))
 cRet)
 cSkip))
 (cSeq (cSeq (cOps (oLet (sV ((xW 10))) fun v38 => oSet 39 (sV (vUn .not (xC v38))) fun v39 => oEnd))
 (cCond (xW 39) (cSeq (cOps (oLet (sV ((xW 0))) fun v40 => oLet (sV ((xW 1))) fun v41 => oLet (sV ((xW 2))) fun v42 => oLet (sV ((xW 4))) fun v43 => oLet (sC 188 [(xC v40), (xC v41), (xC v42), (xC v43)]) fun v44 => oEnd))
 (cOps (oLet (sV ((xW 3))) fun v45 => oLet (sV (vSub .i64 (xC v45) (xC (.int .i64 1)))) fun v46 => oSet 3 (sV ((xC v46))) fun v3 => oEnd)))
 cSkip))
 (cSeq (cOps (oLet (sV ((xW 0))) fun v48 => oLet (sV ((xW 1))) fun v49 => oLet (sV ((xW 2))) fun v50 => oLet (sV ((xW 4))) fun v51 => oLet (sC 189 [(xC v48), (xC v49), (xC v50), (xC v51)]) fun v52 => oLet (sV (vExtract 0 (xC v52))) fun v53 => oLet (sV (vExtract 1 (xC v52))) fun v54 => oSet 13 (sV ((xC v53))) fun v13 => oSet 14 (sV ((xC v54))) fun v14 => oEnd))
 (cSeq (cSeq (cOps (oLet (sV ((xW 14))) fun v55 => oSet 56 (sV (vEq .i64 (xC v55) (xC (.int .i64 2)))) fun v56 => oEnd))
 (cCond (xW 56) (cSeq (cOps (oLet (sV ((xW 0))) fun v57 => oLet (sV ((xW 1))) fun v58 => oLet (sV ((xW 2))) fun v59 => oLet (sV ((xW 4))) fun v60 => oLet (sC 190 [(xC v57), (xC v58), (xC v59), (xC v60)]) fun v61 => oEnd))
 (cSeq (cOps (oLet (sV ((xW 2))) fun v62 => oLet (sV (vSub .i64 (xC v62) (xC (.int .i64 1)))) fun v63 => oLet (sV ((xW 13))) fun v64 => oLet (sV ((xW 1))) fun v65 => oLet (sV (vSub .i64 (xC v64) (xC v65))) fun v66 => oLet (sV (vSub .i64 (xC v63) (xC v66))) fun v67 => oSet 13 (sV ((xC v67))) fun v13 => oEnd))
 (cOps (oSet 14 (sV ((xC (.int .i64 1)))) fun v14 => oEnd))))
 cSkip))
 (cSeq (cSeq (cOps (oLet (sV ((xW 10))) fun v68 => oLet (sG (xC v68) true (sV ((xW 11)))) fun v70 => oLet (sV (vPick (xC v68) (xC v70) (xC (.bool false)))) fun v71 => oLet (sG (xC v71) true (sV ((xW 14)))) fun v73 => oLet (sG (xC v71) true (sV (vEq .i64 (xC v73) (xC (.int .i64 1))))) fun v74 => oSet 75 (sV (vPick (xC v71) (xC v74) (xC (.bool false)))) fun v75 => oEnd))
 (cCond (xW 75) (cSeq (cOps (oLet (sV ((xW 0))) fun v76 => oLet (sV ((xW 1))) fun v77 => oLet (sV ((xW 2))) fun v78 => oLet (sV ((xW 4))) fun v79 => oSet 80 (sC 191 [(xC v76), (xC v77), (xC v78), (xC v79)]) fun v80 => oEnd))
 (cCond (xW 80) cRet
 cSkip))
 cSkip))
 (cSeq (cSeq (cOps (oLet (sV ((xW 1))) fun v81 => oLet (sV (vGt .i64 (xC v81) (xC (.int .i64 0)))) fun v82 => oLet (sG (xC v82) true (sV ((xW 4)))) fun v84 => oLet (sG (xC v82) true (sV ((xW 0)))) fun v85 => oLet (sG (xC v82) true (sV ((xC v81)))) fun v86 => oLet (sG (xC v82) true (sV (vSub .i64 (xC v86) (xC (.int .i64 1))))) fun v87 => oLet (sG (xC v82) true (sV (vIdx 7 (xC v85) (xC v87)))) fun v88 => oLet (sG (xC v82) true (sL (lLoad (some 7) (xC v88)))) fun v89 => oLet (sG (xC v82) true (sV ((xW 0)))) fun v90 => oLet (sG (xC v82) true (sV ((xW 13)))) fun v91 => oLet (sG (xC v82) true (sV (vIdx 7 (xC v90) (xC v91)))) fun v92 => oLet (sG (xC v82) true (sL (lLoad (some 7) (xC v92)))) fun v93 => oLet (sG (xC v82) true (sX (xC v84) [(xC v89), (xC v93)])) fun v94 => oLet (sG (xC v82) true (sV (vLt .i64 (xC v94) (xC (.int .i64 0))))) fun v95 => oLet (sG (xC v82) true (sV (vUn .not (xC v95)))) fun v96 => oSet 97 (sV (vPick (xC v82) (xC v96) (xC (.bool false)))) fun v97 => oEnd))
 (cCond (xW 97) (cSeq (cOps (oLet (sV ((xW 0))) fun v98 => oLet (sV ((xW 1))) fun v99 => oLet (sV ((xW 2))) fun v100 => oLet (sV ((xW 13))) fun v101 => oLet (sV ((xW 4))) fun v102 => oLet (sC 192 [(xC v98), (xC v99), (xC v100), (xC v101), (xC v102)]) fun v103 => oSet 15 (sV ((xC v103))) fun v15 => oEnd))
 (cSeq (cOps (oLet (sV ((xW 15))) fun v104 => oSet 1 (sV ((xC v104))) fun v1 => oEnd))
 (cExit 1)))
 cSkip))
 (cSeq (cOps (oLet (sV ((xW 0))) fun v106 => oLet (sV ((xW 1))) fun v107 => oLet (sV ((xW 2))) fun v108 => oLet (sV ((xW 13))) fun v109 => oLet (sV ((xW 4))) fun v110 => oLet (sC 193 [(xC v106), (xC v107), (xC v108), (xC v109), (xC v110)]) fun v111 => oLet (sV (vExtract 0 (xC v111))) fun v112 => oLet (sV (vExtract 1 (xC v111))) fun v113 => oSet 16 (sV ((xC v112))) fun v16 => oSet 17 (sV ((xC v113))) fun v17 => oEnd))
 (cSeq (cOps (oLet (sV ((xW 17))) fun v114 => oSet 11 (sV ((xC v114))) fun v11 => oEnd))
 (cSeq (cOps (oLet (sV ((xW 16))) fun v115 => oLet (sV ((xW 1))) fun v116 => oLet (sV (vSub .i64 (xC v115) (xC v116))) fun v117 => oLet (sV ((xW 2))) fun v118 => oLet (sV (vSub .i64 (xC v118) (xC v115))) fun v120 => oSet 18 (sV ((xC v117))) fun v18 => oSet 19 (sV ((xC v120))) fun v19 => oEnd))
 (cSeq (cOps (oLet (sV ((xW 12))) fun v121 => oLet (sV (vAr .quo .i64 (xC v121) (xC (.int .i64 8)))) fun v122 => oSet 20 (sV ((xC v122))) fun v20 => oEnd))
 (cSeq (cOps (oLet (sV ((xW 18))) fun v123 => oLet (sV ((xW 19))) fun v124 => oSet 125 (sV (vLt .i64 (xC v123) (xC v124))) fun v125 => oEnd))
 (cCond (xW 125) (cSeq (cOps (oLet (sV ((xW 18))) fun v126 => oLet (sV ((xW 20))) fun v127 => oLet (sV (vGe .i64 (xC v126) (xC v127))) fun v128 => oSet 10 (sV ((xC v128))) fun v10 => oEnd))
 (cSeq (cOps (oLet (sV ((xW 0))) fun v129 => oLet (sV ((xW 1))) fun v130 => oLet (sV ((xW 16))) fun v131 => oLet (sV ((xW 3))) fun v132 => oLet (sV ((xW 4))) fun v133 => oLet (sC 133 [(xC v129), (xC v130), (xC v131), (xC v132), (xC v133)]) fun v134 => oEnd))
 (cOps (oLet (sV ((xW 16))) fun v135 => oLet (sV (vAdd .i64 (xC v135) (xC (.int .i64 1)))) fun v136 => oSet 1 (sV ((xC v136))) fun v1 => oEnd))))
 (cSeq (cOps (oLet (sV ((xW 19))) fun v137 => oLet (sV ((xW 20))) fun v138 => oLet (sV (vGe .i64 (xC v137) (xC v138))) fun v139 => oSet 10 (sV ((xC v139))) fun v10 => oEnd))
 (cSeq (cOps (oLet (sV ((xW 0))) fun v140 => oLet (sV ((xW 16))) fun v141 => oLet (sV (vAdd .i64 (xC v141) (xC (.int .i64 1)))) fun v142 => oLet (sV ((xW 2))) fun v143 => oLet (sV ((xW 3))) fun v144 => oLet (sV ((xW 4))) fun v145 => oLet (sC 133 [(xC v140), (xC v142), (xC v143), (xC v144), (xC v145)]) fun v146 => oEnd))
 (cOps (oLet (sV ((xW 16))) fun v147 => oSet 2 (sV ((xC v147))) fun v2 => oEnd))))))))))))))))))))))), []⟩
theorem Tryz.k133_c : compF Tryz.prog [21, 22, 23, 24, 26, 27, 28, 29, 30, 31, 33, 34, 35, 36, 37, 38, 40, 41, 42, 43, 44, 45, 46, 48, 49, 50, 51, 52, 47, 53, 54, 55, 57, 58, 59, 60, 61, 62, 63, 64, 65, 66, 67, 68, 69, 70, 71, 72, 73, 74, 76, 77, 78, 79, 81, 82, 83, 84, 85, 86, 87, 88, 89, 90, 91, 92, 93, 94, 95, 96, 98, 99, 100, 101, 102, 103, 104, 106, 107, 108, 109, 110, 111, 105, 112, 113, 114, 115, 116, 117, 118, 119, 120, 121, 122, 123, 124, 126, 127, 128, 129, 130, 131, 132, 133, 134, 135, 136, 137, 138, 139, 140, 141, 142, 143, 144, 145, 146, 147] Tryz.f133 = some Tryz.k133 := by kernel_rfl
def Tryz.k134 : KF := ⟨[(way 0)], (cSeq (cOps (oSet 2 (sV ((xC (.int .i64 0)))) fun v2 => oEnd))
 (cSeq (cCond (xC (.bool false)) (cSeq (cOps (oLet (sV ((xW 0))) fun v3 => oLet (sV (vToI .u32 (xC v3))) fun v4 => oLet (sC 194 [(xC v4)]) fun v5 => oSet 2 (sV ((xC v5))) fun v2 => oEnd))
 cRet)
 cSkip)
 (cSeq (cOps (oLet (sV ((xW 0))) fun v6 => oLet (sC 195 [(xC v6)]) fun v7 => oSet 2 (sV ((xC v7))) fun v2 => oEnd))
 cRet))), [.tmp (way 2)]⟩
theorem Tryz.k134_c : compF Tryz.prog [3, 4, 5, 6, 7] Tryz.f134 = some Tryz.k134 := by kernel_rfl
def Tryz.k135 : KF := ⟨[(way 0)], (cSeq (cOps (oSet 2 (sV ((xC (.bool false)))) fun v2 => oEnd))
 (cSeq (cOps (oLet (sV ((xW 0))) fun v3 => oLet (sV (vSNe (xC v3) (xC v3))) fun v5 => oSet 2 (sV ((xC v5))) fun v2 => oEnd))
 cRet)), [.tmp (way 2)]⟩
theorem Tryz.k135_c : compF Tryz.prog [3, 4, 5] Tryz.f135 = some Tryz.k135 := by kernel_rfl
def Tryz.k136 : KF := ⟨[(way 0), (way 1)], (cSeq (cOps (oSet 4 (sN (aAlloc [.str [], .str [], .bool false, .bool false, .nilslice, .nilslice, .nilslice])) fun v4 => oSet 5 (sV ((xC (.bool false)))) fun v5 => oEnd))
 (cSeq (cSeq (cOps (oLet (sV ((xW 0))) fun v7 => oSet 8 (sL (lEq (.ptr true) (xC v7) (xC (.nilptr)))) fun v8 => oEnd))
 (cCond (xW 8) (cSeq (cOps (oLet (sL (lLoad (some 7) (xW 4))) fun v9 => oDo (sM (tStore 7 (xW 4) (xC v9))) (oSet 5 (sV ((xC (.bool false)))) fun v5 => oEnd)))
 cRet)
 cSkip))
 (cSeq (cOps (oLet (sV ((xW 0))) fun v11 => oLet (sV (vNil (xC v11))) fun v12 => oLet (sV (vAddr 1 (xC v12))) fun v13 => oLet (sL (lLoad none (xC v13))) fun v14 => oLet (sV ((xW 1))) fun v15 => oLet (sL (lLookup (.one .str) (some (.int .i64 0)) true (xC v14) (xC v15))) fun v16 => oLet (sV (vExtract 0 (xC v16))) fun v17 => oLet (sV (vExtract 1 (xC v16))) fun v18 => oSet 6 (sV ((xC v17))) fun v6 => oSet 5 (sV ((xC v18))) fun v5 => oEnd))
 (cSeq (cSeq (cOps (oSet 19 (sV ((xW 5))) fun v19 => oEnd))
 (cCond (xW 19) (cOps (oLet (sV ((xW 0))) fun v20 => oLet (sV (vNil (xC v20))) fun v21 => oLet (sV (vAddr 0 (xC v21))) fun v22 => oLet (sL (lLoad none (xC v22))) fun v23 => oLet (sV ((xW 6))) fun v24 => oLet (sV (vIdx 7 (xC v23) (xC v24))) fun v25 => oLet (sL (lLoad (some 7) (xC v25))) fun v26 => oDo (sM (tStore 7 (xW 4) (xC v26))) (oEnd)))
 cSkip))
 (cSeq (cOps (oLet (sL (lLoad (some 7) (xW 4))) fun v27 => oLet (sV ((xW 5))) fun v28 => oDo (sM (tStore 7 (xW 4) (xC v27))) (oSet 5 (sV ((xC v28))) fun v5 => oEnd)))
 cRet))))), [.cell (way 4) (some 7), .tmp (way 5)]⟩
theorem Tryz.k136_c : compF Tryz.prog [7, 9, 11, 12, 13, 14, 15, 16, 10, 17, 18, 20, 21, 22, 23, 24, 25, 26, 27, 28] Tryz.f136 = some Tryz.k136 := by kernel_rfl
def Tryz.k137 : KF := ⟨[(way 0), (way 1)], (cSeq (cOps (oSet 4 (sV ((xC (.bool false)))) fun v4 => oEnd))
 (cSeq (cOps (oLet (sV ((xW 0))) fun v5 => oLet (sV ((xW 1))) fun v6 => oLet (sC 196 [(xC v5), (xC v6)]) fun v7 => oLet (sV (vGe .i64 (xC v7) (xC (.int .i64 0)))) fun v8 => oSet 4 (sV ((xC v8))) fun v4 => oEnd))
 cRet)), [.tmp (way 4)]⟩
theorem Tryz.k137_c : compF Tryz.prog [5, 6, 7, 8] Tryz.f137 = some Tryz.k137 := by kernel_rfl
def Tryz.k138 : KF := ⟨[(way 0), (way 1), (way 2)], (cSeq (cOps (oLet (sV ((xW 0))) fun v12 => oLet (sV ((xW 1))) fun v13 => oSet 14 (sC 139 [(xC v12), (xC v13)]) fun v14 => oSet 15 (sV (vLen (xC v14))) fun v15 => oSet 16 (sV ((xC (.int .i64 0)))) fun v16 => oEnd))
 (cBlock 0 (cLoop (cSeq (cOps (oSet 17 (sV (vLt .i64 (xW 16) (xW 15))) fun v17 => oEnd))
 (cSeq (cCond (xW 17) cSkip
 (cExit 0))
 (cSeq (cBlock 1 (cSeq (cOps (oLet (sV (vIdx 1 (xW 14) (xW 16))) fun v18 => oLet (sL (lLoad none (xC v18))) fun v19 => oSet 7 (sV ((xC v19))) fun v7 => oEnd))
 (cSeq (cOps (oLet (sV ((xW 0))) fun v21 => oLet (sV ((xW 7))) fun v22 => oLet (sC 136 [(xC v21), (xC v22)]) fun v23 => oLet (sV (vExtract 0 (xC v23))) fun v24 => oLet (sV (vExtract 1 (xC v23))) fun v25 => oSet 8 (sN (aAlloc [.str [], .str [], .bool false, .bool false, .nilslice, .nilslice, .nilslice])) fun v8 => oDo (sM (tStore 7 (xC v8) (xC v24))) (oEnd)))
 (cSeq (cOps (oLet (sV (vAddr 4 (xW 8))) fun v26 => oSet 27 (sL (lLoad none (xC v26))) fun v27 => oSet 28 (sV (vLen (xC v27))) fun v28 => oSet 29 (sV ((xC (.int .i64 0)))) fun v29 => oEnd))
 (cBlock 2 (cLoop (cSeq (cOps (oSet 30 (sV (vLt .i64 (xW 29) (xW 28))) fun v30 => oEnd))
 (cSeq (cCond (xW 30) cSkip
 (cExit 2))
 (cSeq (cBlock 3 (cSeq (cOps (oLet (sV (vIdx 1 (xW 27) (xW 29))) fun v31 => oLet (sL (lLoad none (xC v31))) fun v32 => oSet 11 (sV ((xC v32))) fun v11 => oEnd))
 (cSeq (cOps (oLet (sV ((xW 2))) fun v33 => oLet (sV ((xW 11))) fun v34 => oLet (sL (lLookup (.one .str) (some (.int .i64 0)) false (xC v33) (xC v34))) fun v35 => oSet 36 (sV (vEq .i64 (xC v35) (xC (.int .i64 0)))) fun v36 => oEnd))
 (cCond (xW 36) (cSeq (cOps (oLet (sV ((xW 2))) fun v37 => oLet (sV ((xW 11))) fun v38 => oLet (sL (lLookup (.one .str) (some (.int .i64 0)) false (xC v37) (xC v38))) fun v39 => oLet (sV (vAdd .i64 (xC v39) (xC (.int .i64 1)))) fun v40 => oDo (sM (tMapPut (.one .str) (xC v37) (xC v38) (xC v40))) (oEnd)))
 (cOps (oLet (sV ((xW 0))) fun v41 => oLet (sV ((xW 11))) fun v42 => oLet (sV ((xW 2))) fun v43 => oLet (sC 138 [(xC v41), (xC v42), (xC v43)]) fun v44 => oEnd)))
 cSkip))))
 (cOps (oLet (sV (vAdd .i64 (xW 29) (xC (.int .i64 1)))) fun v45 => oSet 29 (sV ((xC v45))) fun v29 => oEnd)))))))))))
 (cOps (oLet (sV (vAdd .i64 (xW 16) (xC (.int .i64 1)))) fun v46 => oSet 16 (sV ((xC v46))) fun v16 => oEnd)))))))), []⟩
theorem Tryz.k138_c : compF Tryz.prog [12, 13, 18, 19, 21, 22, 23, 20, 24, 25, 9, 26, 31, 32, 33, 34, 35, 37, 38, 39, 40, 41, 42, 43, 44, 45, 46] Tryz.f138 = some Tryz.k138 := by kernel_rfl
def Tryz.k139 : KF := ⟨[(way 0), (way 1)], (cSeq (cOps (oSet 4 (sV ((xC (.nilslice)))) fun v4 => oEnd))
 (cScope (cSeq cSkip
 (cSeq (cOps (oLet (sV ((xW 0))) fun v8 => oLet (sV ((xW 1))) fun v9 => oLet (sC 136 [(xC v8), (xC v9)]) fun v10 => oLet (sV (vExtract 0 (xC v10))) fun v11 => oLet (sV (vExtract 1 (xC v10))) fun v12 => oSet 5 (sN (aAlloc [.str [], .str [], .bool false, .bool false, .nilslice, .nilslice, .nilslice])) fun v5 => oDo (sM (tStore 7 (xC v5) (xC v11))) (oSet 6 (sV ((xC v12))) fun v6 => oEnd)))
 (cSeq (cSeq (cOps (oLet (sV ((xW 6))) fun v13 => oLet (sG (xC v13) true (sV ((xW 4)))) fun v15 => oLet (sG (xC v13) true (sV ((xW 1)))) fun v16 => oLet (sG (xC v13) true (sC 137 [(xC v15), (xC v16)])) fun v17 => oLet (sG (xC v13) true (sV (vUn .not (xC v17)))) fun v18 => oSet 19 (sV (vPick (xC v13) (xC v18) (xC (.bool false)))) fun v19 => oEnd))
 (cCond (xW 19) (cSeq (cOps (oLet (sV ((xW 4))) fun v20 => oLet (sV ((xW 1))) fun v21 => oLet (sN (aRow 1 1 [1] [(xC v21)])) fun v22 => oLet (sM (tAppend 16 1 (xC v20) (xC v22))) fun v23 => oSet 4 (sV ((xC v23))) fun v4 => oEnd))
 (cSeq (cOps (oLet (sV (vAddr 1 (xW 5))) fun v24 => oLet (sL (lLoad none (xC v24))) fun v25 => oSet 1 (sV ((xC v25))) fun v1 => oEnd))
 (cGoto 0)))
 cSkip))
 (cSeq (cOps (oLet (sV ((xW 4))) fun v26 => oSet 4 (sV ((xC v26))) fun v4 => oEnd))
 cRet)))) [(0, (cSeq cSkip
 (cSeq (cOps (oLet (sV ((xW 0))) fun v8 => oLet (sV ((xW 1))) fun v9 => oLet (sC 136 [(xC v8), (xC v9)]) fun v10 => oLet (sV (vExtract 0 (xC v10))) fun v11 => oLet (sV (vExtract 1 (xC v10))) fun v12 => oSet 5 (sN (aAlloc [.str [], .str [], .bool false, .bool false, .nilslice, .nilslice, .nilslice])) fun v5 => oDo (sM (tStore 7 (xC v5) (xC v11))) (oSet 6 (sV ((xC v12))) fun v6 => oEnd)))
 (cSeq (cSeq (cOps (oLet (sV ((xW 6))) fun v13 => oLet (sG (xC v13) true (sV ((xW 4)))) fun v15 => oLet (sG (xC v13) true (sV ((xW 1)))) fun v16 => oLet (sG (xC v13) true (sC 137 [(xC v15), (xC v16)])) fun v17 => oLet (sG (xC v13) true (sV (vUn .not (xC v17)))) fun v18 => oSet 19 (sV (vPick (xC v13) (xC v18) (xC (.bool false)))) fun v19 => oEnd))
 (cCond (xW 19) (cSeq (cOps (oLet (sV ((xW 4))) fun v20 => oLet (sV ((xW 1))) fun v21 => oLet (sN (aRow 1 1 [1] [(xC v21)])) fun v22 => oLet (sM (tAppend 16 1 (xC v20) (xC v22))) fun v23 => oSet 4 (sV ((xC v23))) fun v4 => oEnd))
 (cSeq (cOps (oLet (sV (vAddr 1 (xW 5))) fun v24 => oLet (sL (lLoad none (xC v24))) fun v25 => oSet 1 (sV ((xC v25))) fun v1 => oEnd))
 (cGoto 0)))
 cSkip))
 (cSeq (cOps (oLet (sV ((xW 4))) fun v26 => oSet 4 (sV ((xC v26))) fun v4 => oEnd))
 cRet)))))])), [.tmp (way 4)]⟩
theorem Tryz.k139_c : compF Tryz.prog [8, 9, 10, 7, 11, 12, 13, 14, 15, 16, 17, 18, 20, 21, 22, 23, 24, 25, 26] Tryz.f139 = some Tryz.k139 := by kernel_rfl
def Tryz.k142 : KF := ⟨[(way 0), (way 1)], (cSeq (cOps (oSet 4 (sV ((xC (.bool false)))) fun v4 => oEnd))
 (cSeq (cOps (oLet (sV ((xW 0))) fun v5 => oLet (sV ((xW 1))) fun v6 => oLet (sC 198 [(xC v5), (xC v6)]) fun v7 => oLet (sV (vGe .i64 (xC v7) (xC (.int .i64 0)))) fun v8 => oSet 4 (sV ((xC v8))) fun v4 => oEnd))
 cRet)), [.tmp (way 4)]⟩
theorem Tryz.k142_c : compF Tryz.prog [5, 6, 7, 8] Tryz.f142 = some Tryz.k142 := by kernel_rfl
def Tryz.k146 : KF := ⟨[(way 0)], (cSeq (cOps (oSet 1 (sN (aBox (xW 0))) fun v1 => oSet 2 (sV ((xC (.bool false)))) fun v2 => oEnd))
 (cSeq (cOps (oLet (sV (vAddr 3 (xW 1))) fun v3 => oLet (sL (lLoad none (xC v3))) fun v4 => oSet 2 (sV ((xC v4))) fun v2 => oEnd))
 cRet)), [.tmp (way 2)]⟩
theorem Tryz.k146_c : compF Tryz.prog [3, 4] Tryz.f146 = some Tryz.k146 := by kernel_rfl
def Tryz.k147 : KF := ⟨[(way 0), (way 1)], (cSeq (cOps (oSet 4 (sV ((xC (.nilslice)))) fun v4 => oEnd))
 (cSeq (cOps (oLet (sN (aNewMap)) fun v8 => oSet 5 (sV ((xC v8))) fun v5 => oEnd))
 (cSeq (cOps (oLet (sV ((xW 0))) fun v9 => oLet (sV ((xW 1))) fun v10 => oLet (sV ((xW 5))) fun v11 => oLet (sC 138 [(xC v9), (xC v10), (xC v11)]) fun v12 => oEnd))
 (cSeq (cSeq (cOps (oLet (sV ((xW 0))) fun v14 => oLet (sV ((xW 1))) fun v15 => oLet (sC 136 [(xC v14), (xC v15)]) fun v16 => oLet (sV (vExtract 0 (xC v16))) fun v17 => oLet (sV (vExtract 1 (xC v16))) fun v18 => oSet 6 (sN (aAlloc [.str [], .str [], .bool false, .bool false, .nilslice, .nilslice, .nilslice])) fun v6 => oDo (sM (tStore 7 (xC v6) (xC v17))) (oSet 7 (sV ((xC v18))) fun v7 => oEnd)))
 (cSeq (cOps (oLet (sV ((xW 7))) fun v19 => oLet (sG (xC v19) true (sV (vAddr 2 (xW 6)))) fun v21 => oLet (sG (xC v19) true (sL (lLoad none (xC v21)))) fun v22 => oSet 23 (sV (vPick (xC v19) (xC v22) (xC (.bool false)))) fun v23 => oEnd))
 (cCond (xW 23) (cOps (oLet (sV ((xW 5))) fun v24 => oLet (sV ((xW 1))) fun v25 => oLet (sL (lLookup (.one .str) (some (.int .i64 0)) false (xC v24) (xC v25))) fun v26 => oLet (sV (vAdd .i64 (xC v26) (xC (.int .i64 1)))) fun v27 => oDo (sM (tMapPut (.one .str) (xC v24) (xC v25) (xC v27))) (oEnd)))
 cSkip)))
 (cSeq (cOps (oLet (sV ((xW 5))) fun v28 => oLet (sC 200 [(xC v28)]) fun v29 => oLet (sC 199 [(xC v29)]) fun v30 => oSet 4 (sV ((xC v30))) fun v4 => oEnd))
 cRet))))), [.tmp (way 4)]⟩
theorem Tryz.k147_c : compF Tryz.prog [8, 9, 10, 11, 12, 14, 15, 16, 13, 17, 18, 19, 20, 21, 22, 24, 25, 26, 27, 28, 29, 30] Tryz.f147 = some Tryz.k147 := by kernel_rfl
def Tryz.k148 : KF := ⟨[(way 0), (way 1), (way 2), (way 3)], (cSeq (cOps (oSet 4 (sN (aBox (xW 0))) fun v4 => oSet 6 (sN (aBox (xW 2))) fun v6 => oSet 7 (sN (aBox (xW 3))) fun v7 => oSet 8 (sV ((xC (.str [])))) fun v8 => oSet 9 (sV ((xC (.bool false)))) fun v9 => oEnd))
 (cSeq (cOps (oLet (sL (lLoad none (xW 4))) fun v12 => oLet (sV ((xW 1))) fun v13 => oLet (sC 139 [(xC v12), (xC v13)]) fun v14 => oSet 10 (sV ((xC v14))) fun v10 => oEnd))
 (cSeq (cOps (oLet (sV ((xW 10))) fun v15 => oLet (sV (vFunc 201 [(xW 4), (xW 6), (xW 7)])) fun v16 => oLet (sC 157 [(xC v15), (xC v16)]) fun v17 => oSet 11 (sV ((xC v17))) fun v11 => oEnd))
 (cSeq (cSeq (cOps (oLet (sV ((xW 11))) fun v18 => oSet 19 (sV (vLt .i64 (xC v18) (xC (.int .i64 0)))) fun v19 => oEnd))
 (cCond (xW 19) (cSeq (cOps (oSet 8 (sV ((xC (.str [])))) fun v8 => oSet 9 (sV ((xC (.bool false)))) fun v9 => oEnd))
 cRet)
 cSkip))
 (cSeq (cOps (oLet (sV ((xW 10))) fun v20 => oLet (sV ((xW 11))) fun v21 => oLet (sV (vIdx 1 (xC v20) (xC v21))) fun v22 => oLet (sL (lLoad none (xC v22))) fun v23 => oSet 8 (sV ((xC v23))) fun v8 => oSet 9 (sV ((xC (.bool true)))) fun v9 => oEnd))
 cRet))))), [.tmp (way 8), .tmp (way 9)]⟩
theorem Tryz.k148_c : compF Tryz.prog [12, 13, 14, 15, 16, 17, 18, 20, 21, 22, 23] Tryz.f148 = some Tryz.k148 := by kernel_rfl
def Tryz.k149 : KF := ⟨[(way 0)], (cSeq (cOps (oSet 1 (sN (aBox (xW 0))) fun v1 => oSet 2 (sN (aAlloc [.nilslice])) fun v2 => oSet 3 (sV ((xC (.int .i64 0)))) fun v3 => oEnd))
 (cSeq (cSeq (cOps (oLet (sL (lLoad none (xW 1))) fun v7 => oLet (sC 117 [(xC v7)]) fun v8 => oLet (sV (vExtract 0 (xC v8))) fun v9 => oLet (sV (vExtract 1 (xC v8))) fun v10 => oLet (sN (aAlloc [.str [], .int .i64 0, .int .i64 0])) fun v5 => oSet 4 (sV ((xC v9))) fun v4 => oDo (sM (tStore 3 (xC v5) (xC v10))) (oEnd)))
 (cSeq (cOps (oLet (sV ((xW 4))) fun v11 => oSet 12 (sV (vNe .i64 (xC v11) (xC (.int .i64 0)))) fun v12 => oEnd))
 (cCond (xW 12) (cSeq (cOps (oLet (sV ((xW 4))) fun v13 => oDo (sM (tStore 1 (xW 2) (xC (.nilslice)))) (oSet 3 (sV ((xC v13))) fun v3 => oEnd)))
 cRet)
 cSkip)))
 (cSeq (cOps (oLet (sL (lLoad none (xW 1))) fun v14 => oLet (sV (vFunc 203 [(xW 1), (xW 2)])) fun v15 => oLet (sC 166 [(xC v14), (xC v15)]) fun v16 => oEnd))
 (cSeq (cOps (oLet (sL (lLoad none (xW 2))) fun v17 => oDo (sM (tStore 1 (xW 2) (xC v17))) (oSet 3 (sV ((xC (.int .i64 0)))) fun v3 => oEnd)))
 cRet)))), [.cell (way 2) none, .tmp (way 3)]⟩
theorem Tryz.k149_c : compF Tryz.prog [7, 8, 6, 9, 10, 5, 11, 13, 14, 15, 16, 17] Tryz.f149 = some Tryz.k149 := by kernel_rfl
def Tryz.k150 : KF := ⟨[(way 0), (way 1)], (cSeq (cOps (oSet 4 (sV ((xC (.str [])))) fun v4 => oSet 5 (sN (aAlloc [.str [], .str [], .bool false, .bool false, .int .i64 0, .int .i64 0, .nilslice, .nilslice])) fun v5 => oSet 6 (sV ((xC (.bool false)))) fun v6 => oEnd))
 (cSeq (cOps (oLet (sV ((xW 1))) fun v11 => oLet (sC 205 [(xC v11)]) fun v12 => oLet (sV (vExtract 0 (xC v12))) fun v13 => oLet (sV (vExtract 1 (xC v12))) fun v14 => oLet (sV (vExtract 2 (xC v12))) fun v15 => oLet (sV (vExtract 3 (xC v12))) fun v16 => oSet 4 (sV ((xC v13))) fun v4 => oSet 7 (sV ((xC v14))) fun v7 => oSet 8 (sV ((xC v15))) fun v8 => oSet 9 (sV ((xC v16))) fun v9 => oEnd))
 (cSeq (cSeq (cOps (oLet (sV ((xW 9))) fun v17 => oLet (sV (vNe .i64 (xC v17) (xC (.int .i64 0)))) fun v18 => oLet (sG (xC v18) false (sV ((xW 8)))) fun v20 => oLet (sG (xC v18) false (sV (vSNe (xC v20) (xC (.str [40, 41, 86]))))) fun v21 => oLet (sV (vPick (xC v18) (xC (.bool true)) (xC v21))) fun v22 => oLet (sG (xC v22) false (sV ((xW 4)))) fun v24 => oLet (sG (xC v22) false (sC 206 [(xC v24)])) fun v25 => oSet 26 (sV (vPick (xC v22) (xC (.bool true)) (xC v25))) fun v26 => oEnd))
 (cCond (xW 26) (cSeq (cOps (oLet (sL (lLoad (some 8) (xW 5))) fun v27 => oSet 4 (sV ((xC (.str [])))) fun v4 => oDo (sM (tStore 8 (xW 5) (xC v27))) (oSet 6 (sV ((xC (.bool false)))) fun v6 => oEnd)))
 cRet)
 cSkip))
 (cSeq (cOps (oLet (sV ((xW 0))) fun v29 => oLet (sV ((xW 4))) fun v30 => oLet (sV ((xW 7))) fun v31 => oLet (sV ((xW 8))) fun v32 => oLet (sC 207 [(xC v29), (xC v30), (xC v31), (xC v32)]) fun v33 => oLet (sV (vExtract 0 (xC v33))) fun v34 => oLet (sV (vExtract 1 (xC v33))) fun v35 => oDo (sM (tStore 8 (xW 5) (xC v34))) (oSet 6 (sV ((xC v35))) fun v6 => oEnd)))
 (cSeq (cOps (oLet (sV ((xW 4))) fun v36 => oLet (sL (lLoad (some 8) (xW 5))) fun v37 => oLet (sV ((xW 6))) fun v38 => oLet (sG (xC v38) true (sV (vAddr 2 (xW 5)))) fun v40 => oLet (sG (xC v38) true (sL (lLoad none (xC v40)))) fun v41 => oLet (sV (vPick (xC v38) (xC v41) (xC (.bool false)))) fun v42 => oLet (sG (xC v42) true (sV (vAddr 3 (xW 5)))) fun v44 => oLet (sG (xC v42) true (sL (lLoad none (xC v44)))) fun v45 => oLet (sG (xC v42) true (sV (vUn .not (xC v45)))) fun v46 => oLet (sV (vPick (xC v42) (xC v46) (xC (.bool false)))) fun v47 => oSet 4 (sV ((xC v36))) fun v4 => oDo (sM (tStore 8 (xW 5) (xC v37))) (oSet 6 (sV ((xC v47))) fun v6 => oEnd)))
 cRet))))), [.tmp (way 4), .cell (way 5) (some 8), .tmp (way 6)]⟩
theorem Tryz.k150_c : compF Tryz.prog [11, 12, 10, 13, 14, 15, 16, 17, 18, 19, 20, 21, 22, 23, 24, 25, 27, 29, 30, 31, 32, 33, 28, 34, 35, 36, 37, 38, 39, 40, 41, 42, 43, 44, 45, 46, 47] Tryz.f150 = some Tryz.k150 := by kernel_rfl
def Tryz.k157 : KF := ⟨[(way 0), (way 1)], (cSeq (cOps (oSet 4 (sV ((xC (.int .i64 0)))) fun v4 => oEnd))
 (cSeq (cSeq (cOps (oLet (sV ((xW 0))) fun v6 => oSet 7 (sV (vLen (xC v6))) fun v7 => oSet 8 (sV ((xC (.int .i64 0)))) fun v8 => oEnd))
 (cBlock 0 (cLoop (cSeq (cOps (oSet 9 (sV (vLt .i64 (xW 8) (xW 7))) fun v9 => oEnd))
 (cSeq (cCond (xW 9) cSkip
 (cExit 0))
 (cSeq (cBlock 1 (cSeq (cOps (oLet (sV ((xW 8))) fun v10 => oSet 5 (sV ((xC v10))) fun v5 => oEnd))
 (cSeq (cOps (oLet (sV ((xW 1))) fun v11 => oLet (sV ((xW 0))) fun v12 => oLet (sV ((xW 5))) fun v13 => oLet (sV (vIdx 1 (xC v12) (xC v13))) fun v14 => oLet (sL (lLoad none (xC v14))) fun v15 => oSet 16 (sX (xC v11) [(xC v15)]) fun v16 => oEnd))
 (cCond (xW 16) (cSeq (cOps (oLet (sV ((xW 5))) fun v17 => oSet 4 (sV ((xC v17))) fun v4 => oEnd))
 cRet)
 cSkip))))
 (cOps (oLet (sV (vAdd .i64 (xW 8) (xC (.int .i64 1)))) fun v18 => oSet 8 (sV ((xC v18))) fun v8 => oEnd))))))))
 (cSeq (cOps (oSet 4 (sV ((xC (.int .i64 (-1))))) fun v4 => oEnd))
 cRet))), [.tmp (way 4)]⟩
theorem Tryz.k157_c : compF Tryz.prog [6, 10, 11, 12, 13, 14, 15, 17, 18] Tryz.f157 = some Tryz.k157 := by kernel_rfl
def Tryz.k158 : KF := ⟨[(way 0), (way 1)], (cSeq (cOps (oSet 4 (sV ((xC (.nilptr)))) fun v4 => oSet 5 (sV ((xC (.int .i64 0)))) fun v5 => oEnd))
 (cSeq (cOps (oLet (sV ((xW 0))) fun v21 => oLet (sC 149 [(xC v21)]) fun v22 => oLet (sV (vExtract 0 (xC v22))) fun v23 => oLet (sV (vExtract 1 (xC v22))) fun v24 => oSet 6 (sV ((xC v23))) fun v6 => oSet 7 (sV ((xC v24))) fun v7 => oEnd))
 (cSeq (cSeq (cOps (oLet (sV ((xW 7))) fun v25 => oSet 26 (sV (vNe .i64 (xC v25) (xC (.int .i64 0)))) fun v26 => oEnd))
 (cCond (xW 26) (cSeq (cOps (oLet (sV ((xW 7))) fun v27 => oSet 4 (sV ((xC (.nilptr)))) fun v4 => oSet 5 (sV ((xC v27))) fun v5 => oEnd))
 cRet)
 cSkip))
 (cSeq (cOps (oLet (sV ((xW 0))) fun v29 => oLet (sV ((xW 1))) fun v30 => oLet (sC 150 [(xC v29), (xC v30)]) fun v31 => oLet (sV (vExtract 0 (xC v31))) fun v32 => oLet (sV (vExtract 1 (xC v31))) fun v33 => oLet (sV (vExtract 2 (xC v31))) fun v34 => oLet (sN (aAlloc [.str [], .str [], .bool false, .bool false, .int .i64 0, .int .i64 0, .nilslice, .nilslice])) fun v9 => oSet 8 (sV ((xC v32))) fun v8 => oDo (sM (tStore 8 (xC v9) (xC v33))) (oSet 10 (sV ((xC v34))) fun v10 => oEnd)))
 (cSeq (cSeq (cOps (oLet (sV ((xW 10))) fun v35 => oSet 36 (sV (vUn .not (xC v35))) fun v36 => oEnd))
 (cCond (xW 36) (cSeq (cOps (oSet 4 (sV ((xC (.nilptr)))) fun v4 => oSet 5 (sV ((xC (.int .i64 10)))) fun v5 => oEnd))
 cRet)
 cSkip))
 (cSeq (cOps (oLet (sV ((xW 0))) fun v37 => oLet (sV ((xW 1))) fun v38 => oLet (sV ((xW 8))) fun v39 => oLet (sV ((xW 6))) fun v41 => oLet (sC 160 [(xC v37), (xC v41)]) fun v42 => oLet (sN (aNewMap)) fun v43 => oLet (sV (vCat [1, 1, 1, 1, 1] [(xC v37), (xC v38), (xC v39), (xC v42), (xC v43)])) fun v44 => oLet (sN (aBox (xC v44))) fun v45 => oSet 11 (sV ((xC v45))) fun v11 => oEnd))
 (cSeq (cSeq (cOps (oSet 46 (sV ((xW 6))) fun v46 => oSet 47 (sV (vLen (xC v46))) fun v47 => oSet 48 (sV ((xC (.int .i64 0)))) fun v48 => oEnd))
 (cBlock 0 (cLoop (cSeq (cOps (oSet 49 (sV (vLt .i64 (xW 48) (xW 47))) fun v49 => oEnd))
 (cSeq (cCond (xW 49) cSkip
 (cExit 0))
 (cSeq (cBlock 1 (cSeq (cOps (oLet (sV (vIdx 5 (xW 46) (xW 48))) fun v50 => oLet (sL (lLoad (some 5) (xC v50))) fun v51 => oSet 13 (sN (aAlloc [.str [], .int .i64 0, .nilslice, .nilslice, .nilslice])) fun v13 => oDo (sM (tStore 5 (xC v13) (xC v51))) (oEnd)))
 (cSeq (cOps (oLet (sV (vAddr 0 (xW 13))) fun v53 => oLet (sL (lLoad none (xC v53))) fun v54 => oLet (sC 205 [(xC v54)]) fun v55 => oLet (sV (vExtract 0 (xC v55))) fun v56 => oLet (sV (vExtract 1 (xC v55))) fun v57 => oLet (sV (vExtract 2 (xC v55))) fun v58 => oLet (sV (vExtract 3 (xC v55))) fun v59 => oSet 14 (sV ((xC v56))) fun v14 => oSet 15 (sV ((xC v57))) fun v15 => oSet 16 (sV ((xC v58))) fun v16 => oEnd))
 (cSeq (cOps (oLet (sV ((xW 0))) fun v61 => oLet (sV ((xW 14))) fun v62 => oLet (sV ((xW 15))) fun v63 => oLet (sV ((xW 16))) fun v64 => oLet (sC 207 [(xC v61), (xC v62), (xC v63), (xC v64)]) fun v65 => oLet (sV (vExtract 0 (xC v65))) fun v66 => oLet (sV (vExtract 1 (xC v65))) fun v67 => oSet 18 (sN (aAlloc [.str [], .str [], .bool false, .bool false, .int .i64 0, .int .i64 0, .nilslice, .nilslice])) fun v18 => oDo (sM (tStore 8 (xC v18) (xC v66))) (oEnd)))
 (cOps (oLet (sV ((xW 11))) fun v68 => oLet (sV (vNil (xC v68))) fun v69 => oLet (sV (vAddr 4 (xC v69))) fun v70 => oLet (sL (lLoad none (xC v70))) fun v71 => oLet (sV (vAddr 0 (xW 13))) fun v72 => oLet (sL (lLoad none (xC v72))) fun v73 => oLet (sL (lLoad (some 5) (xW 13))) fun v74 => oLet (sV (vAddr 5 (xW 18))) fun v75 => oLet (sL (lLoad none (xC v75))) fun v76 => oLet (sV (vCat [5, 1] [(xC v74), (xC v76)])) fun v77 => oDo (sM (tMapPut (.one .str) (xC v71) (xC v73) (xC v77))) (oEnd)))))))
 (cOps (oLet (sV (vAdd .i64 (xW 48) (xC (.int .i64 1)))) fun v78 => oSet 48 (sV ((xC v78))) fun v48 => oEnd))))))))
 (cSeq (cOps (oLet (sV ((xW 11))) fun v79 => oSet 4 (sV ((xC v79))) fun v4 => oSet 5 (sV ((xC (.int .i64 0)))) fun v5 => oEnd))
 cRet)))))))), [.tmp (way 4), .tmp (way 5)]⟩
theorem Tryz.k158_c : compF Tryz.prog [21, 22, 20, 23, 24, 25, 27, 29, 30, 31, 28, 32, 33, 34, 9, 35, 37, 38, 39, 40, 41, 42, 43, 44, 45, 50, 51, 53, 54, 55, 52, 56, 57, 58, 59, 17, 61, 62, 63, 64, 65, 60, 66, 67, 19, 68, 69, 70, 71, 72, 73, 74, 75, 76, 77, 78, 79] Tryz.f158 = some Tryz.k158 := by kernel_rfl
def Tryz.k159 : KF := ⟨[(way 0)], (cSeq (cOps (oSet 2 (sN (aAlloc [.nilslice, .nilslice, .nilslice, .nilslice])) fun v2 => oEnd))
 (cSeq (cOps (oLet (sC 223 []) fun v5 => oSet 3 (sV ((xC v5))) fun v3 => oEnd))
 (cSeq (cSeq (cOps (oSet 4 (sV ((xC (.int .i64 (-1))))) fun v4 => oEnd))
 (cBlock 0 (cLoop (cSeq (cSeq (cOps (oLet (sV ((xW 4))) fun v6 => oLet (sV ((xW 3))) fun v7 => oLet (sV (vNil (xC v7))) fun v8 => oLet (sV (vAddr 4 (xC v8))) fun v9 => oLet (sL (lLoad none (xC v9))) fun v10 => oSet 11 (sV (vLt .i64 (xC v6) (xC v10))) fun v11 => oEnd))
 (cCond (xW 11) cSkip
 (cExit 0)))
 (cBlock 1 (cSeq (cOps (oLet (sV ((xW 3))) fun v12 => oLet (sV (vNil (xC v12))) fun v13 => oLet (sV (vAddr 4 (xC v13))) fun v14 => oLet (sL (lLoad none (xC v14))) fun v15 => oSet 4 (sV ((xC v15))) fun v4 => oEnd))
 (cOps (oLet (sV ((xW 0))) fun v16 => oLet (sV ((xW 3))) fun v17 => oLet (sC 224 [(xC v16), (xC v17), (xC v17)]) fun v19 => oEnd))))))))
 (cSeq (cOps (oLet (sV ((xW 3))) fun v20 => oLet (sC 225 [(xC v20)]) fun v21 => oDo (sM (tStore 4 (xW 2) (xC v21))) (oEnd)))
 cRet)))), [.cell (way 2) (some 4)]⟩
theorem Tryz.k159_c : compF Tryz.prog [5, 6, 7, 8, 9, 10, 12, 13, 14, 15, 16, 17, 18, 19, 20, 21] Tryz.f159 = some Tryz.k159 := by kernel_rfl
def Tryz.k160 : KF := ⟨[(way 0), (way 1)], (cSeq (cOps (oSet 4 (sV ((xC (.nilptr)))) fun v4 => oEnd))
 (cSeq (cOps (oLet (sV ((xW 0))) fun v12 => oLet (sN (aNewMap)) fun v13 => oLet (sV (vFill [.nilptr, .nilslice, .nilslice, .nilmap] [(0, 1), (3, 1)] [(xC v12), (xC v13)])) fun v14 => oLet (sN (aBox (xC v14))) fun v15 => oSet 5 (sV ((xC v15))) fun v5 => oEnd))
 (cSeq (cSeq (cOps (oSet 16 (sN (aRow 8 1 [1, 1, 1, 1, 1, 1, 1, 1] [(xC (.str [78, 117, 108, 108, 69, 120])), (xC (.str [66, 111, 117, 110, 100, 115, 69, 120])), (xC (.str [83, 116, 111, 114, 101, 69, 120])), (xC (.str [67, 97, 115, 116, 69, 120])), (xC (.str [65, 114, 105, 116, 104, 69, 120])), (xC (.str [77, 101, 109, 69, 120])), (xC (.str [68, 101, 112, 116, 104, 69, 120])), (xC (.str [73, 110, 105, 116, 69, 120]))])) fun v16 => oSet 17 (sV (vLen (xC v16))) fun v17 => oSet 18 (sV ((xC (.int .i64 0)))) fun v18 => oEnd))
 (cBlock 0 (cLoop (cSeq (cOps (oSet 19 (sV (vLt .i64 (xW 18) (xW 17))) fun v19 => oEnd))
 (cSeq (cCond (xW 19) cSkip
 (cExit 0))
 (cSeq (cBlock 1 (cSeq (cOps (oLet (sV (vIdx 1 (xW 16) (xW 18))) fun v20 => oLet (sL (lLoad none (xC v20))) fun v21 => oSet 7 (sV ((xC v21))) fun v7 => oEnd))
 (cOps (oLet (sV ((xW 5))) fun v22 => oLet (sV ((xW 7))) fun v23 => oLet (sV (vStr .add (xC (.str [33])) (xC v23))) fun v24 => oLet (sC 227 [(xC v23)]) fun v26 => oLet (sC 226 [(xC v22), (xC v24), (xC v26)]) fun v27 => oEnd))))
 (cOps (oLet (sV (vAdd .i64 (xW 18) (xC (.int .i64 1)))) fun v28 => oSet 18 (sV ((xC v28))) fun v18 => oEnd))))))))
 (cSeq (cOps (oLet (sV ((xW 5))) fun v29 => oLet (sC 227 [(xC (.str [79, 98, 106, 101, 99, 116]))]) fun v30 => oLet (sC 226 [(xC v29), (xC (.str [102, 114, 101, 115, 104])), (xC v30)]) fun v31 => oEnd))
 (cSeq (cSeq (cOps (oSet 32 (sV ((xW 1))) fun v32 => oSet 33 (sV (vLen (xC v32))) fun v33 => oSet 34 (sV ((xC (.int .i64 0)))) fun v34 => oEnd))
 (cBlock 2 (cLoop (cSeq (cOps (oSet 35 (sV (vLt .i64 (xW 34) (xW 33))) fun v35 => oEnd))
 (cSeq (cCond (xW 35) cSkip
 (cExit 2))
 (cSeq (cBlock 3 (cSeq (cOps (oLet (sV (vIdx 5 (xW 32) (xW 34))) fun v36 => oLet (sL (lLoad (some 5) (xC v36))) fun v37 => oSet 9 (sN (aAlloc [.str [], .int .i64 0, .nilslice, .nilslice, .nilslice])) fun v9 => oDo (sM (tStore 5 (xC v9) (xC v37))) (oEnd)))
 (cSeq (cOps (oLet (sV (vAddr 2 (xW 9))) fun v38 => oSet 39 (sL (lLoad none (xC v38))) fun v39 => oSet 40 (sV (vLen (xC v39))) fun v40 => oSet 41 (sV ((xC (.int .i64 0)))) fun v41 => oEnd))
 (cBlock 4 (cLoop (cSeq (cOps (oSet 42 (sV (vLt .i64 (xW 41) (xW 40))) fun v42 => oEnd))
 (cSeq (cCond (xW 42) cSkip
 (cExit 4))
 (cSeq (cBlock 5 (cSeq (cOps (oLet (sV ((xW 41))) fun v43 => oLet (sV (vIdx 10 (xW 39) (xC v43))) fun v44 => oLet (sL (lLoad (some 10) (xC v44))) fun v45 => oSet 11 (sN (aAlloc [.int .i64 0, .int .i64 0, .nilslice, .int .i64 0, .int .i64 0, .int .i64 0, .int .i64 0, .str [], .str [], .str []])) fun v11 => oSet 10 (sV ((xC v43))) fun v10 => oDo (sM (tStore 10 (xC v11) (xC v45))) (oEnd)))
 (cBlock 6 (cSeq (cOps (oLet (sV (vAddr 4 (xW 9))) fun v47 => oLet (sL (lLoad none (xC v47))) fun v48 => oLet (sV ((xW 10))) fun v49 => oLet (sV (vIdx 1 (xC v48) (xC v49))) fun v50 => oLet (sL (lLoad none (xC v50))) fun v51 => oLet (sV (vLt .i64 (xC v51) (xC (.int .i64 0)))) fun v52 => oSet 46 (sV ((xC v52))) fun v46 => oEnd))
 (cCond (xW 46) cSkip
 (cSeq (cOps (oLet (sV (vAddr 0 (xW 11))) fun v54 => oLet (sL (lLoad none (xC v54))) fun v55 => oLet (sV (vEq .i64 (xC v55) (xC (.int .i64 21)))) fun v56 => oSet 53 (sV ((xC v56))) fun v53 => oEnd))
 (cCond (xW 53) (cOps (oLet (sV ((xW 5))) fun v57 => oLet (sV (vAddr 0 (xW 9))) fun v58 => oLet (sL (lLoad none (xC v58))) fun v59 => oLet (sV ((xW 10))) fun v60 => oCap fun c4 => oLet (sC 228 [(xC v59), (xC v60)]) fun v61 => oCap fun d4 => oLet (sV (vAddr 4 (xW 11))) fun v62 => oLet (sV (vAddr 3 (xC v62))) fun v63 => oLet (sLo [c4] d4.next (lLoad none (xC v63))) fun v64 => oCap fun c8 => oLet (sC 227 [(xC v64)]) fun v65 => oCap fun d8 => oCap fun c9 => oLet (sC 226 [(xC v57), (xC v61), (xC v65)]) fun v66 => oCap fun d9 => oEnd))
 (cSeq (cOps (oLet (sV (vAddr 0 (xW 11))) fun v68 => oLet (sL (lLoad none (xC v68))) fun v69 => oLet (sV (vEq .i64 (xC v69) (xC (.int .i64 26)))) fun v70 => oSet 67 (sV ((xC v70))) fun v67 => oEnd))
 (cCond (xW 67) (cOps (oLet (sV ((xW 5))) fun v71 => oLet (sV (vAddr 0 (xW 9))) fun v72 => oLet (sL (lLoad none (xC v72))) fun v73 => oLet (sV ((xW 10))) fun v74 => oCap fun c4 => oLet (sC 228 [(xC v73), (xC v74)]) fun v75 => oCap fun d4 => oLet (sV (vAddr 4 (xW 11))) fun v76 => oLet (sV (vAddr 5 (xC v76))) fun v77 => oLet (sLo [c4] d4.next (lLoad none (xC v77))) fun v78 => oCap fun c8 => oLet (sC 229 [(xC v78)]) fun v79 => oCap fun d8 => oCap fun c9 => oLet (sC 226 [(xC v71), (xC v75), (xC v79)]) fun v80 => oCap fun d9 => oEnd))
 cSkip)))))))))
 (cOps (oLet (sV (vAdd .i64 (xW 41) (xC (.int .i64 1)))) fun v81 => oSet 41 (sV ((xC v81))) fun v41 => oEnd))))))))))
 (cOps (oLet (sV (vAdd .i64 (xW 34) (xC (.int .i64 1)))) fun v82 => oSet 34 (sV ((xC v82))) fun v34 => oEnd))))))))
 (cSeq (cOps (oLet (sV ((xW 5))) fun v83 => oSet 4 (sV ((xC v83))) fun v4 => oEnd))
 cRet)))))), [.tmp (way 4)]⟩
theorem Tryz.k160_c : compF Tryz.prog [12, 13, 14, 15, 20, 21, 22, 23, 24, 25, 26, 27, 28, 29, 30, 31, 36, 37, 38, 43, 44, 45, 47, 48, 49, 50, 51, 52, 54, 55, 56, 57, 58, 59, 60, 61, 62, 63, 64, 65, 66, 68, 69, 70, 71, 72, 73, 74, 75, 76, 77, 78, 79, 80, 81, 82, 83] Tryz.f160 = some Tryz.k160 := by kernel_rfl
def Tryz.k163 : KF := ⟨[(way 0)], (cSeq (cOps (oSet 2 (sV ((xC (.nilslice)))) fun v2 => oSet 3 (sV ((xC (.str [])))) fun v3 => oSet 4 (sV ((xC (.int .i64 0)))) fun v4 => oEnd))
 (cSeq (cSeq (cOps (oLet (sV ((xW 0))) fun v7 => oLet (sV (vSEq (xC v7) (xC (.str [])))) fun v8 => oLet (sG (xC v8) false (sV ((xC v7)))) fun v10 => oLet (sG (xC v8) false (sV (vIdxS (xC v10) (xC (.int .i64 0))))) fun v11 => oLet (sG (xC v8) false (sV (vNe .u8 (xC v11) (xC (.int .u8 40))))) fun v12 => oSet 13 (sV (vPick (xC v8) (xC (.bool true)) (xC v12))) fun v13 => oEnd))
 (cCond (xW 13) (cSeq (cOps (oSet 2 (sV ((xC (.nilslice)))) fun v2 => oSet 3 (sV ((xC (.str [])))) fun v3 => oSet 4 (sV ((xC (.int .i64 6)))) fun v4 => oEnd))
 cRet)
 cSkip))
 (cSeq (cOps (oSet 5 (sV ((xC (.nilslice)))) fun v5 => oEnd))
 (cSeq (cOps (oLet (sV ((xW 0))) fun v14 => oLet (sV (vSliceS (xC v14) [(xC (.int .i64 1))] [])) fun v15 => oSet 0 (sV ((xC v15))) fun v0 => oEnd))
 (cSeq (cBlock 0 (cLoop (cSeq (cSeq (cOps (oLet (sV ((xW 0))) fun v16 => oLet (sV (vSNe (xC v16) (xC (.str [])))) fun v17 => oLet (sG (xC v17) true (sV ((xC v16)))) fun v19 => oLet (sG (xC v17) true (sV (vIdxS (xC v19) (xC (.int .i64 0))))) fun v20 => oLet (sG (xC v17) true (sV (vNe .u8 (xC v20) (xC (.int .u8 41))))) fun v21 => oSet 22 (sV (vPick (xC v17) (xC v21) (xC (.bool false)))) fun v22 => oEnd))
 (cCond (xW 22) cSkip
 (cExit 0)))
 (cBlock 1 (cSeq (cOps (oLet (sV ((xW 0))) fun v23 => oLet (sC 162 [(xC v23)]) fun v24 => oSet 6 (sV ((xC v24))) fun v6 => oEnd))
 (cSeq (cSeq (cOps (oLet (sV ((xW 6))) fun v25 => oLet (sV (vEq .i64 (xC v25) (xC (.int .i64 0)))) fun v26 => oLet (sG (xC v26) false (sV ((xW 5)))) fun v28 => oLet (sG (xC v26) false (sV (vLen (xC v28)))) fun v29 => oLet (sG (xC v26) false (sV (vEq .i64 (xC v29) (xC (.int .i64 8))))) fun v30 => oSet 31 (sV (vPick (xC v26) (xC (.bool true)) (xC v30))) fun v31 => oEnd))
 (cCond (xW 31) (cSeq (cOps (oSet 2 (sV ((xC (.nilslice)))) fun v2 => oSet 3 (sV ((xC (.str [])))) fun v3 => oSet 4 (sV ((xC (.int .i64 6)))) fun v4 => oEnd))
 cRet)
 cSkip))
 (cSeq (cOps (oLet (sV ((xW 5))) fun v32 => oLet (sV ((xW 0))) fun v33 => oLet (sV ((xW 6))) fun v34 => oLet (sV (vSliceS (xC v33) [] [(xC v34)])) fun v35 => oLet (sN (aRow 1 1 [1] [(xC v35)])) fun v36 => oLet (sM (tAppend 16 1 (xC v32) (xC v36))) fun v37 => oSet 5 (sV ((xC v37))) fun v5 => oEnd))
 (cOps (oLet (sV ((xW 0))) fun v38 => oLet (sV ((xW 6))) fun v39 => oLet (sV (vSliceS (xC v38) [(xC v39)] [])) fun v40 => oSet 0 (sV ((xC v40))) fun v0 => oEnd)))))))))
 (cSeq (cSeq (cOps (oLet (sV ((xW 0))) fun v41 => oLet (sV (vSEq (xC v41) (xC (.str [])))) fun v42 => oLet (sG (xC v42) false (sV ((xC v41)))) fun v44 => oLet (sG (xC v42) false (sV (vSliceS (xC v44) [(xC (.int .i64 1))] []))) fun v45 => oLet (sG (xC v42) false (sV (vSNe (xC v45) (xC (.str [86]))))) fun v46 => oLet (sG (xC v42) false (sV ((xC v46)))) fun v47 => oLet (sG (xC v47) true (sV ((xC v41)))) fun v48 => oLet (sG (xC v47) true (sV (vSliceS (xC v48) [(xC (.int .i64 1))] []))) fun v49 => oLet (sG (xC v47) true (sC 113 [(xC v49)])) fun v50 => oLet (sG (xC v47) true (sV (vUn .not (xC v50)))) fun v51 => oLet (sG (xC v42) false (sV (vPick (xC v47) (xC v51) (xC (.bool false))))) fun v52 => oSet 53 (sV (vPick (xC v42) (xC (.bool true)) (xC v52))) fun v53 => oEnd))
 (cCond (xW 53) (cSeq (cOps (oSet 2 (sV ((xC (.nilslice)))) fun v2 => oSet 3 (sV ((xC (.str [])))) fun v3 => oSet 4 (sV ((xC (.int .i64 6)))) fun v4 => oEnd))
 cRet)
 cSkip))
 (cSeq (cOps (oLet (sV ((xW 5))) fun v54 => oLet (sV ((xW 0))) fun v55 => oLet (sV (vSliceS (xC v55) [(xC (.int .i64 1))] [])) fun v56 => oSet 2 (sV ((xC v54))) fun v2 => oSet 3 (sV ((xC v56))) fun v3 => oSet 4 (sV ((xC (.int .i64 0)))) fun v4 => oEnd))
 cRet))))))), [.tmp (way 2), .tmp (way 3), .tmp (way 4)]⟩
theorem Tryz.k163_c : compF Tryz.prog [7, 8, 9, 10, 11, 12, 14, 15, 16, 17, 18, 19, 20, 21, 23, 24, 25, 26, 27, 28, 29, 30, 32, 33, 34, 35, 36, 37, 38, 39, 40, 41, 42, 43, 44, 45, 46, 47, 48, 49, 50, 51, 52, 54, 55, 56] Tryz.f163 = some Tryz.k163 := by kernel_rfl
def Tryz.k164 : KF := ⟨[(way 0)], (cSeq (cOps (oSet 2 (sV ((xC (.bool false)))) fun v2 => oEnd))
 (cSeq (cOps (oLet (sV ((xW 0))) fun v3 => oLet (sV (vSEq (xC v3) (xC (.str [60, 105, 110, 105, 116, 62])))) fun v4 => oLet (sG (xC v4) false (sV ((xC v3)))) fun v6 => oLet (sG (xC v4) false (sV (vSEq (xC v6) (xC (.str [60, 99, 108, 105, 110, 105, 116, 62]))))) fun v7 => oLet (sV (vPick (xC v4) (xC (.bool true)) (xC v7))) fun v8 => oLet (sG (xC v8) false (sV ((xC v3)))) fun v10 => oLet (sG (xC v8) false (sC 112 [(xC v10)])) fun v11 => oLet (sV (vPick (xC v8) (xC (.bool true)) (xC v11))) fun v12 => oSet 2 (sV ((xC v12))) fun v2 => oEnd))
 cRet)), [.tmp (way 2)]⟩
theorem Tryz.k164_c : compF Tryz.prog [3, 4, 5, 6, 7, 8, 9, 10, 11, 12] Tryz.f164 = some Tryz.k164 := by kernel_rfl
def Tryz.k165 : KF := ⟨[(way 0), (way 1), (way 2)], (cSeq (cOps (oSet 3 (sN (aBox (xW 0))) fun v3 => oSet 6 (sV ((xC (.int .i64 0)))) fun v6 => oEnd))
 (cSeq (cOps (oLet (sV (vAddr 0 (xW 3))) fun v13 => oLet (sL (lLoad none (xC v13))) fun v14 => oLet (sC 69 [(xC v14)]) fun v15 => oLet (sV (vExtract 0 (xC v15))) fun v16 => oLet (sV (vExtract 1 (xC v15))) fun v17 => oSet 7 (sN (aAlloc [.bool false, .bool false, .bool false, .bool false, .bool false])) fun v7 => oDo (sM (tStore 5 (xC v7) (xC v16))) (oSet 8 (sV ((xC v17))) fun v8 => oEnd)))
 (cSeq (cSeq (cOps (oLet (sV ((xW 8))) fun v18 => oSet 19 (sV (vUn .not (xC v18))) fun v19 => oEnd))
 (cCond (xW 19) (cSeq (cOps (oSet 6 (sV ((xC (.int .i64 3)))) fun v6 => oEnd))
 cRet)
 cSkip))
 (cSeq (cSeq (cOps (oLet (sV (vIdxP 5 1 (xW 7) (xC (.int .i64 0)))) fun v20 => oLet (sL (lLoad none (xC v20))) fun v21 => oLet (sG (xC v21) true (sV (vAddr 1 (xW 3)))) fun v23 => oLet (sG (xC v21) true (sL (lLoad none (xC v23)))) fun v24 => oLet (sG (xC v21) true (sC 234 [(xC v24)])) fun v25 => oLet (sG (xC v21) true (sV (vUn .not (xC v25)))) fun v26 => oLet (sV (vPick (xC v21) (xC v26) (xC (.bool false)))) fun v27 => oLet (sG (xC v27) false (sV (vIdxP 5 1 (xW 7) (xC (.int .i64 1))))) fun v29 => oLet (sG (xC v27) false (sL (lLoad none (xC v29)))) fun v30 => oLet (sG (xC v27) false (sV ((xC v30)))) fun v31 => oLet (sG (xC v31) true (sV (vAddr 2 (xW 3)))) fun v32 => oLet (sG (xC v31) true (sL (lLoad none (xC v32)))) fun v33 => oLet (sG (xC v31) true (sC 234 [(xC v33)])) fun v34 => oLet (sG (xC v31) true (sV (vUn .not (xC v34)))) fun v35 => oLet (sG (xC v27) false (sV (vPick (xC v31) (xC v35) (xC (.bool false))))) fun v36 => oSet 37 (sV (vPick (xC v27) (xC (.bool true)) (xC v36))) fun v37 => oEnd))
 (cCond (xW 37) (cSeq (cOps (oSet 6 (sV ((xC (.int .i64 5)))) fun v6 => oEnd))
 cRet)
 cSkip))
 (cSeq (cOps (oLet (sV (vAddr 5 (xW 3))) fun v39 => oLet (sL (lLoad none (xC v39))) fun v40 => oLet (sC 163 [(xC v40)]) fun v41 => oLet (sV (vExtract 0 (xC v41))) fun v42 => oLet (sV (vExtract 1 (xC v41))) fun v43 => oLet (sV (vExtract 2 (xC v41))) fun v44 => oSet 11 (sV ((xC v44))) fun v11 => oEnd))
 (cSeq (cBlock 0 (cSeq (cOps (oLet (sV (vIdxP 5 1 (xW 7) (xC (.int .i64 2)))) fun v46 => oLet (sL (lLoad none (xC v46))) fun v47 => oLet (sG (xC v47) true (sV (vAddr 3 (xW 3)))) fun v49 => oLet (sG (xC v47) true (sL (lLoad none (xC v49)))) fun v50 => oLet (sG (xC v47) true (sC 112 [(xC v50)])) fun v51 => oLet (sG (xC v47) true (sV (vUn .not (xC v51)))) fun v52 => oLet (sV (vPick (xC v47) (xC v52) (xC (.bool false)))) fun v53 => oSet 45 (sV ((xC v53))) fun v45 => oEnd))
 (cCond (xW 45) (cSeq (cOps (oSet 6 (sV ((xC (.int .i64 6)))) fun v6 => oEnd))
 cRet)
 (cSeq (cOps (oLet (sV (vAddr 0 (xW 3))) fun v55 => oLet (sL (lLoad none (xC v55))) fun v56 => oLet (sC 235 [(xC v56)]) fun v57 => oLet (sG (xC v57) true (sV (vAddr 4 (xW 3)))) fun v59 => oLet (sG (xC v57) true (sL (lLoad none (xC v59)))) fun v60 => oLet (sG (xC v57) true (sC 112 [(xC v60)])) fun v61 => oLet (sG (xC v57) true (sV (vUn .not (xC v61)))) fun v62 => oLet (sG (xC v57) true (sV ((xC v62)))) fun v63 => oLet (sG (xC v63) false (sV (vAddr 5 (xW 3)))) fun v64 => oLet (sG (xC v63) false (sL (lLoad none (xC v64)))) fun v65 => oLet (sG (xC v63) false (sC 113 [(xC v65)])) fun v66 => oLet (sG (xC v63) false (sV (vUn .not (xC v66)))) fun v67 => oLet (sG (xC v57) true (sV (vPick (xC v63) (xC (.bool true)) (xC v67)))) fun v68 => oLet (sV (vPick (xC v57) (xC v68) (xC (.bool false)))) fun v69 => oSet 54 (sV ((xC v69))) fun v54 => oEnd))
 (cCond (xW 54) (cSeq (cOps (oSet 6 (sV ((xC (.int .i64 6)))) fun v6 => oEnd))
 cRet)
 (cSeq (cOps (oLet (sV (vAddr 0 (xW 3))) fun v71 => oLet (sL (lLoad none (xC v71))) fun v72 => oLet (sC 236 [(xC v72)]) fun v73 => oLet (sG (xC v73) true (sV (vAddr 4 (xW 3)))) fun v75 => oLet (sG (xC v73) true (sL (lLoad none (xC v75)))) fun v76 => oLet (sG (xC v73) true (sC 164 [(xC v76)])) fun v77 => oLet (sG (xC v73) true (sV (vUn .not (xC v77)))) fun v78 => oLet (sG (xC v73) true (sV ((xC v78)))) fun v79 => oLet (sG (xC v79) false (sV (vAddr 4 (xW 3)))) fun v80 => oLet (sG (xC v79) false (sL (lLoad none (xC v80)))) fun v81 => oLet (sG (xC v79) false (sV (vSEq (xC v81) (xC (.str [60, 99, 108, 105, 110, 105, 116, 62]))))) fun v82 => oLet (sG (xC v73) true (sV (vPick (xC v79) (xC (.bool true)) (xC v82)))) fun v83 => oLet (sG (xC v73) true (sV ((xC v83)))) fun v84 => oLet (sG (xC v84) false (sV (vAddr 4 (xW 3)))) fun v85 => oLet (sG (xC v84) false (sL (lLoad none (xC v85)))) fun v86 => oLet (sG (xC v84) false (sV (vSEq (xC v86) (xC (.str [60, 105, 110, 105, 116, 62]))))) fun v87 => oLet (sG (xC v84) false (sV ((xC v87)))) fun v88 => oLet (sG (xC v88) true (sV (vAddr 0 (xW 3)))) fun v89 => oLet (sG (xC v88) true (sL (lLoad none (xC v89)))) fun v90 => oLet (sG (xC v88) true (sV (vNe .i64 (xC v90) (xC (.int .i64 33))))) fun v91 => oLet (sG (xC v84) false (sV (vPick (xC v88) (xC v91) (xC (.bool false))))) fun v92 => oLet (sG (xC v73) true (sV (vPick (xC v84) (xC (.bool true)) (xC v92)))) fun v93 => oLet (sG (xC v73) true (sV ((xC v93)))) fun v94 => oLet (sG (xC v94) false (sV ((xW 11)))) fun v95 => oLet (sG (xC v94) false (sV (vNe .i64 (xC v95) (xC (.int .i64 0))))) fun v96 => oLet (sG (xC v73) true (sV (vPick (xC v94) (xC (.bool true)) (xC v96)))) fun v97 => oLet (sV (vPick (xC v73) (xC v97) (xC (.bool false)))) fun v98 => oSet 70 (sV ((xC v98))) fun v70 => oEnd))
 (cCond (xW 70) (cSeq (cOps (oSet 6 (sV ((xC (.int .i64 6)))) fun v6 => oEnd))
 cRet)
 (cSeq (cOps (oLet (sV (vAddr 0 (xW 3))) fun v100 => oLet (sL (lLoad none (xC v100))) fun v101 => oLet (sV (vEq .i64 (xC v101) (xC (.int .i64 26)))) fun v102 => oLet (sG (xC v102) true (sV (vAddr 5 (xW 3)))) fun v104 => oLet (sG (xC v102) true (sL (lLoad none (xC v104)))) fun v105 => oLet (sG (xC v102) true (sC 113 [(xC v105)])) fun v106 => oLet (sG (xC v102) true (sV (vUn .not (xC v106)))) fun v107 => oLet (sG (xC v102) true (sV ((xC v107)))) fun v108 => oLet (sG (xC v108) false (sV (vAddr 5 (xW 3)))) fun v109 => oLet (sG (xC v108) false (sL (lLoad none (xC v109)))) fun v110 => oLet (sG (xC v108) false (sC 237 [(xC v110)])) fun v111 => oLet (sG (xC v108) false (sV (vSEq (xC v111) (xC (.str []))))) fun v112 => oLet (sG (xC v102) true (sV (vPick (xC v108) (xC (.bool true)) (xC v112)))) fun v113 => oLet (sV (vPick (xC v102) (xC v113) (xC (.bool false)))) fun v114 => oSet 99 (sV ((xC v114))) fun v99 => oEnd))
 (cCond (xW 99) (cSeq (cOps (oSet 6 (sV ((xC (.int .i64 6)))) fun v6 => oEnd))
 cRet)
 (cSeq (cOps (oLet (sV (vAddr 0 (xW 3))) fun v116 => oLet (sL (lLoad none (xC v116))) fun v117 => oLet (sV (vEq .i64 (xC v117) (xC (.int .i64 30)))) fun v118 => oLet (sG (xC v118) false (sV (vAddr 0 (xW 3)))) fun v120 => oLet (sG (xC v118) false (sL (lLoad none (xC v120)))) fun v121 => oLet (sG (xC v118) false (sV (vEq .i64 (xC v121) (xC (.int .i64 31))))) fun v122 => oLet (sV (vPick (xC v118) (xC (.bool true)) (xC v122))) fun v123 => oLet (sG (xC v123) true (sV (vAddr 5 (xW 3)))) fun v125 => oLet (sG (xC v123) true (sL (lLoad none (xC v125)))) fun v126 => oLet (sG (xC v123) true (sC 238 [(xC v126)])) fun v127 => oLet (sG (xC v123) true (sV (vUn .not (xC v127)))) fun v128 => oLet (sV (vPick (xC v123) (xC v128) (xC (.bool false)))) fun v129 => oSet 115 (sV ((xC v129))) fun v115 => oEnd))
 (cCond (xW 115) (cSeq (cOps (oSet 6 (sV ((xC (.int .i64 6)))) fun v6 => oEnd))
 cRet)
 (cSeq (cOps (oLet (sV (vAddr 0 (xW 3))) fun v131 => oLet (sL (lLoad none (xC v131))) fun v132 => oLet (sV (vEq .i64 (xC v132) (xC (.int .i64 5)))) fun v133 => oLet (sG (xC v133) false (sV (vAddr 0 (xW 3)))) fun v135 => oLet (sG (xC v133) false (sL (lLoad none (xC v135)))) fun v136 => oLet (sG (xC v133) false (sV (vEq .i64 (xC v136) (xC (.int .i64 6))))) fun v137 => oLet (sV (vPick (xC v133) (xC (.bool true)) (xC v137))) fun v138 => oLet (sG (xC v138) true (sV (vAddr 1 (xW 3)))) fun v140 => oLet (sG (xC v138) true (sL (lLoad none (xC v140)))) fun v141 => oLet (sG (xC v138) true (sV (vLt .i64 (xC v141) (xC (.int .i64 0))))) fun v142 => oLet (sG (xC v138) true (sV ((xC v142)))) fun v143 => oLet (sG (xC v143) false (sV (vAddr 1 (xW 3)))) fun v144 => oLet (sG (xC v143) false (sL (lLoad none (xC v144)))) fun v145 => oLet (sG (xC v143) false (sV ((xW 2)))) fun v146 => oLet (sG (xC v143) false (sV (vGe .i64 (xC v145) (xC v146)))) fun v147 => oLet (sG (xC v138) true (sV (vPick (xC v143) (xC (.bool true)) (xC v147)))) fun v148 => oLet (sV (vPick (xC v138) (xC v148) (xC (.bool false)))) fun v149 => oSet 130 (sV ((xC v149))) fun v130 => oEnd))
 (cCond (xW 130) (cSeq (cOps (oSet 6 (sV ((xC (.int .i64 4)))) fun v6 => oEnd))
 cRet)
 (cSeq (cOps (oLet (sV (vAddr 0 (xW 3))) fun v151 => oLet (sL (lLoad none (xC v151))) fun v152 => oLet (sC 239 [(xC v152)]) fun v153 => oLet (sG (xC v153) true (sV (vAddr 1 (xW 3)))) fun v155 => oLet (sG (xC v153) true (sL (lLoad none (xC v155)))) fun v156 => oLet (sG (xC v153) true (sV (vLt .i64 (xC v156) (xC (.int .i64 0))))) fun v157 => oLet (sG (xC v153) true (sV ((xC v157)))) fun v158 => oLet (sG (xC v158) false (sV (vAddr 1 (xW 3)))) fun v159 => oLet (sG (xC v158) false (sL (lLoad none (xC v159)))) fun v160 => oLet (sG (xC v158) false (sV ((xW 1)))) fun v161 => oLet (sG (xC v158) false (sV (vGe .i64 (xC v160) (xC v161)))) fun v162 => oLet (sG (xC v153) true (sV (vPick (xC v158) (xC (.bool true)) (xC v162)))) fun v163 => oLet (sV (vPick (xC v153) (xC v163) (xC (.bool false)))) fun v164 => oSet 150 (sV ((xC v164))) fun v150 => oEnd))
 (cCond (xW 150) (cSeq (cOps (oSet 6 (sV ((xC (.int .i64 4)))) fun v6 => oEnd))
 cRet)
 cSkip)))))))))))))))
 (cSeq (cOps (oSet 6 (sV ((xC (.int .i64 0)))) fun v6 => oEnd))
 cRet))))))), [.tmp (way 6)]⟩
theorem Tryz.k165_c : compF Tryz.prog [13, 14, 15, 12, 16, 17, 18, 20, 21, 22, 23, 24, 25, 26, 27, 28, 29, 30, 31, 32, 33, 34, 35, 36, 39, 40, 41, 38, 42, 43, 44, 9, 10, 46, 47, 48, 49, 50, 51, 52, 53, 55, 56, 57, 58, 59, 60, 61, 62, 63, 64, 65, 66, 67, 68, 69, 71, 72, 73, 74, 75, 76, 77, 78, 79, 80, 81, 82, 83, 84, 85, 86, 87, 88, 89, 90, 91, 92, 93, 94, 95, 96, 97, 98, 100, 101, 102, 103, 104, 105, 106, 107, 108, 109, 110, 111, 112, 113, 114, 116, 117, 118, 119, 120, 121, 122, 123, 124, 125, 126, 127, 128, 129, 131, 132, 133, 134, 135, 136, 137, 138, 139, 140, 141, 142, 143, 144, 145, 146, 147, 148, 149, 151, 152, 153, 154, 155, 156, 157, 158, 159, 160, 161, 162, 163, 164] Tryz.f165 = some Tryz.k165 := by kernel_rfl
def Tryz.k166 : KF := ⟨[(way 0), (way 1)], (cSeq (cOps (oLet (sV ((xW 0))) fun v10 => oSet 11 (sC 240 [(xC v10)]) fun v11 => oSet 12 (sV (vLen (xC v11))) fun v12 => oSet 13 (sV ((xC (.int .i64 0)))) fun v13 => oEnd))
 (cBlock 0 (cLoop (cSeq (cOps (oSet 14 (sV (vLt .i64 (xW 13) (xW 12))) fun v14 => oEnd))
 (cSeq (cCond (xW 14) cSkip
 (cExit 0))
 (cSeq (cBlock 1 (cSeq (cOps (oLet (sV (vIdx 1 (xW 11) (xW 13))) fun v15 => oLet (sL (lLoad none (xC v15))) fun v16 => oSet 5 (sV ((xC v16))) fun v5 => oEnd))
 (cSeq (cOps (oLet (sV ((xW 0))) fun v18 => oLet (sV ((xW 5))) fun v19 => oLet (sC 241 [(xC v18), (xC v19)]) fun v20 => oLet (sV (vExtract 0 (xC v20))) fun v21 => oLet (sV (vExtract 1 (xC v20))) fun v22 => oSet 6 (sN (aAlloc [.str [], .str [], .bool false, .bool false, .nilslice, .nilslice, .nilslice])) fun v6 => oDo (sM (tStore 7 (xC v6) (xC v21))) (oEnd)))
 (cSeq (cOps (oLet (sV (vAddr 6 (xW 6))) fun v23 => oSet 24 (sL (lLoad none (xC v23))) fun v24 => oSet 25 (sV (vLen (xC v24))) fun v25 => oSet 26 (sV ((xC (.int .i64 0)))) fun v26 => oEnd))
 (cBlock 2 (cLoop (cSeq (cOps (oSet 27 (sV (vLt .i64 (xW 26) (xW 25))) fun v27 => oEnd))
 (cSeq (cCond (xW 27) cSkip
 (cExit 2))
 (cSeq (cBlock 3 (cSeq (cOps (oLet (sV (vIdx 8 (xW 24) (xW 26))) fun v28 => oLet (sL (lLoad (some 8) (xC v28))) fun v29 => oSet 9 (sN (aAlloc [.str [], .str [], .bool false, .bool false, .int .i64 0, .int .i64 0, .nilslice, .nilslice])) fun v9 => oDo (sM (tStore 8 (xC v9) (xC v29))) (oEnd)))
 (cSeq (cOps (oLet (sV (vAddr 3 (xW 9))) fun v30 => oLet (sL (lLoad none (xC v30))) fun v31 => oLet (sV (vUn .not (xC v31))) fun v32 => oLet (sG (xC v32) true (sV ((xW 5)))) fun v34 => oLet (sG (xC v32) true (sC 206 [(xC v34)])) fun v35 => oLet (sG (xC v32) true (sV (vUn .not (xC v35)))) fun v36 => oLet (sV (vPick (xC v32) (xC v36) (xC (.bool false)))) fun v37 => oLet (sG (xC v37) true (sV ((xW 1)))) fun v39 => oLet (sG (xC v37) true (sV ((xW 5)))) fun v40 => oLet (sG (xC v37) true (sL (lLoad (some 8) (xW 9)))) fun v41 => oLet (sG (xC v37) true (sX (xC v39) [(xC v40), (xC v41)])) fun v42 => oLet (sG (xC v37) true (sV (vUn .not (xC v42)))) fun v43 => oSet 44 (sV (vPick (xC v37) (xC v43) (xC (.bool false)))) fun v44 => oEnd))
 (cCond (xW 44) cRet
 cSkip))))
 (cOps (oLet (sV (vAdd .i64 (xW 26) (xC (.int .i64 1)))) fun v45 => oSet 26 (sV ((xC v45))) fun v26 => oEnd)))))))))))
 (cOps (oLet (sV (vAdd .i64 (xW 13) (xC (.int .i64 1)))) fun v46 => oSet 13 (sV ((xC v46))) fun v13 => oEnd)))))))), []⟩
theorem Tryz.k166_c : compF Tryz.prog [10, 15, 16, 18, 19, 20, 17, 21, 22, 7, 23, 28, 29, 30, 31, 32, 33, 34, 35, 36, 37, 38, 39, 40, 41, 42, 43, 45, 46] Tryz.f166 = some Tryz.k166 := by kernel_rfl
def Tryz.k167 : KF := ⟨[(way 0), (way 1), (way 2), (way 3), (way 4)], (cSeq (cOps (oSet 6 (sN (aBox (xW 1))) fun v6 => oSet 7 (sV ((xC (.bool false)))) fun v7 => oEnd))
 (cSeq (cOps (oLet (sL (lLoad none (xW 2))) fun v9 => oLet (sV ((xW 0))) fun v10 => oLet (sL (lLoad (some 8) (xW 6))) fun v11 => oLet (sC 168 [(xC v9), (xC v10), (xC v11)]) fun v12 => oLet (sV (vExtract 0 (xC v12))) fun v13 => oLet (sV (vExtract 1 (xC v12))) fun v14 => oLet (sV (vExtract 2 (xC v12))) fun v15 => oLet (sV (vExtract 3 (xC v12))) fun v16 => oDo (sM (tStore 1 (xW 3) (xC v15))) (oDo (sM (tStore 3 (xW 4) (xC v16))) (oEnd))))
 (cSeq (cOps (oLet (sL (lLoad none (xW 3))) fun v17 => oLet (sV (vEq .i64 (xC v17) (xC (.int .i64 0)))) fun v18 => oSet 7 (sV ((xC v18))) fun v7 => oEnd))
 cRet))), [.tmp (way 7)]⟩
theorem Tryz.k167_c : compF Tryz.prog [9, 10, 11, 12, 8, 13, 14, 15, 16, 17, 18] Tryz.f167 = some Tryz.k167 := by kernel_rfl
def Tryz.k168 : KF := ⟨[(way 0), (way 1), (way 2)], (cSeq (cOps (oSet 5 (sN (aBox (xW 2))) fun v5 => oSet 6 (sV ((xC (.nilslice)))) fun v6 => oSet 7 (sV ((xC (.nilslice)))) fun v7 => oSet 8 (sV ((xC (.int .i64 0)))) fun v8 => oSet 9 (sN (aAlloc [.str [], .int .i64 0, .int .i64 0])) fun v9 => oEnd))
 (cSeq (cSeq (cOps (oLet (sV ((xW 0))) fun v16 => oLet (sV ((xW 1))) fun v17 => oLet (sC 241 [(xC v16), (xC v17)]) fun v18 => oLet (sV (vExtract 0 (xC v18))) fun v19 => oLet (sV (vExtract 1 (xC v18))) fun v20 => oLet (sN (aAlloc [.str [], .str [], .bool false, .bool false, .nilslice, .nilslice, .nilslice])) fun v10 => oDo (sM (tStore 7 (xC v10) (xC v19))) (oSet 11 (sV ((xC v20))) fun v11 => oEnd)))
 (cSeq (cOps (oLet (sV ((xW 11))) fun v21 => oLet (sV (vUn .not (xC v21))) fun v22 => oLet (sG (xC v22) false (sV (vAddr 3 (xW 5)))) fun v24 => oLet (sG (xC v22) false (sL (lLoad none (xC v24)))) fun v25 => oLet (sV (vPick (xC v22) (xC (.bool true)) (xC v25))) fun v26 => oLet (sG (xC v26) false (sV ((xW 1)))) fun v28 => oLet (sG (xC v26) false (sC 206 [(xC v28)])) fun v29 => oLet (sV (vPick (xC v26) (xC (.bool true)) (xC v29))) fun v30 => oLet (sG (xC v30) false (sV (vAddr 6 (xW 5)))) fun v32 => oLet (sG (xC v30) false (sL (lLoad none (xC v32)))) fun v33 => oLet (sG (xC v30) false (sV (vLen (xC v33)))) fun v34 => oLet (sG (xC v30) false (sV (vEq .i64 (xC v34) (xC (.int .i64 0))))) fun v35 => oSet 36 (sV (vPick (xC v30) (xC (.bool true)) (xC v35))) fun v36 => oEnd))
 (cCond (xW 36) (cSeq (cOps (oLet (sV (vFill [.str [], .int .i64 0, .int .i64 0] [] [])) fun v37 => oSet 6 (sV ((xC (.nilslice)))) fun v6 => oSet 7 (sV ((xC (.nilslice)))) fun v7 => oSet 8 (sV ((xC (.int .i64 1)))) fun v8 => oDo (sM (tStore 3 (xW 9) (xC v37))) (oEnd)))
 cRet)
 cSkip)))
 (cSeq (cOps (oLet (sV ((xW 0))) fun v38 => oLet (sV ((xW 1))) fun v39 => oLet (sL (lLoad (some 8) (xW 5))) fun v40 => oLet (sV (vAddr 6 (xW 5))) fun v41 => oLet (sL (lLoad none (xC v41))) fun v42 => oLet (sV (vLen (xC v42))) fun v43 => oLet (sN (aMakeSlice 48 2 [.nilslice, .nilslice] (xC v43) (xC v43))) fun v44 => oLet (sV (vAddr 6 (xW 5))) fun v45 => oLet (sL (lLoad none (xC v45))) fun v46 => oLet (sV (vLen (xC v46))) fun v47 => oLet (sN (aMakeSlice 1 1 [.bool false] (xC v47) (xC v47))) fun v48 => oLet (sV (vFill [.nilptr, .str [], .str [], .str [], .bool false, .bool false, .int .i64 0, .int .i64 0, .nilslice, .nilslice, .nilslice, .nilslice, .nilslice] [(0, 1), (1, 1), (2, 8), (10, 1), (11, 1)] [(xC v38), (xC v39), (xC v40), (xC v44), (xC v48)])) fun v49 => oLet (sN (aBox (xC v49))) fun v50 => oSet 12 (sV ((xC v50))) fun v12 => oEnd))
 (cSeq (cSeq (cOps (oLet (sV ((xW 12))) fun v52 => oLet (sC 242 [(xC v52)]) fun v53 => oLet (sV (vExtract 0 (xC v53))) fun v54 => oLet (sV (vExtract 1 (xC v53))) fun v55 => oSet 13 (sV ((xC v54))) fun v13 => oSet 14 (sV ((xC v55))) fun v14 => oEnd))
 (cSeq (cOps (oLet (sV ((xW 14))) fun v56 => oSet 57 (sV (vNe .i64 (xC v56) (xC (.int .i64 0)))) fun v57 => oEnd))
 (cCond (xW 57) (cSeq (cOps (oLet (sV ((xW 1))) fun v58 => oLet (sV (vAddr 0 (xW 5))) fun v59 => oLet (sL (lLoad none (xC v59))) fun v60 => oLet (sV (vAddr 1 (xW 5))) fun v61 => oLet (sL (lLoad none (xC v61))) fun v62 => oLet (sC 216 [(xC v58), (xC v60), (xC v62)]) fun v63 => oLet (sV ((xW 13))) fun v64 => oLet (sV ((xW 14))) fun v65 => oLet (sV (vCat [1, 1, 1] [(xC v63), (xC v64), (xC v65)])) fun v66 => oSet 6 (sV ((xC (.nilslice)))) fun v6 => oSet 7 (sV ((xC (.nilslice)))) fun v7 => oSet 8 (sV ((xC (.int .i64 9)))) fun v8 => oDo (sM (tStore 3 (xW 9) (xC v66))) (oEnd)))
 cRet)
 cSkip)))
 (cSeq (cOps (oLet (sV ((xW 12))) fun v67 => oLet (sV (vNil (xC v67))) fun v68 => oLet (sV (vAddr 10 (xC v68))) fun v69 => oLet (sL (lLoad none (xC v69))) fun v70 => oLet (sV (vNil (xC v67))) fun v72 => oLet (sV (vAddr 11 (xC v72))) fun v73 => oLet (sL (lLoad none (xC v73))) fun v74 => oLet (sV (vFill [.str [], .int .i64 0, .int .i64 0] [] [])) fun v75 => oSet 6 (sV ((xC v70))) fun v6 => oSet 7 (sV ((xC v74))) fun v7 => oSet 8 (sV ((xC (.int .i64 0)))) fun v8 => oDo (sM (tStore 3 (xW 9) (xC v75))) (oEnd)))
 cRet))))), [.tmp (way 6), .tmp (way 7), .tmp (way 8), .cell (way 9) (some 3)]⟩
theorem Tryz.k168_c : compF Tryz.prog [16, 17, 18, 15, 19, 20, 10, 21, 22, 23, 24, 25, 26, 27, 28, 29, 30, 31, 32, 33, 34, 35, 37, 38, 39, 40, 41, 42, 43, 44, 45, 46, 47, 48, 49, 50, 52, 53, 51, 54, 55, 56, 58, 59, 60, 61, 62, 63, 64, 65, 66, 67, 68, 69, 70, 71, 72, 73, 74, 75] Tryz.f168 = some Tryz.k168 := by kernel_rfl
def Tryz.k169 : KF := ⟨[(way 0), (way 1)], (cSeq (cSeq (cOps (oLet (sV ((xW 0))) fun v7 => oLet (sV (vNil (xC v7))) fun v8 => oLet (sV (vAddr 0 (xC v8))) fun v9 => oLet (sL (lLoad none (xC v9))) fun v10 => oLet (sC 105 [(xC v10)]) fun v11 => oLet (sV (vExtract 0 (xC v11))) fun v12 => oLet (sV (vExtract 1 (xC v11))) fun v13 => oSet 4 (sV ((xC v12))) fun v4 => oSet 5 (sV ((xC v13))) fun v5 => oEnd))
 (cSeq (cOps (oLet (sV ((xW 4))) fun v14 => oLet (sV (vNe .i64 (xC v14) (xC (.int .i64 0)))) fun v15 => oLet (sG (xC v15) true (sV ((xW 0)))) fun v17 => oLet (sG (xC v15) true (sV (vNil (xC v17)))) fun v18 => oLet (sG (xC v15) true (sV (vAddr 2 (xC v18)))) fun v19 => oLet (sG (xC v15) true (sL (lLoad none (xC v19)))) fun v20 => oLet (sG (xC v15) true (sV (vEq .i64 (xC v20) (xC (.int .i64 0))))) fun v21 => oSet 22 (sV (vPick (xC v15) (xC v21) (xC (.bool false)))) fun v22 => oEnd))
 (cCond (xW 22) (cOps (oLet (sV ((xW 0))) fun v23 => oLet (sV ((xW 4))) fun v25 => oLet (sV ((xW 5))) fun v26 => oLet (sV (vNil (xC v23))) fun v27 => oLet (sV (vAddr 2 (xC v27))) fun v28 => oDo (sM (tStore 1 (xC v28) (xC v25))) (oLet (sV (vNil (xC v23))) fun v29 => oLet (sV (vAddr 3 (xC v29))) fun v30 => oDo (sM (tStore 1 (xC v30) (xC v26))) (oEnd))))
 cSkip)))
 (cSeq (cOps (oLet (sV ((xW 0))) fun v31 => oLet (sV (vNil (xC v31))) fun v32 => oLet (sV (vAddr 2 (xC v32))) fun v33 => oLet (sL (lLoad none (xC v33))) fun v34 => oSet 35 (sV (vEq .i64 (xC v34) (xC (.int .i64 0)))) fun v35 => oEnd))
 (cCond (xW 35) (cOps (oLet (sV ((xW 0))) fun v36 => oLet (sV ((xW 1))) fun v38 => oLet (sV (vNil (xC v36))) fun v40 => oLet (sV (vAddr 0 (xC v40))) fun v41 => oLet (sL (lLoad none (xC v41))) fun v42 => oLet (sC 103 [(xC v42)]) fun v43 => oLet (sV (vNil (xC v36))) fun v44 => oLet (sV (vAddr 2 (xC v44))) fun v45 => oDo (sM (tStore 1 (xC v45) (xC v38))) (oLet (sV (vNil (xC v36))) fun v46 => oLet (sV (vAddr 3 (xC v46))) fun v47 => oDo (sM (tStore 1 (xC v47) (xC v43))) (oEnd))))
 cSkip))), []⟩
theorem Tryz.k169_c : compF Tryz.prog [7, 8, 9, 10, 11, 6, 12, 13, 14, 15, 16, 17, 18, 19, 20, 21, 23, 24, 25, 26, 27, 28, 29, 30, 31, 32, 33, 34, 36, 37, 38, 39, 40, 41, 42, 43, 44, 45, 46, 47] Tryz.f169 = some Tryz.k169 := by kernel_rfl
def Tryz.k170 : KF := ⟨[(way 0)], (cSeq (cOps (oSet 2 (sV ((xC (.int .i64 0)))) fun v2 => oEnd))
 (cSeq (cOps (oLet (sV ((xW 0))) fun v4 => oLet (sV (vNil (xC v4))) fun v5 => oLet (sV (vAddr 0 (xC v5))) fun v6 => oLet (sL (lLoad none (xC v6))) fun v7 => oLet (sC 47 [(xC v7)]) fun v8 => oSet 3 (sV ((xC v8))) fun v3 => oEnd))
 (cSeq (cSeq (cOps (oLet (sV ((xW 0))) fun v9 => oLet (sC 119 [(xC v9)]) fun v10 => oSet 11 (sV (vUn .not (xC v10))) fun v11 => oEnd))
 (cCond (xW 11) (cSeq (cOps (oSet 2 (sV ((xC (.int .i64 0)))) fun v2 => oEnd))
 cRet)
 cSkip))
 (cSeq (cOps (oLet (sV ((xW 3))) fun v12 => oSet 2 (sV ((xC v12))) fun v2 => oEnd))
 cRet)))), [.tmp (way 2)]⟩
theorem Tryz.k170_c : compF Tryz.prog [4, 5, 6, 7, 8, 9, 10, 12] Tryz.f170 = some Tryz.k170 := by kernel_rfl
def Tryz.k171 : KF := ⟨[(way 0)], (cSeq (cOps (oSet 2 (sV ((xC (.str [])))) fun v2 => oEnd))
 (cSeq (cOps (oLet (sV ((xW 0))) fun v4 => oLet (sV (vNil (xC v4))) fun v5 => oLet (sV (vAddr 0 (xC v5))) fun v6 => oLet (sL (lLoad none (xC v6))) fun v7 => oLet (sC 47 [(xC v7)]) fun v8 => oSet 3 (sV ((xC v8))) fun v3 => oEnd))
 (cSeq (cSeq (cOps (oLet (sV ((xW 0))) fun v9 => oLet (sC 119 [(xC v9)]) fun v10 => oSet 11 (sV (vUn .not (xC v10))) fun v11 => oEnd))
 (cCond (xW 11) (cSeq (cOps (oSet 2 (sV ((xC (.str [])))) fun v2 => oEnd))
 cRet)
 cSkip))
 (cSeq (cSeq (cOps (oLet (sV ((xW 3))) fun v12 => oLet (sV ((xW 0))) fun v13 => oLet (sV (vNil (xC v13))) fun v14 => oLet (sV (vAddr 1 (xC v14))) fun v15 => oLet (sL (lLoad none (xC v15))) fun v16 => oLet (sV (vLen (xC v16))) fun v17 => oSet 18 (sV (vGe .i64 (xC v12) (xC v17))) fun v18 => oEnd))
 (cCond (xW 18) (cSeq (cOps (oLet (sV ((xW 0))) fun v19 => oLet (sC 169 [(xC v19), (xC (.int .i64 4))]) fun v20 => oEnd))
 (cSeq (cOps (oSet 2 (sV ((xC (.str [])))) fun v2 => oEnd))
 cRet))
 cSkip))
 (cSeq (cOps (oLet (sV ((xW 0))) fun v21 => oLet (sV (vNil (xC v21))) fun v22 => oLet (sV (vAddr 1 (xC v22))) fun v23 => oLet (sL (lLoad none (xC v23))) fun v24 => oLet (sV ((xW 3))) fun v25 => oLet (sV (vIdx 1 (xC v24) (xC v25))) fun v26 => oLet (sL (lLoad none (xC v26))) fun v27 => oSet 2 (sV ((xC v27))) fun v2 => oEnd))
 cRet))))), [.tmp (way 2)]⟩
theorem Tryz.k171_c : compF Tryz.prog [4, 5, 6, 7, 8, 9, 10, 12, 13, 14, 15, 16, 17, 19, 20, 21, 22, 23, 24, 25, 26, 27] Tryz.f171 = some Tryz.k171 := by kernel_rfl
def Tryz.k172 : KF := ⟨[(way 0)], (cSeq (cOps (oSet 2 (sV ((xC (.bool false)))) fun v2 => oEnd))
 (cSeq (cOps (oLet (sV ((xW 0))) fun v4 => oLet (sV (vNil (xC v4))) fun v5 => oLet (sV (vAddr 0 (xC v5))) fun v6 => oLet (sL (lLoad none (xC v6))) fun v7 => oLet (sC 41 [(xC v7)]) fun v8 => oSet 3 (sV ((xC v8))) fun v3 => oEnd))
 (cSeq (cSeq (cOps (oLet (sV ((xW 3))) fun v9 => oSet 10 (sV (vGt .i64 (xC v9) (xC (.int .i64 1)))) fun v10 => oEnd))
 (cCond (xW 10) (cOps (oLet (sV ((xW 0))) fun v11 => oLet (sC 169 [(xC v11), (xC (.int .i64 3))]) fun v12 => oEnd))
 cSkip))
 (cSeq (cOps (oLet (sV ((xW 3))) fun v13 => oLet (sV (vEq .i64 (xC v13) (xC (.int .i64 1)))) fun v14 => oSet 2 (sV ((xC v14))) fun v2 => oEnd))
 cRet)))), [.tmp (way 2)]⟩
theorem Tryz.k172_c : compF Tryz.prog [4, 5, 6, 7, 8, 9, 11, 12, 13, 14] Tryz.f172 = some Tryz.k172 := by kernel_rfl
def Tryz.k173 : KF := ⟨[(way 0)], (cSeq (cOps (oSet 2 (sN (aAlloc [.str [], .str [], .bool false, .bool false, .int .i64 0, .int .i64 0, .nilslice, .nilslice])) fun v2 => oEnd))
 (cSeq (cOps (oLet (sV ((xW 0))) fun v5 => oLet (sC 171 [(xC v5)]) fun v6 => oLet (sC 171 [(xC v5)]) fun v8 => oLet (sV (vAddr 0 (xW 2))) fun v9 => oDo (sM (tStore 1 (xC v9) (xC v6))) (oLet (sV (vAddr 1 (xW 2))) fun v10 => oDo (sM (tStore 1 (xC v10) (xC v8))) (oEnd))))
 (cSeq (cOps (oLet (sV ((xW 0))) fun v11 => oLet (sC 172 [(xC v11)]) fun v12 => oLet (sC 172 [(xC v11)]) fun v14 => oLet (sV (vAddr 2 (xW 2))) fun v15 => oDo (sM (tStore 1 (xC v15) (xC v12))) (oLet (sV (vAddr 3 (xW 2))) fun v16 => oDo (sM (tStore 1 (xC v16) (xC v14))) (oEnd))))
 (cSeq (cOps (oLet (sV ((xW 0))) fun v17 => oLet (sV (vNil (xC v17))) fun v18 => oLet (sV (vAddr 0 (xC v18))) fun v19 => oLet (sL (lLoad none (xC v19))) fun v20 => oCap fun c4 => oLet (sC 41 [(xC v20)]) fun v21 => oCap fun d4 => oLet (sV (vNil (xC v17))) fun v23 => oLet (sV (vAddr 0 (xC v23))) fun v24 => oLet (sLo [c4] d4.next (lLoad none (xC v24))) fun v25 => oCap fun c9 => oLet (sC 41 [(xC v25)]) fun v26 => oCap fun d9 => oLet (sV (vAddr 4 (xW 2))) fun v27 => oCap fun c11 => oDo (sM (tStore 1 (xC v27) (xC v21))) (oCap fun d11 => oLet (sV (vAddr 5 (xW 2))) fun v28 => oCap fun c13 => oDo (sM (tStore 1 (xC v28) (xC v26))) (oCap fun d13 => oEnd))))
 (cSeq (cSeq (cOps (oLet (sV ((xW 0))) fun v29 => oLet (sC 170 [(xC v29)]) fun v30 => oSet 3 (sV ((xC v30))) fun v3 => oEnd))
 (cBlock 0 (cLoop (cSeq (cSeq (cOps (oLet (sV ((xW 3))) fun v31 => oLet (sV (vGt .i64 (xC v31) (xC (.int .i64 0)))) fun v32 => oLet (sG (xC v32) true (sV ((xW 0)))) fun v34 => oLet (sG (xC v32) true (sC 119 [(xC v34)])) fun v35 => oSet 36 (sV (vPick (xC v32) (xC v35) (xC (.bool false)))) fun v36 => oEnd))
 (cCond (xW 36) cSkip
 (cExit 0)))
 (cSeq (cBlock 1 (cOps (oLet (sV (vAddr 6 (xW 2))) fun v39 => oSee (seeL (lLoad none (xC v39))) fun q1 => oLet (sLo [] 0 (lLoad none (xC v39))) fun v40 => oLet (sV ((xW 0))) fun v41 => oCap fun c3 => oLet (sC 243 [(xC v41)]) fun v42 => oCap fun d3 => oLate [q1] <| oLet (sN (aRow 1 6 [6] [(xC v42)])) fun v43 => oCap fun c5 => oLet (sM (tAppend 72 6 (xC v40) (xC v43))) fun v44 => oCap fun d5 => oLet (sV (vAddr 6 (xW 2))) fun v45 => oCap fun c7 => oDo (sM (tStore 1 (xC v45) (xC v44))) (oCap fun d7 => oEnd))))
 (cOps (oLet (sV ((xW 3))) fun v37 => oLet (sV (vSub .i64 (xC v37) (xC (.int .i64 1)))) fun v38 => oSet 3 (sV ((xC v38))) fun v3 => oEnd)))))))
 (cSeq (cSeq (cOps (oLet (sV ((xW 0))) fun v46 => oLet (sC 170 [(xC v46)]) fun v47 => oSet 4 (sV ((xC v47))) fun v4 => oEnd))
 (cBlock 2 (cLoop (cSeq (cSeq (cOps (oLet (sV ((xW 4))) fun v48 => oLet (sV (vGt .i64 (xC v48) (xC (.int .i64 0)))) fun v49 => oLet (sG (xC v49) true (sV ((xW 0)))) fun v51 => oLet (sG (xC v49) true (sC 119 [(xC v51)])) fun v52 => oSet 53 (sV (vPick (xC v49) (xC v52) (xC (.bool false)))) fun v53 => oEnd))
 (cCond (xW 53) cSkip
 (cExit 2)))
 (cSeq (cBlock 3 (cOps (oLet (sV (vAddr 7 (xW 2))) fun v56 => oSee (seeL (lLoad none (xC v56))) fun q1 => oLet (sLo [] 0 (lLoad none (xC v56))) fun v57 => oLet (sV ((xW 0))) fun v58 => oLet (sV (vNil (xC v58))) fun v59 => oLet (sV (vAddr 0 (xC v59))) fun v60 => oLet (sL (lLoad none (xC v60))) fun v61 => oCap fun c6 => oLet (sC 47 [(xC v61)]) fun v62 => oCap fun d6 => oLate [q1] <| oLet (sV (vNil (xC v58))) fun v64 => oLet (sV (vAddr 0 (xC v64))) fun v65 => oLet (sLo [c6] d6.next (lLoad none (xC v65))) fun v66 => oCap fun c11 => oLet (sC 47 [(xC v66)]) fun v67 => oCap fun d11 => oLate [q1] <| oLet (sV (vNil (xC v58))) fun v69 => oLet (sV (vAddr 0 (xC v69))) fun v70 => oLet (sLo [c11, c6] d11.next (lLoad none (xC v70))) fun v71 => oCap fun c16 => oLet (sC 47 [(xC v71)]) fun v72 => oCap fun d16 => oLate [q1] <| oCap fun c18 => oLet (sC 171 [(xC v58)]) fun v74 => oCap fun d18 => oLate [q1] <| oLet (sV (vCat [1, 1, 1, 1] [(xC v62), (xC v67), (xC v72), (xC v74)])) fun v75 => oLet (sN (aRow 1 4 [4] [(xC v75)])) fun v76 => oCap fun c21 => oLet (sM (tAppend 40 4 (xC v57) (xC v76))) fun v77 => oCap fun d21 => oLet (sV (vAddr 7 (xW 2))) fun v78 => oCap fun c23 => oDo (sM (tStore 1 (xC v78) (xC v77))) (oCap fun d23 => oEnd))))
 (cOps (oLet (sV ((xW 4))) fun v54 => oLet (sV (vSub .i64 (xC v54) (xC (.int .i64 1)))) fun v55 => oSet 4 (sV ((xC v55))) fun v4 => oEnd)))))))
 (cSeq (cOps (oLet (sL (lLoad (some 8) (xW 2))) fun v79 => oDo (sM (tStore 8 (xW 2) (xC v79))) (oEnd)))
 cRet))))))), [.cell (way 2) (some 8)]⟩
theorem Tryz.k173_c : compF Tryz.prog [5, 6, 7, 8, 9, 10, 11, 12, 13, 14, 15, 16, 17, 18, 19, 20, 21, 22, 23, 24, 25, 26, 27, 28, 29, 30, 31, 32, 33, 34, 35, 39, 40, 41, 42, 43, 44, 45, 37, 38, 46, 47, 48, 49, 50, 51, 52, 56, 57, 58, 59, 60, 61, 62, 63, 64, 65, 66, 67, 68, 69, 70, 71, 72, 73, 74, 75, 76, 77, 78, 54, 55, 79] Tryz.f173 = some Tryz.k173 := by kernel_rfl
end
end Go.Proofs
