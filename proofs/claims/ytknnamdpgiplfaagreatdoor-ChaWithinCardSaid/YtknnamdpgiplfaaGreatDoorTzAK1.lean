/- What functions of the program are compiled to, and that they are. -/
import Derived.Test.YtknnamdpgiplfaaGreatDoorSh11
import Derived.Test.YtknnamdpgiplfaaGreatDoorProg
import Derived.KernelRfl
set_option linter.unusedVariables false
set_option linter.unusedSimpArgs false
set_option linter.unusedSectionVars false
namespace Go.Proofs
open Go.Sh
noncomputable section
set_option linter.unusedVariables false
def Tryz.k3 : KF := ⟨[(way 0), (way 1)], (cSeq (cOps (oSet 2 (sN (aBox (xW 0))) fun v2 => oSet 3 (sN (aBox (xW 1))) fun v3 => oSet 4 (sV ((xC (.bool false)))) fun v4 => oEnd))
 (cSeq (cSeq (cOps (oLet (sV (vAddr 0 (xW 2))) fun v8 => oLet (sL (lLoad none (xC v8))) fun v9 => oCap fun c2 => oLet (sC 5 [(xC v9), (xC (.int .i64 3000))]) fun v10 => oCap fun d2 => oLet (sV (vAddr 0 (xW 3))) fun v11 => oLet (sLo [c2] d2.next (lLoad none (xC v11))) fun v12 => oCap fun c5 => oLet (sC 5 [(xC v12), (xC (.int .i64 3000))]) fun v13 => oCap fun d5 => oLet (sV (vAddr 1 (xW 2))) fun v14 => oLet (sLo [c5, c2] d5.next (lLoad none (xC v14))) fun v15 => oCap fun c8 => oLet (sC 6 [(xC v15), (xC (.int .i64 3000))]) fun v16 => oCap fun d8 => oLet (sV (vAddr 1 (xW 3))) fun v17 => oLet (sLo [c8, c5, c2] d8.next (lLoad none (xC v17))) fun v18 => oCap fun c11 => oLet (sC 6 [(xC v18), (xC (.int .i64 3000))]) fun v19 => oCap fun d11 => oLet (sN (aRow 3 1 [1, 1, 1] [(xC v13), (xC v16), (xC v19)])) fun v20 => oCap fun c13 => oLet (sC 4 [(xC v10), (xC v20)]) fun v21 => oCap fun d13 => oSet 22 (sV (vGt .i64 (xC v21) (xC (.int .i64 3000)))) fun v22 => oEnd))
 (cCond (xW 22) (cSeq (cOps (oLet (sC 7 []) fun v23 => oSet 4 (sV ((xC v23))) fun v4 => oEnd))
 cRet)
 cSkip))
 (cSeq (cOps (oLet (sV (vAddr 0 (xW 2))) fun v24 => oLet (sL (lLoad none (xC v24))) fun v25 => oLet (sV (vAddr 1 (xW 2))) fun v26 => oLet (sL (lLoad none (xC v26))) fun v27 => oLet (sV (vCat [1, 1] [(xC v25), (xC v27)])) fun v28 => oLet (sV (vAddr 0 (xW 3))) fun v29 => oSee (seeL (lLoad none (xC v29))) fun q6 => oLet (sLo [] 0 (lLoad none (xC v29))) fun v30 => oLet (sV (vAddr 1 (xW 3))) fun v31 => oSee (seeL (lLoad none (xC v31))) fun q8 => oLet (sLo [] 0 (lLoad none (xC v31))) fun v32 => oLet (sV (vCat [1, 1] [(xC v30), (xC v32)])) fun v33 => oSet 5 (sN (aAlloc [.nilslice, .nilslice])) fun v5 => oSet 6 (sN (aAlloc [.nilslice, .nilslice])) fun v6 => oCap fun c12 => oDo (sM (tStore 2 (xC v5) (xC v28))) (oCap fun d12 => oLate [q8, q6] <| oCap fun c13 => oDo (sM (tStore 2 (xC v6) (xC v33))) (oCap fun d13 => oEnd))))
 (cSeq (cOps (oLet (sL (lLoad (some 2) (xW 2))) fun v34 => oLet (sL (lLoad (some 2) (xW 3))) fun v35 => oLet (sC 8 [(xC v34), (xC v35)]) fun v36 => oSet 7 (sV ((xC v36))) fun v7 => oEnd))
 (cSeq (cOps (oLet (sL (lLoad (some 2) (xW 5))) fun v37 => oLet (sL (lLoad (some 2) (xW 6))) fun v38 => oLet (sC 9 [(xC v37), (xC v38)]) fun v39 => oLet (sV ((xW 7))) fun v40 => oLet (sL (lEq .bool (xC v39) (xC v40))) fun v41 => oLet (sG (xC v41) true (sL (lLoad (some 2) (xW 5)))) fun v43 => oLet (sG (xC v41) true (sL (lLoad (some 2) (xW 6)))) fun v44 => oLet (sG (xC v41) true (sC 10 [(xC v43), (xC v44)])) fun v45 => oLet (sG (xC v41) true (sV ((xC v40)))) fun v46 => oLet (sG (xC v41) true (sV ((xC v46)))) fun v47 => oLet (sG (xC v47) true (sL (lLoad (some 2) (xW 3)))) fun v48 => oLet (sG (xC v47) true (sL (lLoad (some 2) (xW 2)))) fun v49 => oLet (sG (xC v47) true (sC 8 [(xC v48), (xC v49)])) fun v50 => oLet (sG (xC v41) true (sV (vPick (xC v47) (xC v50) (xC (.bool false))))) fun v51 => oLet (sG (xC v41) true (sL (lEq .bool (xC v45) (xC v51)))) fun v52 => oLet (sV (vPick (xC v41) (xC v52) (xC (.bool false)))) fun v53 => oLet (sG (xC v53) true (sL (lLoad (some 2) (xW 5)))) fun v55 => oLet (sG (xC v53) true (sL (lLoad (some 2) (xW 5)))) fun v56 => oLet (sG (xC v53) true (sC 9 [(xC v55), (xC v56)])) fun v57 => oLet (sV (vPick (xC v53) (xC v57) (xC (.bool false)))) fun v58 => oLet (sG (xC v58) true (sC 7 [])) fun v60 => oLet (sV (vPick (xC v58) (xC v60) (xC (.bool false)))) fun v61 => oSet 4 (sV ((xC v61))) fun v4 => oEnd))
 cRet))))), [.tmp (way 4)]⟩
theorem Tryz.k3_c : compF Tryz.prog [8, 9, 10, 11, 12, 13, 14, 15, 16, 17, 18, 19, 20, 21, 23, 24, 25, 26, 27, 28, 29, 30, 31, 32, 33, 34, 35, 36, 37, 38, 39, 40, 41, 42, 43, 44, 45, 46, 47, 48, 49, 50, 51, 52, 53, 54, 55, 56, 57, 58, 59, 60, 61] Tryz.f3 = some Tryz.k3 := by kernel_rfl
def Tryz.k4 : KF := ⟨[(way 0), (way 1)], (cSeq (cOps (oSet 4 (sV ((xC (.int .i64 0)))) fun v4 => oEnd))
 (cSeq (cSeq (cOps (oSet 5 (sV ((xC (.int .i64 0)))) fun v5 => oEnd))
 (cBlock 0 (cLoop (cSeq (cSeq (cOps (oLet (sV ((xW 5))) fun v6 => oLet (sV ((xW 1))) fun v7 => oLet (sV (vLen (xC v7))) fun v8 => oSet 9 (sV (vLt .i64 (xC v6) (xC v8))) fun v9 => oEnd))
 (cCond (xW 9) cSkip
 (cExit 0)))
 (cSeq (cBlock 1 (cSeq (cSeq (cOps (oLet (sV ((xW 0))) fun v12 => oLet (sV (vGt .i64 (xC v12) (xC (.int .i64 1099511627776)))) fun v13 => oLet (sG (xC v13) false (sV ((xW 1)))) fun v15 => oLet (sG (xC v13) false (sV ((xW 5)))) fun v16 => oLet (sG (xC v13) false (sV (vIdx 1 (xC v15) (xC v16)))) fun v17 => oLet (sG (xC v13) false (sL (lLoad none (xC v17)))) fun v18 => oLet (sG (xC v13) false (sV ((xC v12)))) fun v19 => oLet (sG (xC v13) false (sV (vSub .i64 (xC (.int .i64 1099511627776)) (xC v19)))) fun v20 => oLet (sG (xC v13) false (sV (vGt .i64 (xC v18) (xC v20)))) fun v21 => oSet 22 (sV (vPick (xC v13) (xC (.bool true)) (xC v21))) fun v22 => oEnd))
 (cCond (xW 22) (cSeq (cOps (oSet 4 (sV ((xC (.int .i64 1099511627776)))) fun v4 => oEnd))
 cRet)
 cSkip))
 (cOps (oLet (sV ((xW 0))) fun v23 => oLet (sV ((xW 1))) fun v24 => oLet (sV ((xW 5))) fun v25 => oLet (sV (vIdx 1 (xC v24) (xC v25))) fun v26 => oLet (sL (lLoad none (xC v26))) fun v27 => oLet (sV (vAdd .i64 (xC v23) (xC v27))) fun v28 => oSet 0 (sV ((xC v28))) fun v0 => oEnd))))
 (cOps (oLet (sV ((xW 5))) fun v10 => oLet (sV (vAdd .i64 (xC v10) (xC (.int .i64 1)))) fun v11 => oSet 5 (sV ((xC v11))) fun v5 => oEnd)))))))
 (cSeq (cOps (oLet (sV ((xW 0))) fun v29 => oSet 4 (sV ((xC v29))) fun v4 => oEnd))
 cRet))), [.tmp (way 4)]⟩
theorem Tryz.k4_c : compF Tryz.prog [6, 7, 8, 12, 13, 14, 15, 16, 17, 18, 19, 20, 21, 23, 24, 25, 26, 27, 28, 10, 11, 29] Tryz.f4 = some Tryz.k4 := by kernel_rfl
def Tryz.k5 : KF := ⟨[(way 0), (way 1)], (cSeq (cOps (oSet 4 (sV ((xC (.int .i64 0)))) fun v4 => oEnd))
 (cSeq (cOps (oSet 5 (sV ((xC (.int .i64 0)))) fun v5 => oEnd))
 (cSeq (cSeq (cOps (oSet 6 (sV ((xC (.int .i64 0)))) fun v6 => oEnd))
 (cBlock 0 (cLoop (cSeq (cSeq (cOps (oLet (sV ((xW 6))) fun v7 => oLet (sV ((xW 0))) fun v8 => oLet (sV (vLen (xC v8))) fun v9 => oLet (sV (vLt .i64 (xC v7) (xC v9))) fun v10 => oLet (sG (xC v10) true (sV ((xW 5)))) fun v12 => oLet (sG (xC v10) true (sV ((xW 1)))) fun v13 => oLet (sG (xC v10) true (sV (vLe .i64 (xC v12) (xC v13)))) fun v14 => oSet 15 (sV (vPick (xC v10) (xC v14) (xC (.bool false)))) fun v15 => oEnd))
 (cCond (xW 15) cSkip
 (cExit 0)))
 (cSeq (cBlock 1 (cOps (oLet (sV ((xW 5))) fun v18 => oLet (sV ((xW 0))) fun v19 => oLet (sV ((xW 6))) fun v20 => oLet (sV (vIdx 3 (xC v19) (xC v20))) fun v21 => oLet (sV (vAddr 0 (xC v21))) fun v22 => oLet (sL (lLoad none (xC v22))) fun v23 => oLet (sV (vLenS (xC v23))) fun v24 => oLet (sV (vIdx 3 (xC v19) (xC v20))) fun v27 => oLet (sV (vAddr 2 (xC v27))) fun v28 => oLet (sL (lLoad none (xC v28))) fun v29 => oLet (sV (vLenS (xC v29))) fun v30 => oLet (sN (aRow 3 1 [1, 1, 1] [(xC v24), (xC v30), (xC (.int .i64 1))])) fun v31 => oLet (sC 4 [(xC v18), (xC v31)]) fun v32 => oSet 5 (sV ((xC v32))) fun v5 => oEnd)))
 (cOps (oLet (sV ((xW 6))) fun v16 => oLet (sV (vAdd .i64 (xC v16) (xC (.int .i64 1)))) fun v17 => oSet 6 (sV ((xC v17))) fun v6 => oEnd)))))))
 (cSeq (cOps (oLet (sV ((xW 5))) fun v33 => oSet 4 (sV ((xC v33))) fun v4 => oEnd))
 cRet)))), [.tmp (way 4)]⟩
theorem Tryz.k5_c : compF Tryz.prog [7, 8, 9, 10, 11, 12, 13, 14, 18, 19, 20, 21, 22, 23, 24, 25, 26, 27, 28, 29, 30, 31, 32, 16, 17, 33] Tryz.f5 = some Tryz.k5 := by kernel_rfl
def Tryz.k6 : KF := ⟨[(way 0), (way 1)], (cSeq (cOps (oSet 4 (sV ((xC (.int .i64 0)))) fun v4 => oEnd))
 (cSeq (cOps (oSet 5 (sV ((xC (.int .i64 0)))) fun v5 => oEnd))
 (cSeq (cSeq (cOps (oSet 6 (sV ((xC (.int .i64 0)))) fun v6 => oEnd))
 (cBlock 0 (cLoop (cSeq (cSeq (cOps (oLet (sV ((xW 6))) fun v7 => oLet (sV ((xW 0))) fun v8 => oLet (sV (vLen (xC v8))) fun v9 => oLet (sV (vLt .i64 (xC v7) (xC v9))) fun v10 => oLet (sG (xC v10) true (sV ((xW 5)))) fun v12 => oLet (sG (xC v10) true (sV ((xW 1)))) fun v13 => oLet (sG (xC v10) true (sV (vLe .i64 (xC v12) (xC v13)))) fun v14 => oSet 15 (sV (vPick (xC v10) (xC v14) (xC (.bool false)))) fun v15 => oEnd))
 (cCond (xW 15) cSkip
 (cExit 0)))
 (cSeq (cBlock 1 (cOps (oLet (sV ((xW 5))) fun v18 => oLet (sV ((xW 0))) fun v19 => oLet (sV ((xW 6))) fun v20 => oLet (sV (vIdx 1 (xC v19) (xC v20))) fun v21 => oLet (sL (lLoad none (xC v21))) fun v22 => oLet (sV (vLenS (xC v22))) fun v23 => oLet (sN (aRow 2 1 [1, 1] [(xC v23), (xC (.int .i64 1))])) fun v24 => oLet (sC 4 [(xC v18), (xC v24)]) fun v25 => oSet 5 (sV ((xC v25))) fun v5 => oEnd)))
 (cOps (oLet (sV ((xW 6))) fun v16 => oLet (sV (vAdd .i64 (xC v16) (xC (.int .i64 1)))) fun v17 => oSet 6 (sV ((xC v17))) fun v6 => oEnd)))))))
 (cSeq (cOps (oLet (sV ((xW 5))) fun v26 => oSet 4 (sV ((xC v26))) fun v4 => oEnd))
 cRet)))), [.tmp (way 4)]⟩
theorem Tryz.k6_c : compF Tryz.prog [7, 8, 9, 10, 11, 12, 13, 14, 18, 19, 20, 21, 22, 23, 24, 25, 16, 17, 26] Tryz.f6 = some Tryz.k6 := by kernel_rfl
def Tryz.k7 : KF := ⟨[], (cSeq (cOps (oSet 0 (sV ((xC (.bool false)))) fun v0 => oEnd))
 (cSeq (cOps (oLet (sV (vFill [.int .i64 0, .int .i64 0, .int .i64 0, .str [], .str [], .str []] [(0, 1)] [(xC (.int .i64 36))])) fun v7 => oLet (sN (aRow 1 6 [6] [(xC v7)])) fun v8 => oLet (sV (vFill [.str [], .str [], .bool false, .bool false, .int .i64 0, .int .i64 0, .nilslice, .nilslice] [(0, 1), (1, 1), (2, 1), (6, 1)] [(xC (.str [109, 97, 105, 110])), (xC (.str [40, 41, 86])), (xC (.bool true)), (xC v8)])) fun v9 => oLet (sN (aRow 1 8 [8] [(xC v9)])) fun v10 => oLet (sV (vFill [.str [], .str [], .bool false, .bool false, .nilslice, .nilslice, .nilslice] [(0, 1), (1, 1), (6, 1)] [(xC (.str [65])), (xC (.str [79, 98, 106, 101, 99, 116])), (xC v10)])) fun v11 => oLet (sN (aRow 1 7 [7] [(xC v11)])) fun v12 => oLet (sC 11 [(xC v12)]) fun v13 => oLet (sV (vExtract 0 (xC v13))) fun v14 => oLet (sV (vExtract 1 (xC v13))) fun v15 => oLet (sV (vExtract 2 (xC v13))) fun v16 => oSet 1 (sV ((xC v14))) fun v1 => oEnd))
 (cSeq (cOps (oLet (sV ((xW 1))) fun v18 => oLet (sC 12 [(xC v18), (xC (.str [65, 46, 109, 97, 105, 110, 40, 41, 86]))]) fun v19 => oLet (sV (vExtract 0 (xC v19))) fun v20 => oLet (sV (vExtract 1 (xC v19))) fun v21 => oSet 4 (sN (aAlloc [.nilslice, .nilslice])) fun v4 => oDo (sM (tStore 2 (xC v4) (xC v20))) (oSet 5 (sV ((xC v21))) fun v5 => oEnd)))
 (cSeq (cOps (oLet (sV ((xW 5))) fun v22 => oLet (sV (vEq .i64 (xC v22) (xC (.int .i64 0)))) fun v23 => oLet (sG (xC v23) true (sV (vAddr 1 (xW 4)))) fun v25 => oLet (sG (xC v23) true (sL (lLoad none (xC v25)))) fun v26 => oLet (sG (xC v23) true (sV (vLen (xC v26)))) fun v27 => oLet (sG (xC v23) true (sV (vEq .i64 (xC v27) (xC (.int .i64 1))))) fun v28 => oLet (sV (vPick (xC v23) (xC v28) (xC (.bool false)))) fun v29 => oLet (sG (xC v29) true (sV (vAddr 1 (xW 4)))) fun v31 => oLet (sG (xC v29) true (sL (lLoad none (xC v31)))) fun v32 => oLet (sG (xC v29) true (sV (vIdx 1 (xC v32) (xC (.int .i64 0))))) fun v33 => oLet (sG (xC v29) true (sL (lLoad none (xC v33)))) fun v34 => oLet (sG (xC v29) true (sV (vSEq (xC v34) (xC (.str [65, 46, 109, 97, 105, 110, 40, 41, 86]))))) fun v35 => oLet (sV (vPick (xC v29) (xC v35) (xC (.bool false)))) fun v36 => oLet (sG (xC v36) true (sV (vAddr 0 (xW 4)))) fun v38 => oLet (sG (xC v36) true (sL (lLoad none (xC v38)))) fun v39 => oLet (sG (xC v36) true (sV (vLen (xC v39)))) fun v40 => oLet (sG (xC v36) true (sV (vEq .i64 (xC v40) (xC (.int .i64 0))))) fun v41 => oLet (sV (vPick (xC v36) (xC v41) (xC (.bool false)))) fun v42 => oSet 0 (sV ((xC v42))) fun v0 => oEnd))
 cRet)))), [.tmp (way 0)]⟩
theorem Tryz.k7_c : compF Tryz.prog [7, 8, 9, 10, 11, 12, 13, 6, 14, 15, 16, 2, 3, 18, 19, 17, 20, 21, 22, 23, 24, 25, 26, 27, 28, 29, 30, 31, 32, 33, 34, 35, 36, 37, 38, 39, 40, 41, 42] Tryz.f7 = some Tryz.k7 := by kernel_rfl
def Tryz.k8 : KF := ⟨[(way 0), (way 1)], (cSeq (cOps (oSet 2 (sN (aBox (xW 0))) fun v2 => oSet 3 (sN (aBox (xW 1))) fun v3 => oSet 4 (sV ((xC (.bool false)))) fun v4 => oEnd))
 (cSeq (cOps (oLet (sV (vAddr 0 (xW 2))) fun v5 => oLet (sL (lLoad none (xC v5))) fun v6 => oLet (sV (vAddr 1 (xW 2))) fun v7 => oLet (sL (lLoad none (xC v7))) fun v8 => oLet (sV (vFill [.nilslice, .nilslice, .nilslice, .nilslice] [(1, 1), (2, 1)] [(xC v6), (xC v8)])) fun v9 => oLet (sV (vAddr 0 (xW 3))) fun v10 => oLet (sL (lLoad none (xC v10))) fun v11 => oLet (sV (vAddr 1 (xW 3))) fun v12 => oLet (sL (lLoad none (xC v12))) fun v13 => oLet (sV (vFill [.nilslice, .nilslice, .nilslice, .nilslice] [(1, 1), (2, 1)] [(xC v11), (xC v13)])) fun v14 => oLet (sC 13 [(xC v9), (xC v14)]) fun v15 => oSet 4 (sV ((xC v15))) fun v4 => oEnd))
 cRet)), [.tmp (way 4)]⟩
theorem Tryz.k8_c : compF Tryz.prog [5, 6, 7, 8, 9, 10, 11, 12, 13, 14, 15] Tryz.f8 = some Tryz.k8 := by kernel_rfl
def Tryz.k9 : KF := ⟨[(way 0), (way 1)], (cSeq (cOps (oSet 2 (sN (aBox (xW 0))) fun v2 => oSet 3 (sN (aBox (xW 1))) fun v3 => oSet 4 (sV ((xC (.bool false)))) fun v4 => oEnd))
 (cSeq (cOps (oLet (sV (vAddr 0 (xW 2))) fun v5 => oLet (sL (lLoad none (xC v5))) fun v6 => oLet (sV (vAddr 0 (xW 3))) fun v7 => oLet (sL (lLoad none (xC v7))) fun v8 => oLet (sC 14 [(xC v6), (xC v8)]) fun v9 => oLet (sG (xC v9) true (sV (vAddr 1 (xW 2)))) fun v11 => oLet (sG (xC v9) true (sL (lLoad none (xC v11)))) fun v12 => oLet (sG (xC v9) true (sV (vAddr 1 (xW 3)))) fun v13 => oLet (sG (xC v9) true (sL (lLoad none (xC v13)))) fun v14 => oLet (sG (xC v9) true (sC 15 [(xC v12), (xC v14)])) fun v15 => oLet (sV (vPick (xC v9) (xC v15) (xC (.bool false)))) fun v16 => oSet 4 (sV ((xC v16))) fun v4 => oEnd))
 cRet)), [.tmp (way 4)]⟩
theorem Tryz.k9_c : compF Tryz.prog [5, 6, 7, 8, 9, 10, 11, 12, 13, 14, 15, 16] Tryz.f9 = some Tryz.k9 := by kernel_rfl
def Tryz.k10 : KF := ⟨[(way 0), (way 1)], (cSeq (cOps (oSet 2 (sN (aBox (xW 0))) fun v2 => oSet 3 (sN (aBox (xW 1))) fun v3 => oSet 4 (sV ((xC (.bool false)))) fun v4 => oEnd))
 (cSeq (cOps (oLet (sL (lLoad (some 2) (xW 2))) fun v5 => oLet (sL (lLoad (some 2) (xW 3))) fun v6 => oLet (sC 9 [(xC v5), (xC v6)]) fun v7 => oLet (sG (xC v7) true (sL (lLoad (some 2) (xW 3)))) fun v9 => oLet (sG (xC v7) true (sL (lLoad (some 2) (xW 2)))) fun v10 => oLet (sG (xC v7) true (sC 9 [(xC v9), (xC v10)])) fun v11 => oLet (sV (vPick (xC v7) (xC v11) (xC (.bool false)))) fun v12 => oSet 4 (sV ((xC v12))) fun v4 => oEnd))
 cRet)), [.tmp (way 4)]⟩
theorem Tryz.k10_c : compF Tryz.prog [5, 6, 7, 8, 9, 10, 11, 12] Tryz.f10 = some Tryz.k10 := by kernel_rfl
def Tryz.k11 : KF := ⟨[(way 0)], (cSeq (cOps (oSet 2 (sV ((xC (.nilptr)))) fun v2 => oSet 3 (sV ((xC (.int .i64 0)))) fun v3 => oSet 4 (sV ((xC (.str [])))) fun v4 => oEnd))
 (cScope (cSeq (cOps (oSet 5 (sV ((xC (.bool false)))) fun v5 => oEnd))
 (cSeq (cOps (oSet 3 (sV ((xC (.int .i64 5)))) fun v3 => oEnd))
 (cSeq (cSeq (cOps (oLet (sV ((xW 0))) fun v16 => oLet (sV (vLen (xC v16))) fun v17 => oSet 18 (sV (vGt .i64 (xC v17) (xC (.int .i64 30)))) fun v18 => oEnd))
 (cCond (xW 18) (cGoto 0)
 cSkip))
 (cSeq (cSeq (cOps (oSet 19 (sV ((xW 0))) fun v19 => oSet 20 (sV (vLen (xC v19))) fun v20 => oSet 21 (sV ((xC (.int .i64 0)))) fun v21 => oEnd))
 (cBlock 0 (cLoop (cSeq (cOps (oSet 22 (sV (vLt .i64 (xW 21) (xW 20))) fun v22 => oEnd))
 (cSeq (cCond (xW 22) cSkip
 (cExit 0))
 (cSeq (cBlock 1 (cSeq (cOps (oLet (sV (vIdx 7 (xW 19) (xW 21))) fun v23 => oLet (sL (lLoad (some 7) (xC v23))) fun v24 => oSet 7 (sN (aAlloc [.str [], .str [], .bool false, .bool false, .nilslice, .nilslice, .nilslice])) fun v7 => oDo (sM (tStore 7 (xC v7) (xC v24))) (oEnd)))
 (cSeq (cOps (oLet (sL (lLoad (some 7) (xW 7))) fun v25 => oCap fun c1 => oLet (sC 16 [(xC v25)]) fun v26 => oCap fun d1 => oLet (sV (vAddr 0 (xW 7))) fun v27 => oLet (sLo [c1] d1.next (lLoad none (xC v27))) fun v28 => oSet 3 (sV ((xC v26))) fun v3 => oSet 4 (sV ((xC v28))) fun v4 => oEnd))
 (cSeq (cOps (oLet (sV ((xW 3))) fun v29 => oSet 30 (sV (vNe .i64 (xC v29) (xC (.int .i64 0)))) fun v30 => oEnd))
 (cCond (xW 30) (cGoto 0)
 cSkip)))))
 (cOps (oLet (sV (vAdd .i64 (xW 21) (xC (.int .i64 1)))) fun v31 => oSet 21 (sV ((xC v31))) fun v21 => oEnd))))))))
 (cSeq (cOps (oSet 3 (sV ((xC (.int .i64 8)))) fun v3 => oEnd))
 (cSeq (cSeq (cOps (oLet (sV ((xW 0))) fun v33 => oLet (sC 17 [(xC v33)]) fun v34 => oLet (sV (vExtract 0 (xC v34))) fun v35 => oLet (sV (vExtract 1 (xC v34))) fun v36 => oSet 4 (sV ((xC v35))) fun v4 => oSet 5 (sV ((xC v36))) fun v5 => oEnd))
 (cSeq (cOps (oSet 37 (sV ((xW 5))) fun v37 => oEnd))
 (cCond (xW 37) (cGoto 0)
 cSkip)))
 (cSeq (cOps (oLet (sC 18 []) fun v38 => oLet (sN (aNewMap)) fun v39 => oLet (sV (vCat [1, 1] [(xC v38), (xC v39)])) fun v40 => oLet (sN (aBox (xC v40))) fun v41 => oSet 2 (sV ((xC v41))) fun v2 => oEnd))
 (cSeq (cSeq (cOps (oSet 42 (sV ((xW 0))) fun v42 => oSet 43 (sV (vLen (xC v42))) fun v43 => oSet 44 (sV ((xC (.int .i64 0)))) fun v44 => oEnd))
 (cBlock 2 (cLoop (cSeq (cOps (oSet 45 (sV (vLt .i64 (xW 44) (xW 43))) fun v45 => oEnd))
 (cSeq (cCond (xW 45) cSkip
 (cExit 2))
 (cSeq (cBlock 3 (cSeq (cOps (oLet (sV (vIdx 7 (xW 42) (xW 44))) fun v46 => oLet (sL (lLoad (some 7) (xC v46))) fun v47 => oSet 9 (sN (aAlloc [.str [], .str [], .bool false, .bool false, .nilslice, .nilslice, .nilslice])) fun v9 => oDo (sM (tStore 7 (xC v9) (xC v47))) (oEnd)))
 (cOps (oLet (sV ((xW 2))) fun v48 => oLet (sV (vNil (xC v48))) fun v50 => oLet (sV (vAddr 0 (xC v50))) fun v51 => oSee (seeL (lLoad none (xC v51))) fun q4 => oLet (sLo [] 0 (lLoad none (xC v51))) fun v52 => oLet (sL (lLoad (some 7) (xW 9))) fun v53 => oCap fun c6 => oLet (sC 19 [(xC v53)]) fun v54 => oCap fun d6 => oLate [q4] <| oLet (sN (aRow 1 7 [7] [(xC v54)])) fun v55 => oCap fun c8 => oLet (sM (tAppend 112 7 (xC v52) (xC v55))) fun v56 => oCap fun d8 => oLet (sV (vNil (xC v48))) fun v57 => oLet (sV (vAddr 0 (xC v57))) fun v58 => oCap fun c11 => oDo (sM (tStore 1 (xC v58) (xC v56))) (oCap fun d11 => oEnd)))))
 (cOps (oLet (sV (vAdd .i64 (xW 44) (xC (.int .i64 1)))) fun v59 => oSet 44 (sV ((xC v59))) fun v44 => oEnd))))))))
 (cSeq (cOps (oLet (sV ((xW 2))) fun v60 => oLet (sV (vNil (xC v60))) fun v61 => oLet (sV (vAddr 0 (xC v61))) fun v62 => oLet (sL (lLoad none (xC v62))) fun v63 => oLet (sC 20 [(xC v63), (xC (.func 21 []))]) fun v64 => oEnd))
 (cSeq (cSeq (cOps (oLet (sV ((xW 2))) fun v65 => oLet (sV (vNil (xC v65))) fun v66 => oLet (sV (vAddr 0 (xC v66))) fun v67 => oSet 68 (sL (lLoad none (xC v67))) fun v68 => oSet 69 (sV (vLen (xC v68))) fun v69 => oSet 70 (sV ((xC (.int .i64 0)))) fun v70 => oEnd))
 (cBlock 4 (cLoop (cSeq (cOps (oSet 71 (sV (vLt .i64 (xW 70) (xW 69))) fun v71 => oEnd))
 (cSeq (cCond (xW 71) cSkip
 (cExit 4))
 (cSeq (cBlock 5 (cSeq (cOps (oLet (sV ((xW 70))) fun v72 => oLet (sV (vIdx 7 (xW 68) (xC v72))) fun v73 => oLet (sL (lLoad (some 7) (xC v73))) fun v74 => oSet 11 (sN (aAlloc [.str [], .str [], .bool false, .bool false, .nilslice, .nilslice, .nilslice])) fun v11 => oSet 10 (sV ((xC v72))) fun v10 => oDo (sM (tStore 7 (xC v11) (xC v74))) (oEnd)))
 (cOps (oLet (sV ((xW 2))) fun v75 => oLet (sV (vNil (xC v75))) fun v76 => oLet (sV (vAddr 1 (xC v76))) fun v77 => oLet (sL (lLoad none (xC v77))) fun v78 => oLet (sV (vAddr 0 (xW 11))) fun v79 => oLet (sL (lLoad none (xC v79))) fun v80 => oLet (sV ((xW 10))) fun v81 => oDo (sM (tMapPut (.one .str) (xC v78) (xC v80) (xC v81))) (oEnd)))))
 (cOps (oLet (sV (vAdd .i64 (xW 70) (xC (.int .i64 1)))) fun v82 => oSet 70 (sV ((xC v82))) fun v70 => oEnd))))))))
 (cSeq (cSeq (cOps (oSet 83 (sN (aRow 7 1 [1, 1, 1, 1, 1, 1, 1] [(xC (.func 23 [])), (xC (.func 24 [])), (xC (.func 25 [])), (xC (.func 26 [])), (xC (.func 27 [])), (xC (.func 28 [])), (xC (.func 29 []))])) fun v83 => oSet 84 (sV (vLen (xC v83))) fun v84 => oSet 85 (sV ((xC (.int .i64 0)))) fun v85 => oEnd))
 (cBlock 6 (cLoop (cSeq (cOps (oSet 86 (sV (vLt .i64 (xW 85) (xW 84))) fun v86 => oEnd))
 (cSeq (cCond (xW 86) cSkip
 (cExit 6))
 (cSeq (cBlock 7 (cSeq (cOps (oLet (sV (vIdx 1 (xW 83) (xW 85))) fun v87 => oLet (sL (lLoad none (xC v87))) fun v88 => oSet 13 (sV ((xC v88))) fun v13 => oEnd))
 (cSeq (cOps (oSet 89 (sV ((xW 0))) fun v89 => oSet 90 (sV (vLen (xC v89))) fun v90 => oSet 91 (sV ((xC (.int .i64 0)))) fun v91 => oEnd))
 (cBlock 8 (cLoop (cSeq (cOps (oSet 92 (sV (vLt .i64 (xW 91) (xW 90))) fun v92 => oEnd))
 (cSeq (cCond (xW 92) cSkip
 (cExit 8))
 (cSeq (cBlock 9 (cSeq (cOps (oLet (sV (vIdx 7 (xW 89) (xW 91))) fun v93 => oLet (sL (lLoad (some 7) (xC v93))) fun v94 => oSet 15 (sN (aAlloc [.str [], .str [], .bool false, .bool false, .nilslice, .nilslice, .nilslice])) fun v15 => oDo (sM (tStore 7 (xC v15) (xC v94))) (oEnd)))
 (cSeq (cOps (oLet (sV (vAddr 0 (xW 15))) fun v95 => oLet (sL (lLoad none (xC v95))) fun v96 => oSet 4 (sV ((xC v96))) fun v4 => oEnd))
 (cSeq (cOps (oLet (sV ((xW 13))) fun v97 => oLet (sV ((xW 2))) fun v98 => oLet (sL (lLoad (some 7) (xW 15))) fun v99 => oLet (sX (xC v97) [(xC v98), (xC v99)]) fun v100 => oSet 101 (sV (vUn .not (xC v100))) fun v101 => oEnd))
 (cCond (xW 101) (cGoto 0)
 cSkip)))))
 (cOps (oLet (sV (vAdd .i64 (xW 91) (xC (.int .i64 1)))) fun v102 => oSet 91 (sV ((xC v102))) fun v91 => oEnd))))))))))
 (cOps (oLet (sV (vAdd .i64 (xW 85) (xC (.int .i64 1)))) fun v103 => oSet 85 (sV ((xC v103))) fun v85 => oEnd))))))))
 (cSeq (cSeq (cOps (oLet (sV ((xW 2))) fun v104 => oSet 2 (sV ((xC v104))) fun v2 => oSet 3 (sV ((xC (.int .i64 0)))) fun v3 => oSet 4 (sV ((xC (.str [])))) fun v4 => oEnd))
 cRet)
 (cSeq cSkip
 (cSeq (cOps (oLet (sV ((xW 3))) fun v105 => oLet (sV ((xW 4))) fun v106 => oSet 2 (sV ((xC (.nilptr)))) fun v2 => oSet 3 (sV ((xC v105))) fun v3 => oSet 4 (sV ((xC v106))) fun v4 => oEnd))
 cRet)))))))))))))) [(0, (cSeq cSkip
 (cSeq (cOps (oLet (sV ((xW 3))) fun v105 => oLet (sV ((xW 4))) fun v106 => oSet 2 (sV ((xC (.nilptr)))) fun v2 => oSet 3 (sV ((xC v105))) fun v3 => oSet 4 (sV ((xC v106))) fun v4 => oEnd))
 cRet)))])), [.tmp (way 2), .tmp (way 3), .tmp (way 4)]⟩
theorem Tryz.k11_c : compF Tryz.prog [16, 17, 23, 24, 25, 26, 27, 28, 29, 31, 33, 34, 32, 35, 36, 38, 39, 40, 41, 46, 47, 48, 49, 50, 51, 52, 53, 54, 55, 56, 57, 58, 59, 60, 61, 62, 63, 64, 65, 66, 67, 72, 73, 74, 75, 76, 77, 78, 79, 80, 81, 82, 87, 88, 93, 94, 95, 96, 97, 98, 99, 100, 102, 103, 104, 105, 106] Tryz.f11 = some Tryz.k11 := by kernel_rfl
def Tryz.k12 : KF := ⟨[(way 0), (way 1)], (cSeq (cOps (oSet 2 (sN (aBox (xW 0))) fun v2 => oSet 4 (sN (aAlloc [.nilslice, .nilslice])) fun v4 => oSet 5 (sV ((xC (.int .i64 0)))) fun v5 => oEnd))
 (cSeq (cOps (oLet (sL (lLoad none (xW 2))) fun v9 => oLet (sV ((xW 1))) fun v10 => oLet (sC 30 [(xC v9), (xC v10)]) fun v11 => oLet (sV (vExtract 0 (xC v11))) fun v12 => oLet (sV (vExtract 1 (xC v11))) fun v13 => oSet 6 (sV ((xC v12))) fun v6 => oSet 7 (sV ((xC v13))) fun v7 => oEnd))
 (cSeq (cSeq (cOps (oLet (sV ((xW 7))) fun v14 => oSet 15 (sV (vNe .i64 (xC v14) (xC (.int .i64 0)))) fun v15 => oEnd))
 (cCond (xW 15) (cSeq (cOps (oLet (sV (vFill [.nilslice, .nilslice] [] [])) fun v16 => oLet (sV ((xW 7))) fun v17 => oDo (sM (tStore 2 (xW 4) (xC v16))) (oSet 5 (sV ((xC v17))) fun v5 => oEnd)))
 cRet)
 cSkip))
 (cSeq (cOps (oLet (sV ((xW 6))) fun v18 => oLet (sV (vFunc 32 [(xW 2)])) fun v19 => oLet (sC 31 [(xC v18), (xC v19)]) fun v20 => oDo (sM (tStore 2 (xW 4) (xC v20))) (oSet 5 (sV ((xC (.int .i64 0)))) fun v5 => oEnd)))
 cRet)))), [.cell (way 4) (some 2), .tmp (way 5)]⟩
theorem Tryz.k12_c : compF Tryz.prog [9, 10, 11, 8, 12, 13, 14, 16, 17, 18, 19, 20] Tryz.f12 = some Tryz.k12 := by kernel_rfl
def Tryz.k13 : KF := ⟨[(way 0), (way 1)], (cSeq (cOps (oSet 2 (sN (aBox (xW 0))) fun v2 => oSet 3 (sN (aBox (xW 1))) fun v3 => oSet 4 (sV ((xC (.bool false)))) fun v4 => oEnd))
 (cSeq (cOps (oLet (sN (aRow 0 2 [] [])) fun v6 => oLet (sV (vAddr 0 (xW 2))) fun v7 => oLet (sL (lLoad none (xC v7))) fun v8 => oCap fun c3 => oLet (sM (tAppend 40 2 (xC v6) (xC v8))) fun v9 => oCap fun d3 => oLet (sV (vAddr 0 (xW 3))) fun v10 => oLet (sLo [c3] d3.next (lLoad none (xC v10))) fun v11 => oCap fun c6 => oLet (sM (tAppend 40 2 (xC v9) (xC v11))) fun v12 => oCap fun d6 => oLet (sN (aRow 0 3 [] [])) fun v13 => oLet (sV (vAddr 1 (xW 2))) fun v14 => oLet (sLo [c6, c3] d6.next (lLoad none (xC v14))) fun v15 => oCap fun c10 => oLet (sM (tAppend 40 3 (xC v13) (xC v15))) fun v16 => oCap fun d10 => oLet (sV (vAddr 1 (xW 3))) fun v17 => oLet (sLo [c10, c6, c3] d10.next (lLoad none (xC v17))) fun v18 => oCap fun c13 => oLet (sM (tAppend 40 3 (xC v16) (xC v18))) fun v19 => oCap fun d13 => oLet (sN (aRow 0 1 [] [])) fun v20 => oLet (sV (vAddr 2 (xW 2))) fun v21 => oLet (sLo [c13, c10, c6, c3] d13.next (lLoad none (xC v21))) fun v22 => oCap fun c17 => oLet (sM (tAppend 16 1 (xC v20) (xC v22))) fun v23 => oCap fun d17 => oLet (sV (vAddr 2 (xW 3))) fun v24 => oLet (sLo [c17, c13, c10, c6, c3] d17.next (lLoad none (xC v24))) fun v25 => oCap fun c20 => oLet (sM (tAppend 16 1 (xC v23) (xC v25))) fun v26 => oCap fun d20 => oLet (sN (aRow 0 1 [] [])) fun v27 => oLet (sV (vAddr 3 (xW 2))) fun v28 => oLet (sLo [c20, c17, c13, c10, c6, c3] d20.next (lLoad none (xC v28))) fun v29 => oCap fun c24 => oLet (sM (tAppend 16 1 (xC v27) (xC v29))) fun v30 => oCap fun d24 => oLet (sV (vAddr 3 (xW 3))) fun v31 => oLet (sLo [c24, c20, c17, c13, c10, c6, c3] d24.next (lLoad none (xC v31))) fun v32 => oCap fun c27 => oLet (sM (tAppend 16 1 (xC v30) (xC v32))) fun v33 => oCap fun d27 => oLet (sV (vCat [1, 1, 1, 1] [(xC v12), (xC v19), (xC v26), (xC v33)])) fun v34 => oSet 5 (sN (aAlloc [.nilslice, .nilslice, .nilslice, .nilslice])) fun v5 => oCap fun c30 => oDo (sM (tStore 4 (xC v5) (xC v34))) (oCap fun d30 => oEnd)))
 (cSeq (cOps (oLet (sL (lLoad (some 4) (xW 5))) fun v35 => oLet (sL (lLoad (some 4) (xW 3))) fun v36 => oLet (sC 34 [(xC v35), (xC v36)]) fun v37 => oSet 4 (sV ((xC v37))) fun v4 => oEnd))
 cRet))), [.tmp (way 4)]⟩
theorem Tryz.k13_c : compF Tryz.prog [6, 7, 8, 9, 10, 11, 12, 13, 14, 15, 16, 17, 18, 19, 20, 21, 22, 23, 24, 25, 26, 27, 28, 29, 30, 31, 32, 33, 34, 35, 36, 37] Tryz.f13 = some Tryz.k13 := by kernel_rfl
def Tryz.k14 : KF := ⟨[(way 0), (way 1)], (cSeq (cOps (oSet 4 (sV ((xC (.bool false)))) fun v4 => oEnd))
 (cSeq (cOps (oLet (sN (aNewMap)) fun v8 => oSet 5 (sN (aAlloc [.nilmap])) fun v5 => oDo (sM (tStore 1 (xC v5) (xC v8))) (oEnd)))
 (cSeq (cSeq (cOps (oSet 9 (sV ((xW 1))) fun v9 => oSet 10 (sV (vLen (xC v9))) fun v10 => oSet 11 (sV ((xC (.int .i64 0)))) fun v11 => oEnd))
 (cBlock 0 (cLoop (cSeq (cOps (oSet 12 (sV (vLt .i64 (xW 11) (xW 10))) fun v12 => oEnd))
 (cSeq (cCond (xW 12) cSkip
 (cExit 0))
 (cSeq (cBlock 1 (cSeq (cOps (oLet (sV (vIdx 3 (xW 9) (xW 11))) fun v13 => oLet (sL (lLoad (some 3) (xC v13))) fun v14 => oSet 7 (sN (aAlloc [.str [], .int .i64 0, .str []])) fun v7 => oDo (sM (tStore 3 (xC v7) (xC v14))) (oEnd)))
 (cOps (oLet (sL (lLoad none (xW 5))) fun v15 => oLet (sL (lLoad (some 3) (xW 7))) fun v16 => oSee (seeL (lLookup (.many [.str, .int, .str]) (some (.int .i64 0)) false (xC v15) (xC v16))) fun q2 => oLet (sLo [] 0 (lLookup (.many [.str, .int, .str]) (some (.int .i64 0)) false (xC v15) (xC v16))) fun v17 => oLet (sV (vAdd .i64 (xC v17) (xC (.int .i64 1)))) fun v18 => oCap fun c4 => oLet (sM (tMapEntry (.many [.str, .int, .str]) (some (.int .i64 0)) (xC v15) (xC v16))) fun v19 => oCap fun d4 => oLate [q2] <| oLet (sV (vExtract 1 (xC v19))) fun v20 => oCap fun c6 => oDo (sM (tEntryStore (xC v15) (xC v20) (xC v18))) (oCap fun d6 => oEnd)))))
 (cOps (oLet (sV (vAdd .i64 (xW 11) (xC (.int .i64 1)))) fun v21 => oSet 11 (sV ((xC v21))) fun v11 => oEnd))))))))
 (cSeq (cOps (oLet (sV ((xW 0))) fun v22 => oLet (sV (vFunc 36 [(xW 5)])) fun v23 => oLet (sC 35 [(xC v22), (xC v23)]) fun v24 => oLet (sV (vUn .not (xC v24))) fun v25 => oSet 4 (sV ((xC v25))) fun v4 => oEnd))
 cRet)))), [.tmp (way 4)]⟩
theorem Tryz.k14_c : compF Tryz.prog [8, 13, 14, 15, 16, 17, 18, 19, 20, 21, 22, 23, 24, 25] Tryz.f14 = some Tryz.k14 := by kernel_rfl
def Tryz.k15 : KF := ⟨[(way 0), (way 1)], (cSeq (cOps (oSet 4 (sV ((xC (.bool false)))) fun v4 => oEnd))
 (cSeq (cOps (oLet (sN (aNewMap)) fun v8 => oSet 5 (sN (aAlloc [.nilmap])) fun v5 => oDo (sM (tStore 1 (xC v5) (xC v8))) (oEnd)))
 (cSeq (cSeq (cOps (oSet 9 (sV ((xW 1))) fun v9 => oSet 10 (sV (vLen (xC v9))) fun v10 => oSet 11 (sV ((xC (.int .i64 0)))) fun v11 => oEnd))
 (cBlock 0 (cLoop (cSeq (cOps (oSet 12 (sV (vLt .i64 (xW 11) (xW 10))) fun v12 => oEnd))
 (cSeq (cCond (xW 12) cSkip
 (cExit 0))
 (cSeq (cBlock 1 (cSeq (cOps (oLet (sV (vIdx 1 (xW 9) (xW 11))) fun v13 => oLet (sL (lLoad none (xC v13))) fun v14 => oSet 7 (sV ((xC v14))) fun v7 => oEnd))
 (cOps (oLet (sL (lLoad none (xW 5))) fun v15 => oLet (sV ((xW 7))) fun v16 => oLet (sL (lLookup (.one .str) (some (.int .i64 0)) false (xC v15) (xC v16))) fun v17 => oLet (sV (vAdd .i64 (xC v17) (xC (.int .i64 1)))) fun v18 => oDo (sM (tMapPut (.one .str) (xC v15) (xC v16) (xC v18))) (oEnd)))))
 (cOps (oLet (sV (vAdd .i64 (xW 11) (xC (.int .i64 1)))) fun v19 => oSet 11 (sV ((xC v19))) fun v11 => oEnd))))))))
 (cSeq (cOps (oLet (sV ((xW 0))) fun v20 => oLet (sV (vFunc 38 [(xW 5)])) fun v21 => oLet (sC 37 [(xC v20), (xC v21)]) fun v22 => oLet (sV (vUn .not (xC v22))) fun v23 => oSet 4 (sV ((xC v23))) fun v4 => oEnd))
 cRet)))), [.tmp (way 4)]⟩
theorem Tryz.k15_c : compF Tryz.prog [8, 13, 14, 15, 16, 17, 18, 19, 20, 21, 22, 23] Tryz.f15 = some Tryz.k15 := by kernel_rfl
def Tryz.k16 : KF := ⟨[(way 0)], (cSeq (cOps (oSet 1 (sN (aBox (xW 0))) fun v1 => oSet 2 (sV ((xC (.int .i64 0)))) fun v2 => oEnd))
 (cScope (cSeq (cOps (oSet 2 (sV ((xC (.int .i64 6)))) fun v2 => oEnd))
 (cSeq (cSeq (cOps (oLet (sV (vAddr 0 (xW 1))) fun v7 => oLet (sL (lLoad none (xC v7))) fun v8 => oLet (sC 39 [(xC v8)]) fun v9 => oLet (sV (vUn .not (xC v9))) fun v10 => oLet (sG (xC v10) false (sV (vAddr 1 (xW 1)))) fun v12 => oLet (sG (xC v10) false (sL (lLoad none (xC v12)))) fun v13 => oLet (sG (xC v10) false (sV (vSNe (xC v13) (xC (.str []))))) fun v14 => oLet (sG (xC v10) false (sV ((xC v14)))) fun v15 => oLet (sG (xC v15) true (sV (vAddr 1 (xW 1)))) fun v16 => oLet (sG (xC v15) true (sL (lLoad none (xC v16)))) fun v17 => oLet (sG (xC v15) true (sC 39 [(xC v17)])) fun v18 => oLet (sG (xC v15) true (sV (vUn .not (xC v18)))) fun v19 => oLet (sG (xC v10) false (sV (vPick (xC v15) (xC v19) (xC (.bool false))))) fun v20 => oLet (sV (vPick (xC v10) (xC (.bool true)) (xC v20))) fun v21 => oLet (sG (xC v21) false (sV (vAddr 4 (xW 1)))) fun v23 => oLet (sG (xC v21) false (sL (lLoad none (xC v23)))) fun v24 => oLet (sG (xC v21) false (sC 37 [(xC v24), (xC (.func 40 []))])) fun v25 => oSet 26 (sV (vPick (xC v21) (xC (.bool true)) (xC v25))) fun v26 => oEnd))
 (cCond (xW 26) (cGoto 0)
 cSkip))
 (cSeq (cOps (oSet 2 (sV ((xC (.int .i64 5)))) fun v2 => oEnd))
 (cSeq (cSeq (cOps (oLet (sV (vAddr 4 (xW 1))) fun v27 => oLet (sL (lLoad none (xC v27))) fun v28 => oLet (sV (vLen (xC v28))) fun v29 => oLet (sV (vGt .i64 (xC v29) (xC (.int .i64 30)))) fun v30 => oLet (sG (xC v30) false (sV (vAddr 5 (xW 1)))) fun v32 => oLet (sG (xC v30) false (sL (lLoad none (xC v32)))) fun v33 => oLet (sG (xC v30) false (sV (vLen (xC v33)))) fun v34 => oLet (sG (xC v30) false (sV (vGt .i64 (xC v34) (xC (.int .i64 20))))) fun v35 => oLet (sV (vPick (xC v30) (xC (.bool true)) (xC v35))) fun v36 => oLet (sG (xC v36) false (sV (vAddr 6 (xW 1)))) fun v38 => oLet (sG (xC v36) false (sL (lLoad none (xC v38)))) fun v39 => oLet (sG (xC v36) false (sV (vLen (xC v39)))) fun v40 => oLet (sG (xC v36) false (sV (vGt .i64 (xC v40) (xC (.int .i64 20))))) fun v41 => oSet 42 (sV (vPick (xC v36) (xC (.bool true)) (xC v41))) fun v42 => oEnd))
 (cCond (xW 42) (cGoto 0)
 cSkip))
 (cSeq (cOps (oSet 2 (sV ((xC (.int .i64 6)))) fun v2 => oEnd))
 (cSeq (cSeq (cOps (oLet (sV (vAddr 5 (xW 1))) fun v43 => oSet 44 (sL (lLoad none (xC v43))) fun v44 => oSet 45 (sV (vLen (xC v44))) fun v45 => oSet 46 (sV ((xC (.int .i64 0)))) fun v46 => oEnd))
 (cBlock 0 (cLoop (cSeq (cOps (oSet 47 (sV (vLt .i64 (xW 46) (xW 45))) fun v47 => oEnd))
 (cSeq (cCond (xW 47) cSkip
 (cExit 0))
 (cSeq (cBlock 1 (cSeq (cOps (oLet (sV (vIdx 3 (xW 44) (xW 46))) fun v48 => oLet (sL (lLoad (some 3) (xC v48))) fun v49 => oSet 4 (sN (aAlloc [.str [], .str [], .bool false])) fun v4 => oDo (sM (tStore 3 (xC v4) (xC v49))) (oEnd)))
 (cSeq (cOps (oLet (sV (vAddr 0 (xW 4))) fun v50 => oLet (sL (lLoad none (xC v50))) fun v51 => oLet (sC 39 [(xC v51)]) fun v52 => oLet (sV (vUn .not (xC v52))) fun v53 => oLet (sG (xC v53) false (sV (vAddr 1 (xW 4)))) fun v55 => oLet (sG (xC v53) false (sL (lLoad none (xC v55)))) fun v56 => oLet (sG (xC v53) false (sC 41 [(xC v56)])) fun v57 => oLet (sG (xC v53) false (sV (vUn .not (xC v57)))) fun v58 => oSet 59 (sV (vPick (xC v53) (xC (.bool true)) (xC v58))) fun v59 => oEnd))
 (cCond (xW 59) (cGoto 0)
 cSkip))))
 (cOps (oLet (sV (vAdd .i64 (xW 46) (xC (.int .i64 1)))) fun v60 => oSet 46 (sV ((xC v60))) fun v46 => oEnd))))))))
 (cSeq (cSeq (cOps (oLet (sV (vAddr 6 (xW 1))) fun v61 => oSet 62 (sL (lLoad none (xC v61))) fun v62 => oSet 63 (sV (vLen (xC v62))) fun v63 => oSet 64 (sV ((xC (.int .i64 0)))) fun v64 => oEnd))
 (cBlock 2 (cLoop (cSeq (cOps (oSet 65 (sV (vLt .i64 (xW 64) (xW 63))) fun v65 => oEnd))
 (cSeq (cCond (xW 65) cSkip
 (cExit 2))
 (cSeq (cBlock 3 (cSeq (cOps (oLet (sV (vIdx 8 (xW 62) (xW 64))) fun v66 => oLet (sL (lLoad (some 8) (xC v66))) fun v67 => oSet 6 (sN (aAlloc [.str [], .str [], .bool false, .bool false, .int .i64 0, .int .i64 0, .nilslice, .nilslice])) fun v6 => oDo (sM (tStore 8 (xC v6) (xC v67))) (oEnd)))
 (cSeq (cOps (oLet (sL (lLoad (some 8) (xW 6))) fun v68 => oLet (sC 42 [(xC v68)]) fun v69 => oSet 2 (sV ((xC v69))) fun v2 => oEnd))
 (cSeq (cOps (oLet (sV ((xW 2))) fun v70 => oSet 71 (sV (vNe .i64 (xC v70) (xC (.int .i64 0)))) fun v71 => oEnd))
 (cCond (xW 71) (cGoto 0)
 cSkip)))))
 (cOps (oLet (sV (vAdd .i64 (xW 64) (xC (.int .i64 1)))) fun v72 => oSet 64 (sV ((xC v72))) fun v64 => oEnd))))))))
 (cSeq (cOps (oSet 2 (sV ((xC (.int .i64 0)))) fun v2 => oEnd))
 (cSeq (cSeq (cOps (oLet (sL (lLoad (some 7) (xW 1))) fun v73 => oLet (sC 43 [(xC v73)]) fun v74 => oLet (sV (vLen (xC v74))) fun v75 => oSet 76 (sV (vGt .i64 (xC v75) (xC (.int .i64 500)))) fun v76 => oEnd))
 (cCond (xW 76) (cOps (oSet 2 (sV ((xC (.int .i64 5)))) fun v2 => oEnd))
 cSkip))
 (cSeq cSkip
 (cSeq (cOps (oLet (sV ((xW 2))) fun v77 => oSet 2 (sV ((xC v77))) fun v2 => oEnd))
 cRet))))))))))) [(0, (cSeq cSkip
 (cSeq (cOps (oLet (sV ((xW 2))) fun v77 => oSet 2 (sV ((xC v77))) fun v2 => oEnd))
 cRet)))])), [.tmp (way 2)]⟩
theorem Tryz.k16_c : compF Tryz.prog [7, 8, 9, 10, 11, 12, 13, 14, 15, 16, 17, 18, 19, 20, 21, 22, 23, 24, 25, 27, 28, 29, 30, 31, 32, 33, 34, 35, 36, 37, 38, 39, 40, 41, 43, 48, 49, 50, 51, 52, 53, 54, 55, 56, 57, 58, 60, 61, 66, 67, 68, 69, 70, 72, 73, 74, 75, 77] Tryz.f16 = some Tryz.k16 := by kernel_rfl
def Tryz.k17 : KF := ⟨[(way 0)], (cSeq (cOps (oSet 2 (sV ((xC (.str [])))) fun v2 => oSet 3 (sV ((xC (.bool false)))) fun v3 => oEnd))
 (cSeq (cSeq (cOps (oSet 7 (sV ((xW 0))) fun v7 => oSet 8 (sV (vLen (xC v7))) fun v8 => oSet 9 (sV ((xC (.int .i64 0)))) fun v9 => oEnd))
 (cBlock 0 (cLoop (cSeq (cOps (oSet 10 (sV (vLt .i64 (xW 9) (xW 8))) fun v10 => oEnd))
 (cSeq (cCond (xW 10) cSkip
 (cExit 0))
 (cSeq (cBlock 1 (cSeq (cOps (oLet (sV ((xW 9))) fun v11 => oLet (sV (vIdx 7 (xW 7) (xC v11))) fun v12 => oLet (sL (lLoad (some 7) (xC v12))) fun v13 => oSet 5 (sN (aAlloc [.str [], .str [], .bool false, .bool false, .nilslice, .nilslice, .nilslice])) fun v5 => oSet 4 (sV ((xC v11))) fun v4 => oDo (sM (tStore 7 (xC v5) (xC v13))) (oEnd)))
 (cSeq (cOps (oLet (sV (vFunc 44 [(xW 5)])) fun v14 => oSet 6 (sV ((xC v14))) fun v6 => oEnd))
 (cSeq (cOps (oLet (sC 18 []) fun v15 => oLet (sV ((xW 6))) fun v16 => oLet (sC 45 [(xC v15), (xC v16)]) fun v17 => oLet (sG (xC v17) false (sV ((xW 0)))) fun v19 => oLet (sG (xC v17) false (sV ((xW 4)))) fun v20 => oLet (sG (xC v17) false (sV (vAdd .i64 (xC v20) (xC (.int .i64 1))))) fun v21 => oLet (sG (xC v17) false (sV (vSlice 7 (xC v19) [(xC v21)] [] []))) fun v22 => oLet (sG (xC v17) false (sV ((xC v16)))) fun v23 => oLet (sG (xC v17) false (sC 45 [(xC v22), (xC v23)])) fun v24 => oSet 25 (sV (vPick (xC v17) (xC (.bool true)) (xC v24))) fun v25 => oEnd))
 (cCond (xW 25) (cSeq (cOps (oLet (sV (vAddr 0 (xW 5))) fun v26 => oLet (sL (lLoad none (xC v26))) fun v27 => oSet 2 (sV ((xC v27))) fun v2 => oSet 3 (sV ((xC (.bool true)))) fun v3 => oEnd))
 cRet)
 cSkip)))))
 (cOps (oLet (sV (vAdd .i64 (xW 9) (xC (.int .i64 1)))) fun v28 => oSet 9 (sV ((xC v28))) fun v9 => oEnd))))))))
 (cSeq (cOps (oSet 2 (sV ((xC (.str [])))) fun v2 => oSet 3 (sV ((xC (.bool false)))) fun v3 => oEnd))
 cRet))), [.tmp (way 2), .tmp (way 3)]⟩
theorem Tryz.k17_c : compF Tryz.prog [11, 12, 13, 14, 15, 16, 17, 18, 19, 20, 21, 22, 23, 24, 26, 27, 28] Tryz.f17 = some Tryz.k17 := by kernel_rfl
def Tryz.k18 : KF := ⟨[], (cSeq (cOps (oSet 0 (sV ((xC (.nilslice)))) fun v0 => oEnd))
 (cSeq (cOps (oLet (sV (vFill [.str [], .str [], .bool false, .bool false, .nilslice, .nilslice, .nilslice] [(0, 1)] [(xC (.str [79, 98, 106, 101, 99, 116]))])) fun v7 => oLet (sV (vFill [.str [], .str [], .bool false, .bool false, .nilslice, .nilslice, .nilslice] [(0, 1), (1, 1)] [(xC (.str [84, 104, 114, 111, 119, 97, 98, 108, 101])), (xC (.str [79, 98, 106, 101, 99, 116]))])) fun v8 => oLet (sN (aRow 2 7 [7, 7] [(xC v7), (xC v8)])) fun v9 => oSet 1 (sV ((xC v9))) fun v1 => oEnd))
 (cSeq (cSeq (cOps (oSet 10 (sN (aRow 8 1 [1, 1, 1, 1, 1, 1, 1, 1] [(xC (.str [78, 117, 108, 108, 69, 120])), (xC (.str [66, 111, 117, 110, 100, 115, 69, 120])), (xC (.str [83, 116, 111, 114, 101, 69, 120])), (xC (.str [67, 97, 115, 116, 69, 120])), (xC (.str [65, 114, 105, 116, 104, 69, 120])), (xC (.str [77, 101, 109, 69, 120])), (xC (.str [68, 101, 112, 116, 104, 69, 120])), (xC (.str [73, 110, 105, 116, 69, 120]))])) fun v10 => oSet 11 (sV (vLen (xC v10))) fun v11 => oSet 12 (sV ((xC (.int .i64 0)))) fun v12 => oEnd))
 (cBlock 0 (cLoop (cSeq (cOps (oSet 13 (sV (vLt .i64 (xW 12) (xW 11))) fun v13 => oEnd))
 (cSeq (cCond (xW 13) cSkip
 (cExit 0))
 (cSeq (cBlock 1 (cSeq (cOps (oLet (sV (vIdx 1 (xW 10) (xW 12))) fun v14 => oLet (sL (lLoad none (xC v14))) fun v15 => oSet 3 (sV ((xC v15))) fun v3 => oEnd))
 (cOps (oLet (sV ((xW 1))) fun v16 => oLet (sV ((xW 3))) fun v17 => oLet (sV (vFill [.str [], .str [], .bool false, .bool false, .nilslice, .nilslice, .nilslice] [(0, 1), (1, 1)] [(xC v17), (xC (.str [84, 104, 114, 111, 119, 97, 98, 108, 101]))])) fun v18 => oLet (sN (aRow 1 7 [7] [(xC v18)])) fun v19 => oLet (sM (tAppend 112 7 (xC v16) (xC v19))) fun v20 => oSet 1 (sV ((xC v20))) fun v1 => oEnd))))
 (cOps (oLet (sV (vAdd .i64 (xW 12) (xC (.int .i64 1)))) fun v21 => oSet 12 (sV ((xC v21))) fun v12 => oEnd))))))))
 (cSeq (cSeq (cOps (oLet (sV ((xW 1))) fun v22 => oSet 23 (sV (vLen (xC v22))) fun v23 => oSet 24 (sV ((xC (.int .i64 0)))) fun v24 => oEnd))
 (cBlock 2 (cLoop (cSeq (cOps (oSet 25 (sV (vLt .i64 (xW 24) (xW 23))) fun v25 => oEnd))
 (cSeq (cCond (xW 25) cSkip
 (cExit 2))
 (cSeq (cBlock 3 (cSeq (cOps (oLet (sV ((xW 24))) fun v26 => oSet 4 (sV ((xC v26))) fun v4 => oEnd))
 (cOps (oLet (sV ((xW 1))) fun v27 => oLet (sV ((xW 4))) fun v28 => oLet (sC 46 [(xC (.str [60, 105, 110, 105, 116, 62])), (xC (.str [40, 41, 86])), (xC (.bool false))]) fun v29 => oLet (sN (aRow 1 8 [8] [(xC v29)])) fun v30 => oLet (sV (vIdx 7 (xC v27) (xC v28))) fun v31 => oLet (sV (vAddr 6 (xC v31))) fun v32 => oDo (sM (tStore 1 (xC v32) (xC v30))) (oEnd)))))
 (cOps (oLet (sV (vAdd .i64 (xW 24) (xC (.int .i64 1)))) fun v33 => oSet 24 (sV ((xC v33))) fun v24 => oEnd))))))))
 (cSeq (cOps (oLet (sV (vFill [.str [], .str [], .bool false, .bool false, .int .i64 0, .int .i64 0, .nilslice, .nilslice] [(0, 1), (1, 1), (3, 1)] [(xC (.str [114, 117, 110])), (xC (.str [40, 41, 86])), (xC (.bool true))])) fun v34 => oSet 5 (sN (aAlloc [.str [], .str [], .bool false, .bool false, .int .i64 0, .int .i64 0, .nilslice, .nilslice])) fun v5 => oDo (sM (tStore 8 (xC v5) (xC v34))) (oEnd)))
 (cSeq (cOps (oLet (sV ((xW 1))) fun v35 => oLet (sL (lLoad (some 8) (xW 5))) fun v36 => oLet (sN (aRow 1 8 [8] [(xC v36)])) fun v37 => oLet (sV (vFill [.str [], .str [], .bool false, .bool false, .nilslice, .nilslice, .nilslice] [(0, 1), (1, 1), (2, 1), (3, 1), (6, 1)] [(xC (.str [84, 97, 115, 107])), (xC (.str [79, 98, 106, 101, 99, 116])), (xC (.bool true)), (xC (.bool true)), (xC v37)])) fun v38 => oLet (sN (aRow 1 7 [7] [(xC v38)])) fun v39 => oLet (sM (tAppend 112 7 (xC v35) (xC v39))) fun v40 => oSet 1 (sV ((xC v40))) fun v1 => oEnd))
 (cSeq (cOps (oLet (sV (vFill [.str [], .str [], .bool false, .bool false, .nilslice, .nilslice, .nilslice] [(0, 1), (1, 1), (3, 1)] [(xC (.str [83, 121, 115])), (xC (.str [79, 98, 106, 101, 99, 116])), (xC (.bool true))])) fun v41 => oSet 6 (sN (aAlloc [.str [], .str [], .bool false, .bool false, .nilslice, .nilslice, .nilslice])) fun v6 => oDo (sM (tStore 7 (xC v6) (xC v41))) (oEnd)))
 (cSeq (cOps (oLet (sV (vAddr 6 (xW 6))) fun v42 => oSee (seeL (lLoad none (xC v42))) fun q1 => oLet (sLo [] 0 (lLoad none (xC v42))) fun v43 => oCap fun c2 => oLet (sC 46 [(xC (.str [112, 105, 99, 107])), (xC (.str [40, 41, 73])), (xC (.bool true))]) fun v44 => oCap fun d2 => oLate [q1] <| oCap fun c3 => oLet (sC 46 [(xC (.str [101, 99, 104, 111])), (xC (.str [40, 76, 79, 98, 106, 101, 99, 116, 59, 41, 76, 79, 98, 106, 101, 99, 116, 59])), (xC (.bool true))]) fun v45 => oCap fun d3 => oLate [q1] <| oLet (sN (aRow 2 8 [8, 8] [(xC v44), (xC v45)])) fun v46 => oCap fun c5 => oLet (sM (tAppend 104 8 (xC v43) (xC v46))) fun v47 => oCap fun d5 => oLet (sV (vAddr 6 (xW 6))) fun v48 => oCap fun c7 => oDo (sM (tStore 1 (xC v48) (xC v47))) (oCap fun d7 => oEnd)))
 (cSeq (cOps (oLet (sV (vAddr 6 (xW 6))) fun v49 => oSee (seeL (lLoad none (xC v49))) fun q1 => oLet (sLo [] 0 (lLoad none (xC v49))) fun v50 => oCap fun c2 => oLet (sC 46 [(xC (.str [102, 114, 101, 115, 104])), (xC (.str [40, 41, 76, 79, 98, 106, 101, 99, 116, 59])), (xC (.bool true))]) fun v51 => oCap fun d2 => oLate [q1] <| oCap fun c3 => oLet (sC 46 [(xC (.str [99, 97, 108, 108])), (xC (.str [40, 76, 84, 97, 115, 107, 59, 41, 86])), (xC (.bool true))]) fun v52 => oCap fun d3 => oLate [q1] <| oLet (sN (aRow 2 8 [8, 8] [(xC v51), (xC v52)])) fun v53 => oCap fun c5 => oLet (sM (tAppend 104 8 (xC v50) (xC v53))) fun v54 => oCap fun d5 => oLet (sV (vAddr 6 (xW 6))) fun v55 => oCap fun c7 => oDo (sM (tStore 1 (xC v55) (xC v54))) (oCap fun d7 => oEnd)))
 (cSeq (cOps (oLet (sV ((xW 1))) fun v56 => oLet (sL (lLoad (some 7) (xW 6))) fun v57 => oLet (sN (aRow 1 7 [7] [(xC v57)])) fun v58 => oLet (sM (tAppend 112 7 (xC v56) (xC v58))) fun v59 => oSet 0 (sV ((xC v59))) fun v0 => oEnd))
 cRet)))))))))), [.tmp (way 0)]⟩
theorem Tryz.k18_c : compF Tryz.prog [7, 8, 9, 14, 15, 16, 17, 18, 19, 20, 21, 22, 26, 27, 28, 29, 30, 31, 32, 33, 34, 35, 36, 37, 38, 39, 40, 41, 42, 43, 44, 45, 46, 47, 48, 49, 50, 51, 52, 53, 54, 55, 56, 57, 58, 59] Tryz.f18 = some Tryz.k18 := by kernel_rfl
def Tryz.k19 : KF := ⟨[(way 0)], (cSeq (cOps (oSet 1 (sN (aBox (xW 0))) fun v1 => oSet 2 (sN (aAlloc [.str [], .str [], .bool false, .bool false, .nilslice, .nilslice, .nilslice])) fun v2 => oEnd))
 (cSeq (cOps (oLet (sV (vAddr 4 (xW 1))) fun v5 => oLet (sL (lLoad none (xC v5))) fun v6 => oCap fun c2 => oLet (sC 47 [(xC v6)]) fun v7 => oCap fun d2 => oLet (sV (vAddr 5 (xW 1))) fun v8 => oLet (sLo [c2] d2.next (lLoad none (xC v8))) fun v9 => oCap fun c5 => oLet (sC 48 [(xC v9)]) fun v10 => oCap fun d5 => oLet (sV (vAddr 6 (xW 1))) fun v11 => oLet (sLo [c5, c2] d5.next (lLoad none (xC v11))) fun v12 => oCap fun c8 => oLet (sC 49 [(xC v12)]) fun v13 => oCap fun d8 => oLet (sV (vAddr 4 (xW 1))) fun v14 => oCap fun c10 => oDo (sM (tStore 1 (xC v14) (xC v7))) (oCap fun d10 => oLet (sV (vAddr 5 (xW 1))) fun v15 => oCap fun c12 => oDo (sM (tStore 1 (xC v15) (xC v10))) (oCap fun d12 => oLet (sV (vAddr 6 (xW 1))) fun v16 => oCap fun c14 => oDo (sM (tStore 1 (xC v16) (xC v13))) (oCap fun d14 => oEnd)))))
 (cSeq (cSeq (cOps (oLet (sV (vAddr 6 (xW 1))) fun v17 => oSet 18 (sL (lLoad none (xC v17))) fun v18 => oSet 19 (sV (vLen (xC v18))) fun v19 => oSet 20 (sV ((xC (.int .i64 0)))) fun v20 => oEnd))
 (cBlock 0 (cLoop (cSeq (cOps (oSet 21 (sV (vLt .i64 (xW 20) (xW 19))) fun v21 => oEnd))
 (cSeq (cCond (xW 21) cSkip
 (cExit 0))
 (cSeq (cBlock 1 (cSeq (cOps (oLet (sV ((xW 20))) fun v22 => oLet (sV (vIdx 8 (xW 18) (xC v22))) fun v23 => oLet (sL (lLoad (some 8) (xC v23))) fun v24 => oSet 4 (sN (aAlloc [.str [], .str [], .bool false, .bool false, .int .i64 0, .int .i64 0, .nilslice, .nilslice])) fun v4 => oSet 3 (sV ((xC v22))) fun v3 => oDo (sM (tStore 8 (xC v4) (xC v24))) (oEnd)))
 (cOps (oLet (sV (vAddr 6 (xW 1))) fun v25 => oSee (seeL (lLoad none (xC v25))) fun q1 => oLet (sLo [] 0 (lLoad none (xC v25))) fun v26 => oLet (sV ((xW 3))) fun v27 => oLet (sL (lLoad (some 8) (xW 4))) fun v28 => oCap fun c4 => oLet (sC 50 [(xC v28)]) fun v29 => oCap fun d4 => oLate [q1] <| oLet (sV (vIdx 8 (xC v26) (xC v27))) fun v30 => oCap fun c6 => oDo (sM (tStore 8 (xC v30) (xC v29))) (oCap fun d6 => oEnd)))))
 (cOps (oLet (sV (vAdd .i64 (xW 20) (xC (.int .i64 1)))) fun v31 => oSet 20 (sV ((xC v31))) fun v20 => oEnd))))))))
 (cSeq (cOps (oLet (sL (lLoad (some 7) (xW 1))) fun v32 => oDo (sM (tStore 7 (xW 2) (xC v32))) (oEnd)))
 cRet)))), [.cell (way 2) (some 7)]⟩
theorem Tryz.k19_c : compF Tryz.prog [5, 6, 7, 8, 9, 10, 11, 12, 13, 14, 15, 16, 17, 22, 23, 24, 25, 26, 27, 28, 29, 30, 31, 32] Tryz.f19 = some Tryz.k19 := by kernel_rfl
def Tryz.k20 : KF := ⟨[(way 0), (way 1)], (cSeq (cOps (oLet (sV ((xW 0))) fun v5 => oLet (sV (vLen (xC v5))) fun v6 => oSet 4 (sV ((xC v6))) fun v4 => oEnd))
 (cOps (oLet (sV ((xW 0))) fun v7 => oLet (sV ((xW 4))) fun v8 => oLet (sV (vToI .u64 (xC v8))) fun v10 => oLet (sC 52 [(xC v10)]) fun v11 => oLet (sV ((xW 1))) fun v12 => oLet (sC 51 [(xC v7), (xC (.int .i64 0)), (xC v8), (xC v11), (xC v12)]) fun v13 => oEnd))), []⟩
theorem Tryz.k20_c : compF Tryz.prog [5, 6, 7, 8, 9, 10, 11, 12, 13] Tryz.f20 = some Tryz.k20 := by kernel_rfl
def Tryz.k21 : KF := ⟨[(way 0), (way 1)], (cSeq (cOps (oSet 2 (sN (aBox (xW 0))) fun v2 => oSet 3 (sN (aBox (xW 1))) fun v3 => oSet 4 (sV ((xC (.int .i64 0)))) fun v4 => oEnd))
 (cSeq (cOps (oLet (sV (vAddr 0 (xW 2))) fun v5 => oLet (sL (lLoad none (xC v5))) fun v6 => oLet (sV (vAddr 0 (xW 3))) fun v7 => oLet (sL (lLoad none (xC v7))) fun v8 => oLet (sC 22 [(xC v6), (xC v8)]) fun v9 => oSet 4 (sV ((xC v9))) fun v4 => oEnd))
 cRet)), [.tmp (way 4)]⟩
theorem Tryz.k21_c : compF Tryz.prog [5, 6, 7, 8, 9] Tryz.f21 = some Tryz.k21 := by kernel_rfl
def Tryz.k22 : KF := ⟨[(way 0), (way 1)], (cSeq (cOps (oSet 4 (sV ((xC (.int .i64 0)))) fun v4 => oEnd))
 (cSeq (cOps (oLet (sV ((xW 0))) fun v7 => oLet (sC 53 [(xC v7)]) fun v8 => oSet 5 (sV ((xC v8))) fun v5 => oEnd))
 (cSeq (cOps (oLet (sV ((xW 1))) fun v9 => oLet (sC 53 [(xC v9)]) fun v10 => oSet 6 (sV ((xC v10))) fun v6 => oEnd))
 (cSeq (cSeq (cOps (oSet 11 (sV ((xW 5))) fun v11 => oEnd))
 (cCond (xW 11) (cSeq (cSeq (cOps (oSet 12 (sV ((xW 6))) fun v12 => oEnd))
 (cCond (xW 12) (cSeq (cOps (oSet 4 (sV ((xC (.int .i64 0)))) fun v4 => oEnd))
 cRet)
 cSkip))
 (cSeq (cOps (oSet 4 (sV ((xC (.int .i64 (-1))))) fun v4 => oEnd))
 cRet))
 cSkip))
 (cSeq (cSeq (cOps (oSet 13 (sV ((xW 6))) fun v13 => oEnd))
 (cCond (xW 13) (cSeq (cOps (oSet 4 (sV ((xC (.int .i64 1)))) fun v4 => oEnd))
 cRet)
 cSkip))
 (cSeq (cSeq (cOps (oLet (sV ((xW 0))) fun v14 => oLet (sV ((xW 1))) fun v15 => oSet 16 (sV (vStr .lss (xC v14) (xC v15))) fun v16 => oEnd))
 (cCond (xW 16) (cSeq (cOps (oSet 4 (sV ((xC (.int .i64 (-1))))) fun v4 => oEnd))
 cRet)
 cSkip))
 (cSeq (cSeq (cOps (oLet (sV ((xW 0))) fun v17 => oLet (sV ((xW 1))) fun v18 => oSet 19 (sV (vStr .gtr (xC v17) (xC v18))) fun v19 => oEnd))
 (cCond (xW 19) (cSeq (cOps (oSet 4 (sV ((xC (.int .i64 1)))) fun v4 => oEnd))
 cRet)
 cSkip))
 (cSeq (cOps (oSet 4 (sV ((xC (.int .i64 0)))) fun v4 => oEnd))
 cRet)))))))), [.tmp (way 4)]⟩
theorem Tryz.k22_c : compF Tryz.prog [7, 8, 9, 10, 14, 15, 17, 18] Tryz.f22 = some Tryz.k22 := by kernel_rfl
def Tryz.k23 : KF := ⟨[(way 0), (way 1)], (cSeq (cOps (oSet 3 (sN (aBox (xW 1))) fun v3 => oSet 4 (sV ((xC (.bool false)))) fun v4 => oEnd))
 (cSeq (cOps (oLet (sV ((xW 0))) fun v8 => oLet (sV (vAddr 1 (xW 3))) fun v9 => oLet (sL (lLoad none (xC v9))) fun v10 => oLet (sC 54 [(xC v8), (xC v10)]) fun v11 => oLet (sV (vExtract 0 (xC v11))) fun v12 => oLet (sV (vExtract 1 (xC v11))) fun v13 => oSet 5 (sN (aAlloc [.str [], .str [], .bool false, .bool false, .nilslice, .nilslice, .nilslice])) fun v5 => oDo (sM (tStore 7 (xC v5) (xC v12))) (oSet 6 (sV ((xC v13))) fun v6 => oEnd)))
 (cSeq (cOps (oLet (sV ((xW 6))) fun v14 => oLet (sG (xC v14) true (sV (vAddr 2 (xW 5)))) fun v16 => oLet (sG (xC v14) true (sL (lLoad none (xC v16)))) fun v17 => oLet (sG (xC v14) true (sV (vUn .not (xC v17)))) fun v18 => oLet (sV (vPick (xC v14) (xC v18) (xC (.bool false)))) fun v19 => oLet (sG (xC v19) true (sV (vAddr 0 (xW 5)))) fun v21 => oLet (sG (xC v19) true (sL (lLoad none (xC v21)))) fun v22 => oLet (sG (xC v19) true (sV (vSNe (xC v22) (xC (.str [83, 121, 115]))))) fun v23 => oLet (sV (vPick (xC v19) (xC v23) (xC (.bool false)))) fun v24 => oLet (sG (xC v24) true (sV (vAddr 2 (xW 3)))) fun v26 => oLet (sG (xC v24) true (sL (lLoad none (xC v26)))) fun v27 => oLet (sG (xC v24) true (sV (vUn .not (xC v27)))) fun v28 => oLet (sG (xC v24) true (sV ((xC v28)))) fun v29 => oLet (sG (xC v29) false (sV (vAddr 0 (xW 5)))) fun v30 => oLet (sG (xC v29) false (sL (lLoad none (xC v30)))) fun v31 => oLet (sG (xC v29) false (sV (vSEq (xC v31) (xC (.str [79, 98, 106, 101, 99, 116]))))) fun v32 => oLet (sG (xC v24) true (sV (vPick (xC v29) (xC (.bool true)) (xC v32)))) fun v33 => oLet (sV (vPick (xC v24) (xC v33) (xC (.bool false)))) fun v34 => oSet 4 (sV ((xC v34))) fun v4 => oEnd))
 cRet))), [.tmp (way 4)]⟩
theorem Tryz.k23_c : compF Tryz.prog [8, 9, 10, 11, 7, 12, 13, 14, 15, 16, 17, 18, 19, 20, 21, 22, 23, 24, 25, 26, 27, 28, 29, 30, 31, 32, 33, 34] Tryz.f23 = some Tryz.k23 := by kernel_rfl
def Tryz.k24 : KF := ⟨[(way 0), (way 1)], (cSeq (cOps (oSet 3 (sN (aBox (xW 1))) fun v3 => oSet 4 (sV ((xC (.bool false)))) fun v4 => oEnd))
 (cSeq (cSeq (cOps (oLet (sV (vAddr 4 (xW 3))) fun v9 => oSet 10 (sL (lLoad none (xC v9))) fun v10 => oSet 11 (sV (vLen (xC v10))) fun v11 => oSet 12 (sV ((xC (.int .i64 0)))) fun v12 => oEnd))
 (cBlock 0 (cLoop (cSeq (cOps (oSet 13 (sV (vLt .i64 (xW 12) (xW 11))) fun v13 => oEnd))
 (cSeq (cCond (xW 13) cSkip
 (cExit 0))
 (cSeq (cBlock 1 (cSeq (cOps (oLet (sV ((xW 12))) fun v14 => oLet (sV (vIdx 1 (xW 10) (xC v14))) fun v15 => oLet (sL (lLoad none (xC v15))) fun v16 => oSet 5 (sV ((xC v14))) fun v5 => oSet 6 (sV ((xC v16))) fun v6 => oEnd))
 (cSeq (cOps (oLet (sV ((xW 0))) fun v18 => oLet (sV ((xW 6))) fun v19 => oLet (sC 54 [(xC v18), (xC v19)]) fun v20 => oLet (sV (vExtract 0 (xC v20))) fun v21 => oLet (sV (vExtract 1 (xC v20))) fun v22 => oSet 7 (sN (aAlloc [.str [], .str [], .bool false, .bool false, .nilslice, .nilslice, .nilslice])) fun v7 => oDo (sM (tStore 7 (xC v7) (xC v21))) (oSet 8 (sV ((xC v22))) fun v8 => oEnd)))
 (cSeq (cOps (oLet (sV ((xW 8))) fun v23 => oLet (sV (vUn .not (xC v23))) fun v24 => oLet (sG (xC v24) false (sV (vAddr 2 (xW 7)))) fun v26 => oLet (sG (xC v24) false (sL (lLoad none (xC v26)))) fun v27 => oLet (sG (xC v24) false (sV (vUn .not (xC v27)))) fun v28 => oLet (sV (vPick (xC v24) (xC (.bool true)) (xC v28))) fun v29 => oLet (sG (xC v29) false (sV (vAddr 4 (xW 3)))) fun v31 => oLet (sG (xC v29) false (sL (lLoad none (xC v31)))) fun v32 => oLet (sG (xC v29) false (sV ((xW 5)))) fun v33 => oLet (sG (xC v29) false (sV (vSlice 1 (xC v32) [] [(xC v33)] []))) fun v34 => oLet (sG (xC v29) false (sV ((xW 6)))) fun v35 => oLet (sG (xC v29) false (sC 55 [(xC v34), (xC v35)])) fun v36 => oSet 37 (sV (vPick (xC v29) (xC (.bool true)) (xC v36))) fun v37 => oEnd))
 (cCond (xW 37) (cSeq (cOps (oSet 4 (sV ((xC (.bool false)))) fun v4 => oEnd))
 cRet)
 cSkip)))))
 (cOps (oLet (sV (vAdd .i64 (xW 12) (xC (.int .i64 1)))) fun v38 => oSet 12 (sV ((xC v38))) fun v12 => oEnd))))))))
 (cSeq (cOps (oSet 4 (sV ((xC (.bool true)))) fun v4 => oEnd))
 cRet))), [.tmp (way 4)]⟩
theorem Tryz.k24_c : compF Tryz.prog [9, 14, 15, 16, 18, 19, 20, 17, 21, 22, 23, 24, 25, 26, 27, 28, 29, 30, 31, 32, 33, 34, 35, 36, 38] Tryz.f24 = some Tryz.k24 := by kernel_rfl
def Tryz.k25 : KF := ⟨[(way 0), (way 1)], (cSeq (cOps (oSet 3 (sN (aBox (xW 1))) fun v3 => oSet 4 (sV ((xC (.bool false)))) fun v4 => oEnd))
 (cSeq (cOps (oLet (sN (aNewMap)) fun v6 => oSet 5 (sV ((xC v6))) fun v5 => oEnd))
 (cSeq (cOps (oLet (sV ((xW 0))) fun v7 => oLet (sV (vAddr 0 (xW 3))) fun v8 => oLet (sL (lLoad none (xC v8))) fun v9 => oLet (sV ((xW 5))) fun v10 => oLet (sC 56 [(xC v7), (xC v9), (xC v10)]) fun v11 => oEnd))
 (cSeq (cOps (oLet (sV ((xW 0))) fun v12 => oLet (sV (vAddr 1 (xW 3))) fun v13 => oLet (sL (lLoad none (xC v13))) fun v14 => oCap fun c3 => oLet (sC 57 [(xC v12), (xC v14)]) fun v15 => oCap fun d3 => oLet (sV (vAddr 0 (xW 3))) fun v16 => oLet (sLo [c3] d3.next (lLoad none (xC v16))) fun v17 => oCap fun c6 => oLet (sC 55 [(xC v15), (xC v17)]) fun v18 => oCap fun d6 => oLet (sV (vUn .not (xC v18))) fun v19 => oLet (sG (xC v19) true (sV (vAddr 2 (xW 3)))) fun v21 => oLet (sG (xC v19) true (sL (lLoad none (xC v21)))) fun v22 => oLet (sG (xC v19) true (sV (vUn .not (xC v22)))) fun v23 => oLet (sG (xC v19) true (sV ((xC v23)))) fun v24 => oLet (sG (xC v24) false (sV ((xW 5)))) fun v25 => oLet (sG (xC v24) false (sV (vAddr 0 (xW 3)))) fun v26 => oLet (sG (xC v24) false (sL (lLoad none (xC v26)))) fun v27 => oLet (sG (xC v24) false (sL (lLookup (.one .str) (some (.int .i64 0)) false (xC v25) (xC v27)))) fun v28 => oLet (sG (xC v24) false (sV (vEq .i64 (xC v28) (xC (.int .i64 0))))) fun v29 => oLet (sG (xC v19) true (sV (vPick (xC v24) (xC (.bool true)) (xC v29)))) fun v30 => oLet (sV (vPick (xC v19) (xC v30) (xC (.bool false)))) fun v31 => oSet 4 (sV ((xC v31))) fun v4 => oEnd))
 cRet)))), [.tmp (way 4)]⟩
theorem Tryz.k25_c : compF Tryz.prog [6, 7, 8, 9, 10, 11, 12, 13, 14, 15, 16, 17, 18, 19, 20, 21, 22, 23, 24, 25, 26, 27, 28, 29, 30, 31] Tryz.f25 = some Tryz.k25 := by kernel_rfl
def Tryz.k26 : KF := ⟨[(way 0), (way 1)], (cSeq (cOps (oSet 3 (sN (aBox (xW 1))) fun v3 => oSet 4 (sV ((xC (.bool false)))) fun v4 => oEnd))
 (cSeq (cSeq (cOps (oLet (sV (vAddr 5 (xW 3))) fun v9 => oSet 10 (sL (lLoad none (xC v9))) fun v10 => oSet 11 (sV (vLen (xC v10))) fun v11 => oSet 12 (sV ((xC (.int .i64 0)))) fun v12 => oEnd))
 (cBlock 0 (cLoop (cSeq (cOps (oSet 13 (sV (vLt .i64 (xW 12) (xW 11))) fun v13 => oEnd))
 (cSeq (cCond (xW 13) cSkip
 (cExit 0))
 (cSeq (cBlock 1 (cSeq (cOps (oLet (sV ((xW 12))) fun v14 => oLet (sV (vIdx 3 (xW 10) (xC v14))) fun v15 => oLet (sL (lLoad (some 3) (xC v15))) fun v16 => oSet 6 (sN (aAlloc [.str [], .str [], .bool false])) fun v6 => oSet 5 (sV ((xC v14))) fun v5 => oDo (sM (tStore 3 (xC v6) (xC v16))) (oEnd)))
 (cSeq (cOps (oLet (sV (vAddr 5 (xW 3))) fun v17 => oLet (sL (lLoad none (xC v17))) fun v18 => oLet (sV ((xW 5))) fun v19 => oLet (sV (vSlice 3 (xC v18) [] [(xC v19)] [])) fun v20 => oLet (sV (vFunc 59 [(xW 6)])) fun v21 => oSet 22 (sC 58 [(xC v20), (xC v21)]) fun v22 => oEnd))
 (cCond (xW 22) (cSeq (cOps (oSet 4 (sV ((xC (.bool false)))) fun v4 => oEnd))
 cRet)
 cSkip))))
 (cOps (oLet (sV (vAdd .i64 (xW 12) (xC (.int .i64 1)))) fun v23 => oSet 12 (sV ((xC v23))) fun v12 => oEnd))))))))
 (cSeq (cSeq (cOps (oLet (sV (vAddr 6 (xW 3))) fun v24 => oSet 25 (sL (lLoad none (xC v24))) fun v25 => oSet 26 (sV (vLen (xC v25))) fun v26 => oSet 27 (sV ((xC (.int .i64 0)))) fun v27 => oEnd))
 (cBlock 2 (cLoop (cSeq (cOps (oSet 28 (sV (vLt .i64 (xW 27) (xW 26))) fun v28 => oEnd))
 (cSeq (cCond (xW 28) cSkip
 (cExit 2))
 (cSeq (cBlock 3 (cSeq (cOps (oLet (sV ((xW 27))) fun v29 => oLet (sV (vIdx 8 (xW 25) (xC v29))) fun v30 => oLet (sL (lLoad (some 8) (xC v30))) fun v31 => oSet 8 (sN (aAlloc [.str [], .str [], .bool false, .bool false, .int .i64 0, .int .i64 0, .nilslice, .nilslice])) fun v8 => oSet 7 (sV ((xC v29))) fun v7 => oDo (sM (tStore 8 (xC v8) (xC v31))) (oEnd)))
 (cSeq (cOps (oLet (sV (vAddr 6 (xW 3))) fun v32 => oLet (sL (lLoad none (xC v32))) fun v33 => oLet (sV ((xW 7))) fun v34 => oLet (sV (vSlice 8 (xC v33) [] [(xC v34)] [])) fun v35 => oLet (sV (vFunc 61 [(xW 8)])) fun v36 => oSet 37 (sC 60 [(xC v35), (xC v36)]) fun v37 => oEnd))
 (cCond (xW 37) (cSeq (cOps (oSet 4 (sV ((xC (.bool false)))) fun v4 => oEnd))
 cRet)
 cSkip))))
 (cOps (oLet (sV (vAdd .i64 (xW 27) (xC (.int .i64 1)))) fun v38 => oSet 27 (sV ((xC v38))) fun v27 => oEnd))))))))
 (cSeq (cOps (oSet 4 (sV ((xC (.bool true)))) fun v4 => oEnd))
 cRet)))), [.tmp (way 4)]⟩
theorem Tryz.k26_c : compF Tryz.prog [9, 14, 15, 16, 17, 18, 19, 20, 21, 23, 24, 29, 30, 31, 32, 33, 34, 35, 36, 38] Tryz.f26 = some Tryz.k26 := by kernel_rfl
def Tryz.k27 : KF := ⟨[(way 0), (way 1)], (cSeq (cOps (oSet 3 (sN (aBox (xW 1))) fun v3 => oSet 4 (sV ((xC (.bool false)))) fun v4 => oEnd))
 (cSeq (cSeq (cOps (oLet (sV (vAddr 2 (xW 3))) fun v6 => oLet (sL (lLoad none (xC v6))) fun v7 => oSet 8 (sV (vUn .not (xC v7))) fun v8 => oEnd))
 (cCond (xW 8) (cSeq (cOps (oSet 4 (sV ((xC (.bool true)))) fun v4 => oEnd))
 cRet)
 cSkip))
 (cSeq (cOps (oLet (sV (vAddr 6 (xW 3))) fun v9 => oLet (sL (lLoad none (xC v9))) fun v10 => oLet (sC 60 [(xC v10), (xC (.func 62 []))]) fun v11 => oSet 5 (sV ((xC v11))) fun v5 => oEnd))
 (cSeq (cOps (oLet (sV (vAddr 3 (xW 3))) fun v12 => oLet (sL (lLoad none (xC v12))) fun v13 => oLet (sG (xC v13) true (sV ((xW 5)))) fun v15 => oLet (sG (xC v13) true (sV (vUn .not (xC v15)))) fun v16 => oLet (sV (vPick (xC v13) (xC v16) (xC (.bool false)))) fun v17 => oLet (sG (xC v17) true (sV (vAddr 5 (xW 3)))) fun v19 => oLet (sG (xC v17) true (sL (lLoad none (xC v19)))) fun v20 => oLet (sG (xC v17) true (sC 58 [(xC v20), (xC (.func 63 []))])) fun v21 => oLet (sG (xC v17) true (sV (vUn .not (xC v21)))) fun v22 => oLet (sV (vPick (xC v17) (xC v22) (xC (.bool false)))) fun v23 => oSet 4 (sV ((xC v23))) fun v4 => oEnd))
 cRet)))), [.tmp (way 4)]⟩
theorem Tryz.k27_c : compF Tryz.prog [6, 7, 9, 10, 11, 12, 13, 14, 15, 16, 17, 18, 19, 20, 21, 22, 23] Tryz.f27 = some Tryz.k27 := by kernel_rfl
def Tryz.k28 : KF := ⟨[(way 0), (way 1)], (cSeq (cOps (oSet 3 (sN (aBox (xW 1))) fun v3 => oSet 4 (sV ((xC (.bool false)))) fun v4 => oEnd))
 (cSeq (cOps (oLet (sV (vAddr 3 (xW 3))) fun v5 => oLet (sL (lLoad none (xC v5))) fun v6 => oLet (sG (xC v6) false (sV (vAddr 6 (xW 3)))) fun v8 => oLet (sG (xC v6) false (sL (lLoad none (xC v8)))) fun v9 => oLet (sG (xC v6) false (sC 60 [(xC v9), (xC (.func 64 []))])) fun v10 => oLet (sG (xC v6) false (sV (vUn .not (xC v10)))) fun v11 => oLet (sV (vPick (xC v6) (xC (.bool true)) (xC v11))) fun v12 => oSet 4 (sV ((xC v12))) fun v4 => oEnd))
 cRet)), [.tmp (way 4)]⟩
theorem Tryz.k28_c : compF Tryz.prog [5, 6, 7, 8, 9, 10, 11, 12] Tryz.f28 = some Tryz.k28 := by kernel_rfl
def Tryz.k29 : KF := ⟨[(way 0), (way 1)], (cSeq (cOps (oSet 3 (sN (aBox (xW 1))) fun v3 => oSet 4 (sV ((xC (.bool false)))) fun v4 => oEnd))
 (cSeq (cSeq (cOps (oLet (sV (vAddr 3 (xW 3))) fun v13 => oSet 14 (sL (lLoad none (xC v13))) fun v14 => oEnd))
 (cCond (xW 14) (cSeq (cOps (oSet 4 (sV ((xC (.bool true)))) fun v4 => oEnd))
 cRet)
 cSkip))
 (cSeq (cSeq (cOps (oLet (sV ((xW 0))) fun v15 => oLet (sV (vAddr 0 (xW 3))) fun v16 => oLet (sL (lLoad none (xC v16))) fun v17 => oCap fun c3 => oLet (sC 57 [(xC v15), (xC v17)]) fun v18 => oCap fun d3 => oLet (sV (vAddr 0 (xW 3))) fun v20 => oLet (sLo [c3] d3.next (lLoad none (xC v20))) fun v21 => oCap fun c7 => oLet (sC 65 [(xC v15), (xC v21)]) fun v22 => oCap fun d7 => oCap fun c8 => oSet 23 (sM (tAppend 16 1 (xC v18) (xC v22))) fun v23 => oCap fun d8 => oSet 24 (sV (vLen (xC v23))) fun v24 => oSet 25 (sV ((xC (.int .i64 0)))) fun v25 => oEnd))
 (cBlock 0 (cLoop (cSeq (cOps (oSet 26 (sV (vLt .i64 (xW 25) (xW 24))) fun v26 => oEnd))
 (cSeq (cCond (xW 26) cSkip
 (cExit 0))
 (cSeq (cBlock 1 (cSeq (cOps (oLet (sV (vIdx 1 (xW 23) (xW 25))) fun v27 => oLet (sL (lLoad none (xC v27))) fun v28 => oSet 6 (sV ((xC v28))) fun v6 => oEnd))
 (cSeq (cOps (oLet (sV ((xW 0))) fun v30 => oLet (sV ((xW 6))) fun v31 => oLet (sC 54 [(xC v30), (xC v31)]) fun v32 => oLet (sV (vExtract 0 (xC v32))) fun v33 => oLet (sV (vExtract 1 (xC v32))) fun v34 => oSet 7 (sN (aAlloc [.str [], .str [], .bool false, .bool false, .nilslice, .nilslice, .nilslice])) fun v7 => oDo (sM (tStore 7 (xC v7) (xC v33))) (oEnd)))
 (cSeq (cOps (oLet (sV (vAddr 6 (xW 7))) fun v35 => oSet 36 (sL (lLoad none (xC v35))) fun v36 => oSet 37 (sV (vLen (xC v36))) fun v37 => oSet 38 (sV ((xC (.int .i64 0)))) fun v38 => oEnd))
 (cBlock 2 (cLoop (cSeq (cOps (oSet 39 (sV (vLt .i64 (xW 38) (xW 37))) fun v39 => oEnd))
 (cSeq (cCond (xW 39) cSkip
 (cExit 2))
 (cSeq (cBlock 3 (cSeq (cOps (oLet (sV (vIdx 8 (xW 36) (xW 38))) fun v40 => oLet (sL (lLoad (some 8) (xC v40))) fun v41 => oSet 10 (sN (aAlloc [.str [], .str [], .bool false, .bool false, .int .i64 0, .int .i64 0, .nilslice, .nilslice])) fun v10 => oDo (sM (tStore 8 (xC v10) (xC v41))) (oEnd)))
 (cSeq (cOps (oLet (sV ((xW 0))) fun v43 => oLet (sV (vAddr 0 (xW 3))) fun v44 => oLet (sL (lLoad none (xC v44))) fun v45 => oLet (sV (vAddr 0 (xW 10))) fun v46 => oLet (sL (lLoad none (xC v46))) fun v47 => oLet (sV (vAddr 1 (xW 10))) fun v48 => oLet (sL (lLoad none (xC v48))) fun v49 => oLet (sC 66 [(xC v43), (xC v45), (xC v47), (xC v49)]) fun v50 => oLet (sV (vExtract 0 (xC v50))) fun v51 => oLet (sV (vExtract 1 (xC v50))) fun v52 => oSet 12 (sV ((xC v52))) fun v12 => oEnd))
 (cSeq (cOps (oLet (sV (vAddr 3 (xW 10))) fun v53 => oLet (sL (lLoad none (xC v53))) fun v54 => oLet (sG (xC v54) true (sV ((xW 12)))) fun v56 => oLet (sG (xC v54) true (sV (vUn .not (xC v56)))) fun v57 => oSet 58 (sV (vPick (xC v54) (xC v57) (xC (.bool false)))) fun v58 => oEnd))
 (cCond (xW 58) (cSeq (cOps (oSet 4 (sV ((xC (.bool false)))) fun v4 => oEnd))
 cRet)
 cSkip)))))
 (cOps (oLet (sV (vAdd .i64 (xW 38) (xC (.int .i64 1)))) fun v59 => oSet 38 (sV ((xC v59))) fun v38 => oEnd)))))))))))
 (cOps (oLet (sV (vAdd .i64 (xW 25) (xC (.int .i64 1)))) fun v60 => oSet 25 (sV ((xC v60))) fun v25 => oEnd))))))))
 (cSeq (cOps (oSet 4 (sV ((xC (.bool true)))) fun v4 => oEnd))
 cRet)))), [.tmp (way 4)]⟩
theorem Tryz.k29_c : compF Tryz.prog [13, 15, 16, 17, 18, 19, 20, 21, 22, 27, 28, 30, 31, 32, 29, 33, 34, 8, 35, 40, 41, 43, 44, 45, 46, 47, 48, 49, 50, 42, 51, 52, 11, 53, 54, 55, 56, 57, 59, 60] Tryz.f29 = some Tryz.k29 := by kernel_rfl
def Tryz.k30 : KF := ⟨[(way 0), (way 1)], (cSeq (cOps (oSet 4 (sV ((xC (.nilptr)))) fun v4 => oSet 5 (sV ((xC (.int .i64 0)))) fun v5 => oEnd))
 (cSeq (cOps (oLet (sV ((xW 0))) fun v15 => oLet (sC 67 [(xC v15)]) fun v16 => oLet (sV (vExtract 0 (xC v16))) fun v17 => oLet (sV (vExtract 1 (xC v16))) fun v18 => oSet 6 (sV ((xC v17))) fun v6 => oSet 7 (sV ((xC v18))) fun v7 => oEnd))
 (cSeq (cSeq (cOps (oLet (sV ((xW 7))) fun v19 => oSet 20 (sV (vNe .i64 (xC v19) (xC (.int .i64 0)))) fun v20 => oEnd))
 (cCond (xW 20) (cSeq (cOps (oLet (sV ((xW 7))) fun v21 => oSet 4 (sV ((xC (.nilptr)))) fun v4 => oSet 5 (sV ((xC v21))) fun v5 => oEnd))
 cRet)
 cSkip))
 (cSeq (cOps (oLet (sV ((xW 0))) fun v23 => oLet (sV ((xW 1))) fun v24 => oLet (sC 68 [(xC v23), (xC v24)]) fun v25 => oLet (sV (vExtract 0 (xC v25))) fun v26 => oLet (sV (vExtract 1 (xC v25))) fun v27 => oLet (sV (vExtract 2 (xC v25))) fun v28 => oLet (sN (aAlloc [.str [], .str [], .bool false, .bool false, .int .i64 0, .int .i64 0, .nilslice, .nilslice])) fun v9 => oSet 8 (sV ((xC v26))) fun v8 => oDo (sM (tStore 8 (xC v9) (xC v27))) (oSet 10 (sV ((xC v28))) fun v10 => oEnd)))
 (cSeq (cSeq (cOps (oLet (sV ((xW 10))) fun v29 => oSet 30 (sV (vUn .not (xC v29))) fun v30 => oEnd))
 (cCond (xW 30) (cSeq (cOps (oSet 4 (sV ((xC (.nilptr)))) fun v4 => oSet 5 (sV ((xC (.int .i64 10)))) fun v5 => oEnd))
 cRet)
 cSkip))
 (cSeq (cOps (oLet (sV ((xW 0))) fun v31 => oLet (sV ((xW 1))) fun v32 => oLet (sV ((xW 8))) fun v33 => oLet (sN (aNewMap)) fun v34 => oLet (sV (vCat [1, 1, 1, 1] [(xC v31), (xC v32), (xC v33), (xC v34)])) fun v35 => oLet (sN (aBox (xC v35))) fun v36 => oSet 11 (sV ((xC v36))) fun v11 => oEnd))
 (cSeq (cSeq (cOps (oSet 37 (sV ((xW 6))) fun v37 => oSet 38 (sV (vLen (xC v37))) fun v38 => oSet 39 (sV ((xC (.int .i64 0)))) fun v39 => oEnd))
 (cBlock 0 (cLoop (cSeq (cOps (oSet 40 (sV (vLt .i64 (xW 39) (xW 38))) fun v40 => oEnd))
 (cSeq (cCond (xW 40) cSkip
 (cExit 0))
 (cSeq (cBlock 1 (cSeq (cOps (oLet (sV (vIdx 5 (xW 37) (xW 39))) fun v41 => oLet (sL (lLoad (some 5) (xC v41))) fun v42 => oSet 13 (sN (aAlloc [.str [], .int .i64 0, .nilslice, .nilslice, .nilslice])) fun v13 => oDo (sM (tStore 5 (xC v13) (xC v42))) (oEnd)))
 (cOps (oLet (sV ((xW 11))) fun v43 => oLet (sV (vNil (xC v43))) fun v44 => oLet (sV (vAddr 3 (xC v44))) fun v45 => oLet (sL (lLoad none (xC v45))) fun v46 => oLet (sV (vAddr 0 (xW 13))) fun v47 => oLet (sL (lLoad none (xC v47))) fun v48 => oLet (sL (lLoad (some 5) (xW 13))) fun v49 => oDo (sM (tMapPut (.one .str) (xC v46) (xC v48) (xC v49))) (oEnd)))))
 (cOps (oLet (sV (vAdd .i64 (xW 39) (xC (.int .i64 1)))) fun v50 => oSet 39 (sV ((xC v50))) fun v39 => oEnd))))))))
 (cSeq (cOps (oLet (sV ((xW 11))) fun v51 => oSet 4 (sV ((xC v51))) fun v4 => oSet 5 (sV ((xC (.int .i64 0)))) fun v5 => oEnd))
 cRet)))))))), [.tmp (way 4), .tmp (way 5)]⟩
theorem Tryz.k30_c : compF Tryz.prog [15, 16, 14, 17, 18, 19, 21, 23, 24, 25, 22, 26, 27, 28, 9, 29, 31, 32, 33, 34, 35, 36, 41, 42, 43, 44, 45, 46, 47, 48, 49, 50, 51] Tryz.f30 = some Tryz.k30 := by kernel_rfl
def Tryz.k31 : KF := ⟨[(way 0), (way 1)], (cSeq (cOps (oSet 4 (sN (aAlloc [.nilslice, .nilslice])) fun v4 => oEnd))
 (cSeq (cOps (oLet (sV ((xW 0))) fun v5 => oLet (sV (vNil (xC v5))) fun v6 => oLet (sV (vAddr 0 (xC v6))) fun v7 => oLet (sL (lLoad none (xC v7))) fun v8 => oLet (sV (vNil (xC v5))) fun v10 => oLet (sV (vAddr 1 (xC v10))) fun v11 => oLet (sL (lLoad none (xC v11))) fun v12 => oLet (sV (vNil (xC v5))) fun v14 => oLet (sV (vAddr 2 (xC v14))) fun v15 => oLet (sL (lLoad none (xC v15))) fun v16 => oLet (sV (vNil (xC v5))) fun v18 => oLet (sV (vAddr 3 (xC v18))) fun v19 => oLet (sL (lLoad none (xC v19))) fun v20 => oLet (sV ((xW 1))) fun v21 => oLet (sC 69 [(xC v8), (xC v12), (xC v16), (xC v20), (xC v21)]) fun v22 => oDo (sM (tStore 2 (xW 4) (xC v22))) (oEnd)))
 cRet)), [.cell (way 4) (some 2)]⟩
theorem Tryz.k31_c : compF Tryz.prog [5, 6, 7, 8, 9, 10, 11, 12, 13, 14, 15, 16, 17, 18, 19, 20, 21, 22] Tryz.f31 = some Tryz.k31 := by kernel_rfl
def Tryz.k32 : KF := ⟨[(way 0), (way 1)], (cSeq (cOps (oSet 2 (sN (aBox (xW 0))) fun v2 => oSet 3 (sV ((xC (.nilslice)))) fun v3 => oEnd))
 (cSeq (cOps (oLet (sL (lLoad none (xW 1))) fun v4 => oLet (sL (lLoad (some 6) (xW 2))) fun v5 => oLet (sC 33 [(xC v4), (xC v5)]) fun v6 => oSet 3 (sV ((xC v6))) fun v3 => oEnd))
 cRet)), [.tmp (way 3)]⟩
theorem Tryz.k32_c : compF Tryz.prog [4, 5, 6] Tryz.f32 = some Tryz.k32 := by kernel_rfl
def Tryz.k33 : KF := ⟨[(way 0), (way 1)], (cSeq (cOps (oSet 3 (sN (aBox (xW 1))) fun v3 => oSet 4 (sV ((xC (.nilslice)))) fun v4 => oEnd))
 (cSeq (cOps (oLet (sV ((xW 0))) fun v5 => oLet (sL (lLoad (some 6) (xW 3))) fun v6 => oLet (sC 70 [(xC v5), (xC v6), (xC (.func 71 []))]) fun v7 => oSet 4 (sV ((xC v7))) fun v4 => oEnd))
 cRet)), [.tmp (way 4)]⟩
theorem Tryz.k33_c : compF Tryz.prog [5, 6, 7] Tryz.f33 = some Tryz.k33 := by kernel_rfl
def Tryz.k34 : KF := ⟨[(way 0), (way 1)], (cSeq (cOps (oSet 2 (sN (aBox (xW 0))) fun v2 => oSet 3 (sN (aBox (xW 1))) fun v3 => oSet 4 (sV ((xC (.bool false)))) fun v4 => oEnd))
 (cSeq (cOps (oLet (sL (lLoad (some 4) (xW 2))) fun v5 => oCap fun c1 => oLet (sC 73 [(xC v5)]) fun v6 => oCap fun d1 => oLet (sLo [c1] d1.next (lLoad (some 4) (xW 3))) fun v7 => oCap fun c3 => oLet (sC 73 [(xC v7)]) fun v8 => oCap fun d3 => oCap fun c4 => oLet (sC 72 [(xC v6), (xC v8)]) fun v9 => oCap fun d4 => oSet 4 (sV ((xC v9))) fun v4 => oEnd))
 cRet)), [.tmp (way 4)]⟩
theorem Tryz.k34_c : compF Tryz.prog [5, 6, 7, 8, 9] Tryz.f34 = some Tryz.k34 := by kernel_rfl
def Tryz.k35 : KF := ⟨[(way 0), (way 1)], (cSeq (cOps (oSet 4 (sV ((xC (.bool false)))) fun v4 => oEnd))
 (cSeq (cOps (oLet (sV ((xW 0))) fun v5 => oLet (sV ((xW 1))) fun v6 => oLet (sC 74 [(xC v5), (xC v6)]) fun v7 => oLet (sV (vGe .i64 (xC v7) (xC (.int .i64 0)))) fun v8 => oSet 4 (sV ((xC v8))) fun v4 => oEnd))
 cRet)), [.tmp (way 4)]⟩
theorem Tryz.k35_c : compF Tryz.prog [5, 6, 7, 8] Tryz.f35 = some Tryz.k35 := by kernel_rfl
def Tryz.k36 : KF := ⟨[(way 0), (way 1)], (cSeq (cOps (oSet 2 (sN (aBox (xW 0))) fun v2 => oSet 3 (sV ((xC (.bool false)))) fun v3 => oEnd))
 (cSeq (cOps (oLet (sL (lLoad none (xW 1))) fun v4 => oLet (sL (lLoad (some 3) (xW 2))) fun v5 => oLet (sL (lLookup (.many [.str, .int, .str]) (some (.int .i64 0)) false (xC v4) (xC v5))) fun v6 => oLet (sV (vEq .i64 (xC v6) (xC (.int .i64 0)))) fun v7 => oSet 3 (sV ((xC v7))) fun v3 => oEnd))
 cRet)), [.tmp (way 3)]⟩
theorem Tryz.k36_c : compF Tryz.prog [4, 5, 6, 7] Tryz.f36 = some Tryz.k36 := by kernel_rfl
def Tryz.k37 : KF := ⟨[(way 0), (way 1)], (cSeq (cOps (oSet 4 (sV ((xC (.bool false)))) fun v4 => oEnd))
 (cSeq (cOps (oLet (sV ((xW 0))) fun v5 => oLet (sV ((xW 1))) fun v6 => oLet (sC 75 [(xC v5), (xC v6)]) fun v7 => oLet (sV (vGe .i64 (xC v7) (xC (.int .i64 0)))) fun v8 => oSet 4 (sV ((xC v8))) fun v4 => oEnd))
 cRet)), [.tmp (way 4)]⟩
theorem Tryz.k37_c : compF Tryz.prog [5, 6, 7, 8] Tryz.f37 = some Tryz.k37 := by kernel_rfl
def Tryz.k38 : KF := ⟨[(way 0), (way 1)], (cSeq (cOps (oSet 3 (sV ((xC (.bool false)))) fun v3 => oEnd))
 (cSeq (cOps (oLet (sL (lLoad none (xW 1))) fun v4 => oLet (sV ((xW 0))) fun v5 => oLet (sL (lLookup (.one .str) (some (.int .i64 0)) false (xC v4) (xC v5))) fun v6 => oLet (sV (vEq .i64 (xC v6) (xC (.int .i64 0)))) fun v7 => oSet 3 (sV ((xC v7))) fun v3 => oEnd))
 cRet)), [.tmp (way 3)]⟩
theorem Tryz.k38_c : compF Tryz.prog [4, 5, 6, 7] Tryz.f38 = some Tryz.k38 := by kernel_rfl
def Tryz.k39 : KF := ⟨[(way 0)], (cSeq (cOps (oSet 2 (sV ((xC (.bool false)))) fun v2 => oEnd))
 (cSeq (cSeq (cOps (oLet (sV ((xW 0))) fun v6 => oSet 7 (sV (vLenS (xC v6))) fun v7 => oSet 8 (sV ((xC (.int .i64 0)))) fun v8 => oEnd))
 (cBlock 0 (cLoop (cSeq (cOps (oSet 9 (sV (vLt .i64 (xW 8) (xW 7))) fun v9 => oEnd))
 (cSeq (cCond (xW 9) cSkip
 (cExit 0))
 (cSeq (cBlock 1 (cSeq (cOps (oLet (sV ((xW 8))) fun v10 => oSet 3 (sV ((xC v10))) fun v3 => oEnd))
 (cSeq (cOps (oLet (sV ((xW 0))) fun v11 => oLet (sV ((xW 3))) fun v12 => oLet (sV (vIdxS (xC v11) (xC v12))) fun v13 => oSet 4 (sV ((xC v13))) fun v4 => oEnd))
 (cSeq (cOps (oLet (sV ((xW 4))) fun v14 => oLet (sV (vGe .u8 (xC v14) (xC (.int .u8 97)))) fun v15 => oLet (sG (xC v15) true (sV ((xC v14)))) fun v17 => oLet (sG (xC v15) true (sV (vLe .u8 (xC v17) (xC (.int .u8 122))))) fun v18 => oLet (sV (vPick (xC v15) (xC v18) (xC (.bool false)))) fun v19 => oLet (sG (xC v19) false (sV ((xC v14)))) fun v21 => oLet (sG (xC v19) false (sV (vGe .u8 (xC v21) (xC (.int .u8 65))))) fun v22 => oLet (sG (xC v19) false (sV ((xC v22)))) fun v23 => oLet (sG (xC v23) true (sV ((xC v14)))) fun v24 => oLet (sG (xC v23) true (sV (vLe .u8 (xC v24) (xC (.int .u8 90))))) fun v25 => oLet (sG (xC v19) false (sV (vPick (xC v23) (xC v25) (xC (.bool false))))) fun v26 => oLet (sV (vPick (xC v19) (xC (.bool true)) (xC v26))) fun v27 => oLet (sG (xC v27) false (sV ((xC v14)))) fun v29 => oLet (sG (xC v27) false (sV (vEq .u8 (xC v29) (xC (.int .u8 95))))) fun v30 => oLet (sV (vPick (xC v27) (xC (.bool true)) (xC v30))) fun v31 => oSet 5 (sV ((xC v31))) fun v5 => oEnd))
 (cSeq (cOps (oLet (sV ((xW 5))) fun v32 => oLet (sV (vUn .not (xC v32))) fun v33 => oLet (sG (xC v33) true (sV ((xW 3)))) fun v35 => oLet (sG (xC v33) true (sV (vEq .i64 (xC v35) (xC (.int .i64 0))))) fun v36 => oLet (sG (xC v33) true (sV ((xC v36)))) fun v37 => oLet (sG (xC v37) false (sV ((xW 4)))) fun v38 => oLet (sG (xC v37) false (sV (vLt .u8 (xC v38) (xC (.int .u8 48))))) fun v39 => oLet (sG (xC v33) true (sV (vPick (xC v37) (xC (.bool true)) (xC v39)))) fun v40 => oLet (sG (xC v33) true (sV ((xC v40)))) fun v41 => oLet (sG (xC v41) false (sV ((xW 4)))) fun v42 => oLet (sG (xC v41) false (sV (vGt .u8 (xC v42) (xC (.int .u8 57))))) fun v43 => oLet (sG (xC v33) true (sV (vPick (xC v41) (xC (.bool true)) (xC v43)))) fun v44 => oSet 45 (sV (vPick (xC v33) (xC v44) (xC (.bool false)))) fun v45 => oEnd))
 (cCond (xW 45) (cSeq (cOps (oSet 2 (sV ((xC (.bool false)))) fun v2 => oEnd))
 cRet)
 cSkip))))))
 (cOps (oLet (sV (vAdd .i64 (xW 8) (xC (.int .i64 1)))) fun v46 => oSet 8 (sV ((xC v46))) fun v8 => oEnd))))))))
 (cSeq (cOps (oLet (sV ((xW 0))) fun v47 => oLet (sV (vSNe (xC v47) (xC (.str [])))) fun v48 => oLet (sG (xC v48) true (sV ((xC v47)))) fun v50 => oLet (sG (xC v48) true (sV (vLenS (xC v50)))) fun v51 => oLet (sG (xC v48) true (sV (vLe .i64 (xC v51) (xC (.int .i64 30))))) fun v52 => oLet (sV (vPick (xC v48) (xC v52) (xC (.bool false)))) fun v53 => oSet 2 (sV ((xC v53))) fun v2 => oEnd))
 cRet))), [.tmp (way 2)]⟩
theorem Tryz.k39_c : compF Tryz.prog [6, 10, 11, 12, 13, 14, 15, 16, 17, 18, 19, 20, 21, 22, 23, 24, 25, 26, 27, 28, 29, 30, 31, 32, 33, 34, 35, 36, 37, 38, 39, 40, 41, 42, 43, 44, 46, 47, 48, 49, 50, 51, 52, 53] Tryz.f39 = some Tryz.k39 := by kernel_rfl
def Tryz.k41 : KF := ⟨[(way 0)], (cSeq (cOps (oSet 2 (sV ((xC (.bool false)))) fun v2 => oEnd))
 (cSeq (cOps (oLet (sV ((xW 0))) fun v6 => oLet (sC 76 [(xC v6)]) fun v7 => oLet (sV (vExtract 0 (xC v7))) fun v8 => oLet (sV (vExtract 1 (xC v7))) fun v9 => oSet 3 (sV ((xC v8))) fun v3 => oSet 4 (sV ((xC v9))) fun v4 => oEnd))
 (cSeq (cOps (oLet (sV ((xW 3))) fun v10 => oLet (sV (vSNe (xC v10) (xC (.str [])))) fun v11 => oLet (sG (xC v11) true (sV ((xW 4)))) fun v13 => oLet (sG (xC v11) true (sV (vSEq (xC v13) (xC (.str []))))) fun v14 => oLet (sV (vPick (xC v11) (xC v14) (xC (.bool false)))) fun v15 => oSet 2 (sV ((xC v15))) fun v2 => oEnd))
 cRet))), [.tmp (way 2)]⟩
theorem Tryz.k41_c : compF Tryz.prog [6, 7, 5, 8, 9, 10, 11, 12, 13, 14, 15] Tryz.f41 = some Tryz.k41 := by kernel_rfl
def Tryz.k42 : KF := ⟨[(way 0)], (cSeq (cOps (oSet 1 (sN (aBox (xW 0))) fun v1 => oSet 2 (sV ((xC (.int .i64 0)))) fun v2 => oEnd))
 (cSeq (cOps (oLet (sV (vAddr 4 (xW 1))) fun v10 => oLet (sL (lLoad none (xC v10))) fun v11 => oLet (sV (vEq .i64 (xC v11) (xC (.int .i64 0)))) fun v12 => oLet (sG (xC v12) true (sV (vAddr 5 (xW 1)))) fun v14 => oLet (sG (xC v12) true (sL (lLoad none (xC v14)))) fun v15 => oLet (sG (xC v12) true (sV (vEq .i64 (xC v15) (xC (.int .i64 0))))) fun v16 => oLet (sV (vPick (xC v12) (xC v16) (xC (.bool false)))) fun v17 => oLet (sG (xC v17) true (sV (vAddr 6 (xW 1)))) fun v19 => oLet (sG (xC v17) true (sL (lLoad none (xC v19)))) fun v20 => oLet (sG (xC v17) true (sV (vLen (xC v20)))) fun v21 => oLet (sG (xC v17) true (sV (vEq .i64 (xC v21) (xC (.int .i64 0))))) fun v22 => oLet (sV (vPick (xC v17) (xC v22) (xC (.bool false)))) fun v23 => oLet (sG (xC v23) true (sV (vAddr 7 (xW 1)))) fun v25 => oLet (sG (xC v23) true (sL (lLoad none (xC v25)))) fun v26 => oLet (sG (xC v23) true (sV (vLen (xC v26)))) fun v27 => oLet (sG (xC v23) true (sV (vEq .i64 (xC v27) (xC (.int .i64 0))))) fun v28 => oLet (sV (vPick (xC v23) (xC v28) (xC (.bool false)))) fun v29 => oSet 3 (sV ((xC v29))) fun v3 => oEnd))
 (cSeq (cBlock 0 (cSeq (cOps (oLet (sL (lLoad (some 8) (xW 1))) fun v31 => oLet (sC 77 [(xC v31)]) fun v32 => oLet (sV (vUn .not (xC v32))) fun v33 => oSet 30 (sV ((xC v33))) fun v30 => oEnd))
 (cCond (xW 30) (cSeq (cOps (oSet 2 (sV ((xC (.int .i64 6)))) fun v2 => oEnd))
 cRet)
 (cSeq (cOps (oLet (sL (lLoad (some 8) (xW 1))) fun v35 => oLet (sC 78 [(xC v35)]) fun v36 => oLet (sV (vUn .not (xC v36))) fun v37 => oSet 34 (sV ((xC v37))) fun v34 => oEnd))
 (cCond (xW 34) (cSeq (cOps (oSet 2 (sV ((xC (.int .i64 5)))) fun v2 => oEnd))
 cRet)
 (cSeq (cSeq (cOps (oLet (sV (vAddr 3 (xW 1))) fun v39 => oLet (sL (lLoad none (xC v39))) fun v40 => oLet (sG (xC v40) true (sV (vAddr 2 (xW 1)))) fun v42 => oLet (sG (xC v40) true (sL (lLoad none (xC v42)))) fun v43 => oLet (sG (xC v40) true (sV ((xC v43)))) fun v44 => oLet (sG (xC v44) false (sV ((xW 3)))) fun v45 => oLet (sG (xC v44) false (sV (vUn .not (xC v45)))) fun v46 => oLet (sG (xC v40) true (sV (vPick (xC v44) (xC (.bool true)) (xC v46)))) fun v47 => oLet (sV (vPick (xC v40) (xC v47) (xC (.bool false)))) fun v48 => oSet 38 (sV ((xC v48))) fun v38 => oEnd))
 (cCond (xW 38) cSkip
 (cOps (oLet (sV (vAddr 3 (xW 1))) fun v49 => oLet (sL (lLoad none (xC v49))) fun v50 => oLet (sV (vUn .not (xC v50))) fun v51 => oLet (sG (xC v51) true (sV (vAddr 6 (xW 1)))) fun v53 => oLet (sG (xC v51) true (sL (lLoad none (xC v53)))) fun v54 => oLet (sG (xC v51) true (sV (vLen (xC v54)))) fun v55 => oLet (sG (xC v51) true (sV (vEq .i64 (xC v55) (xC (.int .i64 0))))) fun v56 => oLet (sV (vPick (xC v51) (xC v56) (xC (.bool false)))) fun v57 => oSet 38 (sV ((xC v57))) fun v38 => oEnd))))
 (cCond (xW 38) (cSeq (cOps (oSet 2 (sV ((xC (.int .i64 7)))) fun v2 => oEnd))
 cRet)
 (cSeq (cOps (oLet (sV (vAddr 3 (xW 1))) fun v59 => oLet (sL (lLoad none (xC v59))) fun v60 => oSet 58 (sV ((xC v60))) fun v58 => oEnd))
 (cCond (xW 58) (cSeq (cOps (oSet 2 (sV ((xC (.int .i64 0)))) fun v2 => oEnd))
 cRet)
 (cSeq (cOps (oLet (sV (vAddr 5 (xW 1))) fun v62 => oSee (seeL (lLoad none (xC v62))) fun q1 => oLet (sLo [] 0 (lLoad none (xC v62))) fun v63 => oLet (sL (lLoad (some 8) (xW 1))) fun v64 => oCap fun c3 => oLet (sC 79 [(xC v64)]) fun v65 => oCap fun d3 => oLate [q1] <| oLet (sV (vLt .i64 (xC v63) (xC v65))) fun v66 => oSet 61 (sV ((xC v66))) fun v61 => oEnd))
 (cCond (xW 61) (cSeq (cOps (oSet 2 (sV ((xC (.int .i64 4)))) fun v2 => oEnd))
 cRet)
 cSkip)))))))))))
 (cSeq (cSeq (cOps (oLet (sV (vAddr 6 (xW 1))) fun v67 => oSet 68 (sL (lLoad none (xC v67))) fun v68 => oSet 69 (sV (vLen (xC v68))) fun v69 => oSet 70 (sV ((xC (.int .i64 0)))) fun v70 => oEnd))
 (cBlock 1 (cLoop (cSeq (cOps (oSet 71 (sV (vLt .i64 (xW 70) (xW 69))) fun v71 => oEnd))
 (cSeq (cCond (xW 71) cSkip
 (cExit 1))
 (cSeq (cBlock 2 (cSeq (cOps (oLet (sV (vIdx 6 (xW 68) (xW 70))) fun v72 => oLet (sL (lLoad (some 6) (xC v72))) fun v73 => oSet 5 (sN (aAlloc [.int .i64 0, .int .i64 0, .int .i64 0, .str [], .str [], .str []])) fun v5 => oDo (sM (tStore 6 (xC v5) (xC v73))) (oEnd)))
 (cSeq (cOps (oLet (sL (lLoad (some 6) (xW 5))) fun v74 => oLet (sV (vAddr 6 (xW 1))) fun v75 => oLet (sL (lLoad none (xC v75))) fun v76 => oLet (sV (vLen (xC v76))) fun v77 => oLet (sV (vAddr 5 (xW 1))) fun v78 => oLet (sL (lLoad none (xC v78))) fun v79 => oLet (sC 80 [(xC v74), (xC v77), (xC v79)]) fun v80 => oSet 6 (sV ((xC v80))) fun v6 => oEnd))
 (cSeq (cOps (oLet (sV ((xW 6))) fun v81 => oSet 82 (sV (vNe .i64 (xC v81) (xC (.int .i64 0)))) fun v82 => oEnd))
 (cCond (xW 82) (cSeq (cOps (oLet (sV ((xW 6))) fun v83 => oSet 2 (sV ((xC v83))) fun v2 => oEnd))
 cRet)
 cSkip)))))
 (cOps (oLet (sV (vAdd .i64 (xW 70) (xC (.int .i64 1)))) fun v84 => oSet 70 (sV ((xC v84))) fun v70 => oEnd))))))))
 (cSeq (cSeq (cOps (oLet (sV (vAddr 7 (xW 1))) fun v85 => oSet 86 (sL (lLoad none (xC v85))) fun v86 => oSet 87 (sV (vLen (xC v86))) fun v87 => oSet 88 (sV ((xC (.int .i64 0)))) fun v88 => oEnd))
 (cBlock 3 (cLoop (cSeq (cOps (oSet 89 (sV (vLt .i64 (xW 88) (xW 87))) fun v89 => oEnd))
 (cSeq (cCond (xW 89) cSkip
 (cExit 3))
 (cSeq (cBlock 4 (cSeq (cOps (oLet (sV (vIdx 4 (xW 86) (xW 88))) fun v90 => oLet (sL (lLoad (some 4) (xC v90))) fun v91 => oSet 8 (sN (aAlloc [.int .i64 0, .int .i64 0, .int .i64 0, .str []])) fun v8 => oDo (sM (tStore 4 (xC v8) (xC v91))) (oEnd)))
 (cSeq (cOps (oLet (sL (lLoad (some 4) (xW 8))) fun v92 => oLet (sV (vAddr 6 (xW 1))) fun v93 => oLet (sL (lLoad none (xC v93))) fun v94 => oLet (sV (vLen (xC v94))) fun v95 => oLet (sC 81 [(xC v92), (xC v95)]) fun v96 => oSet 9 (sV ((xC v96))) fun v9 => oEnd))
 (cSeq (cOps (oLet (sV ((xW 9))) fun v97 => oSet 98 (sV (vNe .i64 (xC v97) (xC (.int .i64 0)))) fun v98 => oEnd))
 (cCond (xW 98) (cSeq (cOps (oLet (sV ((xW 9))) fun v99 => oSet 2 (sV ((xC v99))) fun v2 => oEnd))
 cRet)
 cSkip)))))
 (cOps (oLet (sV (vAdd .i64 (xW 88) (xC (.int .i64 1)))) fun v100 => oSet 88 (sV ((xC v100))) fun v88 => oEnd))))))))
 (cSeq (cOps (oSet 2 (sV ((xC (.int .i64 0)))) fun v2 => oEnd))
 cRet)))))), [.tmp (way 2)]⟩
theorem Tryz.k42_c : compF Tryz.prog [10, 11, 12, 13, 14, 15, 16, 17, 18, 19, 20, 21, 22, 23, 24, 25, 26, 27, 28, 29, 31, 32, 33, 35, 36, 37, 39, 40, 41, 42, 43, 44, 45, 46, 47, 48, 49, 50, 51, 52, 53, 54, 55, 56, 57, 59, 60, 62, 63, 64, 65, 66, 67, 72, 73, 74, 75, 76, 77, 78, 79, 80, 81, 83, 84, 85, 90, 91, 92, 93, 94, 95, 96, 97, 99, 100] Tryz.f42 = some Tryz.k42 := by kernel_rfl
def Tryz.k43 : KF := ⟨[(way 0)], (cSeq (cOps (oSet 1 (sN (aBox (xW 0))) fun v1 => oSet 2 (sV ((xC (.nilslice)))) fun v2 => oEnd))
 (cSeq (cOps (oLet (sL (lLoad (some 7) (xW 1))) fun v3 => oLet (sC 82 [(xC v3)]) fun v4 => oLet (sV (vNil (xC v4))) fun v5 => oLet (sV (vAddr 0 (xC v5))) fun v6 => oLet (sL (lLoad none (xC v6))) fun v7 => oSet 2 (sV ((xC v7))) fun v2 => oEnd))
 cRet)), [.tmp (way 2)]⟩
theorem Tryz.k43_c : compF Tryz.prog [3, 4, 5, 6, 7] Tryz.f43 = some Tryz.k43 := by kernel_rfl
def Tryz.k44 : KF := ⟨[(way 0), (way 1)], (cSeq (cOps (oSet 2 (sN (aBox (xW 0))) fun v2 => oSet 3 (sV ((xC (.bool false)))) fun v3 => oEnd))
 (cSeq (cOps (oLet (sV (vAddr 0 (xW 2))) fun v4 => oLet (sL (lLoad none (xC v4))) fun v5 => oLet (sV (vAddr 0 (xW 1))) fun v6 => oLet (sL (lLoad none (xC v6))) fun v7 => oLet (sV (vSEq (xC v5) (xC v7))) fun v8 => oSet 3 (sV ((xC v8))) fun v3 => oEnd))
 cRet)), [.tmp (way 3)]⟩
theorem Tryz.k44_c : compF Tryz.prog [4, 5, 6, 7, 8] Tryz.f44 = some Tryz.k44 := by kernel_rfl
def Tryz.k45 : KF := ⟨[(way 0), (way 1)], (cSeq (cOps (oSet 4 (sV ((xC (.bool false)))) fun v4 => oEnd))
 (cSeq (cOps (oLet (sV ((xW 0))) fun v5 => oLet (sV ((xW 1))) fun v6 => oLet (sC 83 [(xC v5), (xC v6)]) fun v7 => oLet (sV (vGe .i64 (xC v7) (xC (.int .i64 0)))) fun v8 => oSet 4 (sV ((xC v8))) fun v4 => oEnd))
 cRet)), [.tmp (way 4)]⟩
theorem Tryz.k45_c : compF Tryz.prog [5, 6, 7, 8] Tryz.f45 = some Tryz.k45 := by kernel_rfl
def Tryz.k46 : KF := ⟨[(way 0), (way 1), (way 2)], (cSeq (cOps (oSet 6 (sN (aAlloc [.str [], .str [], .bool false, .bool false, .int .i64 0, .int .i64 0, .nilslice, .nilslice])) fun v6 => oEnd))
 (cSeq (cOps (oLet (sV ((xW 0))) fun v8 => oLet (sV ((xW 1))) fun v9 => oLet (sV ((xW 2))) fun v10 => oLet (sV (vFill [.int .i64 0, .int .i64 0, .int .i64 0, .str [], .str [], .str []] [(0, 1)] [(xC (.int .i64 36))])) fun v11 => oLet (sN (aRow 1 6 [6] [(xC v11)])) fun v12 => oLet (sV (vFill [.str [], .str [], .bool false, .bool false, .int .i64 0, .int .i64 0, .nilslice, .nilslice] [(0, 1), (1, 1), (2, 1), (6, 1)] [(xC v8), (xC v9), (xC v10), (xC v12)])) fun v13 => oSet 7 (sN (aAlloc [.str [], .str [], .bool false, .bool false, .int .i64 0, .int .i64 0, .nilslice, .nilslice])) fun v7 => oDo (sM (tStore 8 (xC v7) (xC v13))) (oEnd)))
 (cSeq (cOps (oLet (sL (lLoad (some 8) (xW 7))) fun v14 => oLet (sC 79 [(xC v14)]) fun v15 => oLet (sV (vAddr 5 (xW 7))) fun v16 => oDo (sM (tStore 1 (xC v16) (xC v15))) (oEnd)))
 (cSeq (cOps (oLet (sL (lLoad (some 8) (xW 7))) fun v17 => oDo (sM (tStore 8 (xW 6) (xC v17))) (oEnd)))
 cRet)))), [.cell (way 6) (some 8)]⟩
theorem Tryz.k46_c : compF Tryz.prog [8, 9, 10, 11, 12, 13, 14, 15, 16, 17] Tryz.f46 = some Tryz.k46 := by kernel_rfl
def Tryz.k47 : KF := ⟨[(way 0)], (cSeq (cOps (oSet 2 (sV ((xC (.nilslice)))) fun v2 => oEnd))
 (cSeq (cSeq (cOps (oLet (sV ((xW 0))) fun v3 => oSet 4 (sL (lEq .slice (xC v3) (xC (.nilslice)))) fun v4 => oEnd))
 (cCond (xW 4) (cSeq (cOps (oSet 2 (sV ((xC (.nilslice)))) fun v2 => oEnd))
 cRet)
 cSkip))
 (cSeq (cOps (oLet (sN (aRow 0 1 [] [])) fun v5 => oLet (sV ((xW 0))) fun v6 => oLet (sM (tAppend 16 1 (xC v5) (xC v6))) fun v7 => oSet 2 (sV ((xC v7))) fun v2 => oEnd))
 cRet))), [.tmp (way 2)]⟩
theorem Tryz.k47_c : compF Tryz.prog [3, 5, 6, 7] Tryz.f47 = some Tryz.k47 := by kernel_rfl
def Tryz.k48 : KF := ⟨[(way 0)], (cSeq (cOps (oSet 2 (sV ((xC (.nilslice)))) fun v2 => oEnd))
 (cSeq (cSeq (cOps (oLet (sV ((xW 0))) fun v3 => oSet 4 (sL (lEq .slice (xC v3) (xC (.nilslice)))) fun v4 => oEnd))
 (cCond (xW 4) (cSeq (cOps (oSet 2 (sV ((xC (.nilslice)))) fun v2 => oEnd))
 cRet)
 cSkip))
 (cSeq (cOps (oLet (sN (aRow 0 3 [] [])) fun v5 => oLet (sV ((xW 0))) fun v6 => oLet (sM (tAppend 40 3 (xC v5) (xC v6))) fun v7 => oSet 2 (sV ((xC v7))) fun v2 => oEnd))
 cRet))), [.tmp (way 2)]⟩
theorem Tryz.k48_c : compF Tryz.prog [3, 5, 6, 7] Tryz.f48 = some Tryz.k48 := by kernel_rfl
def Tryz.k49 : KF := ⟨[(way 0)], (cSeq (cOps (oSet 2 (sV ((xC (.nilslice)))) fun v2 => oEnd))
 (cSeq (cSeq (cOps (oLet (sV ((xW 0))) fun v3 => oSet 4 (sL (lEq .slice (xC v3) (xC (.nilslice)))) fun v4 => oEnd))
 (cCond (xW 4) (cSeq (cOps (oSet 2 (sV ((xC (.nilslice)))) fun v2 => oEnd))
 cRet)
 cSkip))
 (cSeq (cOps (oLet (sN (aRow 0 8 [] [])) fun v5 => oLet (sV ((xW 0))) fun v6 => oLet (sM (tAppend 104 8 (xC v5) (xC v6))) fun v7 => oSet 2 (sV ((xC v7))) fun v2 => oEnd))
 cRet))), [.tmp (way 2)]⟩
theorem Tryz.k49_c : compF Tryz.prog [3, 5, 6, 7] Tryz.f49 = some Tryz.k49 := by kernel_rfl
def Tryz.k50 : KF := ⟨[(way 0)], (cSeq (cOps (oSet 1 (sN (aBox (xW 0))) fun v1 => oSet 2 (sN (aAlloc [.str [], .str [], .bool false, .bool false, .int .i64 0, .int .i64 0, .nilslice, .nilslice])) fun v2 => oEnd))
 (cSeq (cOps (oLet (sV (vAddr 6 (xW 1))) fun v3 => oLet (sL (lLoad none (xC v3))) fun v4 => oCap fun c2 => oLet (sC 84 [(xC v4)]) fun v5 => oCap fun d2 => oLet (sV (vAddr 7 (xW 1))) fun v6 => oLet (sLo [c2] d2.next (lLoad none (xC v6))) fun v7 => oCap fun c5 => oLet (sC 85 [(xC v7)]) fun v8 => oCap fun d5 => oLet (sV (vAddr 6 (xW 1))) fun v9 => oCap fun c7 => oDo (sM (tStore 1 (xC v9) (xC v5))) (oCap fun d7 => oLet (sV (vAddr 7 (xW 1))) fun v10 => oCap fun c9 => oDo (sM (tStore 1 (xC v10) (xC v8))) (oCap fun d9 => oEnd))))
 (cSeq (cOps (oLet (sL (lLoad (some 8) (xW 1))) fun v11 => oDo (sM (tStore 8 (xW 2) (xC v11))) (oEnd)))
 cRet))), [.cell (way 2) (some 8)]⟩
theorem Tryz.k50_c : compF Tryz.prog [3, 4, 5, 6, 7, 8, 9, 10, 11] Tryz.f50 = some Tryz.k50 := by kernel_rfl
def Tryz.k51 : KF := ⟨[(way 0), (way 1), (way 2), (way 3), (way 4)], (cSeq (cOps (oSet 10 (sV ((xC (.bool true)))) fun v10 => oEnd))
 (cSeq (cOps (oSet 11 (sV ((xC (.bool true)))) fun v11 => oEnd))
 (cBlock 0 (cLoop (cBlock 1 (cSeq (cOps (oLet (sV ((xW 2))) fun v21 => oLet (sV ((xW 1))) fun v22 => oLet (sV (vSub .i64 (xC v21) (xC v22))) fun v23 => oSet 12 (sV ((xC v23))) fun v12 => oEnd))
 (cSeq (cSeq (cOps (oLet (sV ((xW 12))) fun v24 => oSet 25 (sV (vLe .i64 (xC v24) (xC (.int .i64 12)))) fun v25 => oEnd))
 (cCond (xW 25) (cSeq (cOps (oLet (sV ((xW 0))) fun v26 => oLet (sV ((xW 1))) fun v27 => oLet (sV ((xW 2))) fun v28 => oLet (sV ((xW 4))) fun v29 => oLet (sC 86 [(xC v26), (xC v27), (xC v28), (xC v29)]) fun v30 => oEnd))
 cRet)
 cSkip))
 (cSeq (cSeq (cOps (oLet (sV ((xW 3))) fun v31 => oSet 32 (sV (vEq .i64 (xC v31) (xC (.int .i64 0)))) fun v32 => oEnd))
 (cCond (xW 32) (cSeq (cOps (oLet (sV ((xW 0))) fun v33 => oLet (sV ((xW 1))) fun v34 => oLet (sV ((xW 2))) fun v35 => oLet (sV ((xW 4))) fun v36 => oLet (sC 87 [(xC v33), (xC v34), (xC v35), (xC v36)]) fun v37 => oEnd))
 cRet)
 cSkip))
 (cSeq (cSeq (cOps (oLet (sV ((xW 10))) fun v38 => oSet 39 (sV (vUn .not (xC v38))) fun v39 => oEnd))
 (cCond (xW 39) (cSeq (cOps (oLet (sV ((xW 0))) fun v40 => oLet (sV ((xW 1))) fun v41 => oLet (sV ((xW 2))) fun v42 => oLet (sV ((xW 4))) fun v43 => oLet (sC 88 [(xC v40), (xC v41), (xC v42), (xC v43)]) fun v44 => oEnd))
 (cOps (oLet (sV ((xW 3))) fun v45 => oLet (sV (vSub .i64 (xC v45) (xC (.int .i64 1)))) fun v46 => oSet 3 (sV ((xC v46))) fun v3 => oEnd)))
 cSkip))
 (cSeq (cOps (oLet (sV ((xW 0))) fun v48 => oLet (sV ((xW 1))) fun v49 => oLet (sV ((xW 2))) fun v50 => oLet (sV ((xW 4))) fun v51 => oLet (sC 89 [(xC v48), (xC v49), (xC v50), (xC v51)]) fun v52 => oLet (sV (vExtract 0 (xC v52))) fun v53 => oLet (sV (vExtract 1 (xC v52))) fun v54 => oSet 13 (sV ((xC v53))) fun v13 => oSet 14 (sV ((xC v54))) fun v14 => oEnd))
 (cSeq (cSeq (cOps (oLet (sV ((xW 14))) fun v55 => oSet 56 (sV (vEq .i64 (xC v55) (xC (.int .i64 2)))) fun v56 => oEnd))
 (cCond (xW 56) (cSeq (cOps (oLet (sV ((xW 0))) fun v57 => oLet (sV ((xW 1))) fun v58 => oLet (sV ((xW 2))) fun v59 => oLet (sV ((xW 4))) fun v60 => oLet (sC 90 [(xC v57), (xC v58), (xC v59), (xC v60)]) fun v61 => oEnd))
 (cSeq (cOps (oLet (sV ((xW 2))) fun v62 => oLet (sV (vSub .i64 (xC v62) (xC (.int .i64 1)))) fun v63 => oLet (sV ((xW 13))) fun v64 => oLet (sV ((xW 1))) fun v65 => oLet (sV (vSub .i64 (xC v64) (xC v65))) fun v66 => oLet (sV (vSub .i64 (xC v63) (xC v66))) fun v67 => oSet 13 (sV ((xC v67))) fun v13 => oEnd))
 (cOps (oSet 14 (sV ((xC (.int .i64 1)))) fun v14 => oEnd))))
 cSkip))
 (cSeq (cSeq (cOps (oLet (sV ((xW 10))) fun v68 => oLet (sG (xC v68) true (sV ((xW 11)))) fun v70 => oLet (sV (vPick (xC v68) (xC v70) (xC (.bool false)))) fun v71 => oLet (sG (xC v71) true (sV ((xW 14)))) fun v73 => oLet (sG (xC v71) true (sV (vEq .i64 (xC v73) (xC (.int .i64 1))))) fun v74 => oSet 75 (sV (vPick (xC v71) (xC v74) (xC (.bool false)))) fun v75 => oEnd))
 (cCond (xW 75) (cSeq (cOps (oLet (sV ((xW 0))) fun v76 => oLet (sV ((xW 1))) fun v77 => oLet (sV ((xW 2))) fun v78 => oLet (sV ((xW 4))) fun v79 => oSet 80 (sC 91 [(xC v76), (xC v77), (xC v78), (xC v79)]) fun v80 => oEnd))
 (cCond (xW 80) cRet
 cSkip))
 cSkip))
 (cSeq (cSeq (cOps (oLet (sV ((xW 1))) fun v81 => oLet (sV (vGt .i64 (xC v81) (xC (.int .i64 0)))) fun v82 => oLet (sG (xC v82) true (sV ((xW 4)))) fun v84 => oLet (sG (xC v82) true (sV ((xW 0)))) fun v85 => oLet (sG (xC v82) true (sV ((xC v81)))) fun v86 => oLet (sG (xC v82) true (sV (vSub .i64 (xC v86) (xC (.int .i64 1))))) fun v87 => oLet (sG (xC v82) true (sV (vIdx 7 (xC v85) (xC v87)))) fun v88 => oLet (sG (xC v82) true (sL (lLoad (some 7) (xC v88)))) fun v89 => oLet (sG (xC v82) true (sV ((xW 0)))) fun v90 => oLet (sG (xC v82) true (sV ((xW 13)))) fun v91 => oLet (sG (xC v82) true (sV (vIdx 7 (xC v90) (xC v91)))) fun v92 => oLet (sG (xC v82) true (sL (lLoad (some 7) (xC v92)))) fun v93 => oLet (sG (xC v82) true (sX (xC v84) [(xC v89), (xC v93)])) fun v94 => oLet (sG (xC v82) true (sV (vLt .i64 (xC v94) (xC (.int .i64 0))))) fun v95 => oLet (sG (xC v82) true (sV (vUn .not (xC v95)))) fun v96 => oSet 97 (sV (vPick (xC v82) (xC v96) (xC (.bool false)))) fun v97 => oEnd))
 (cCond (xW 97) (cSeq (cOps (oLet (sV ((xW 0))) fun v98 => oLet (sV ((xW 1))) fun v99 => oLet (sV ((xW 2))) fun v100 => oLet (sV ((xW 13))) fun v101 => oLet (sV ((xW 4))) fun v102 => oLet (sC 92 [(xC v98), (xC v99), (xC v100), (xC v101), (xC v102)]) fun v103 => oSet 15 (sV ((xC v103))) fun v15 => oEnd))
 (cSeq (cOps (oLet (sV ((xW 15))) fun v104 => oSet 1 (sV ((xC v104))) fun v1 => oEnd))
 (cExit 1)))
 cSkip))
 (cSeq (cOps (oLet (sV ((xW 0))) fun v106 => oLet (sV ((xW 1))) fun v107 => oLet (sV ((xW 2))) fun v108 => oLet (sV ((xW 13))) fun v109 => oLet (sV ((xW 4))) fun v110 => oLet (sC 93 [(xC v106), (xC v107), (xC v108), (xC v109), (xC v110)]) fun v111 => oLet (sV (vExtract 0 (xC v111))) fun v112 => oLet (sV (vExtract 1 (xC v111))) fun v113 => oSet 16 (sV ((xC v112))) fun v16 => oSet 17 (sV ((xC v113))) fun v17 => oEnd))
 (cSeq (cOps (oLet (sV ((xW 17))) fun v114 => oSet 11 (sV ((xC v114))) fun v11 => oEnd))
 (cSeq (cOps (oLet (sV ((xW 16))) fun v115 => oLet (sV ((xW 1))) fun v116 => oLet (sV (vSub .i64 (xC v115) (xC v116))) fun v117 => oLet (sV ((xW 2))) fun v118 => oLet (sV (vSub .i64 (xC v118) (xC v115))) fun v120 => oSet 18 (sV ((xC v117))) fun v18 => oSet 19 (sV ((xC v120))) fun v19 => oEnd))
 (cSeq (cOps (oLet (sV ((xW 12))) fun v121 => oLet (sV (vAr .quo .i64 (xC v121) (xC (.int .i64 8)))) fun v122 => oSet 20 (sV ((xC v122))) fun v20 => oEnd))
 (cSeq (cOps (oLet (sV ((xW 18))) fun v123 => oLet (sV ((xW 19))) fun v124 => oSet 125 (sV (vLt .i64 (xC v123) (xC v124))) fun v125 => oEnd))
 (cCond (xW 125) (cSeq (cOps (oLet (sV ((xW 18))) fun v126 => oLet (sV ((xW 20))) fun v127 => oLet (sV (vGe .i64 (xC v126) (xC v127))) fun v128 => oSet 10 (sV ((xC v128))) fun v10 => oEnd))
 (cSeq (cOps (oLet (sV ((xW 0))) fun v129 => oLet (sV ((xW 1))) fun v130 => oLet (sV ((xW 16))) fun v131 => oLet (sV ((xW 3))) fun v132 => oLet (sV ((xW 4))) fun v133 => oLet (sC 51 [(xC v129), (xC v130), (xC v131), (xC v132), (xC v133)]) fun v134 => oEnd))
 (cOps (oLet (sV ((xW 16))) fun v135 => oLet (sV (vAdd .i64 (xC v135) (xC (.int .i64 1)))) fun v136 => oSet 1 (sV ((xC v136))) fun v1 => oEnd))))
 (cSeq (cOps (oLet (sV ((xW 19))) fun v137 => oLet (sV ((xW 20))) fun v138 => oLet (sV (vGe .i64 (xC v137) (xC v138))) fun v139 => oSet 10 (sV ((xC v139))) fun v10 => oEnd))
 (cSeq (cOps (oLet (sV ((xW 0))) fun v140 => oLet (sV ((xW 16))) fun v141 => oLet (sV (vAdd .i64 (xC v141) (xC (.int .i64 1)))) fun v142 => oLet (sV ((xW 2))) fun v143 => oLet (sV ((xW 3))) fun v144 => oLet (sV ((xW 4))) fun v145 => oLet (sC 51 [(xC v140), (xC v142), (xC v143), (xC v144), (xC v145)]) fun v146 => oEnd))
 (cOps (oLet (sV ((xW 16))) fun v147 => oSet 2 (sV ((xC v147))) fun v2 => oEnd))))))))))))))))))))))), []⟩
theorem Tryz.k51_c : compF Tryz.prog [21, 22, 23, 24, 26, 27, 28, 29, 30, 31, 33, 34, 35, 36, 37, 38, 40, 41, 42, 43, 44, 45, 46, 48, 49, 50, 51, 52, 47, 53, 54, 55, 57, 58, 59, 60, 61, 62, 63, 64, 65, 66, 67, 68, 69, 70, 71, 72, 73, 74, 76, 77, 78, 79, 81, 82, 83, 84, 85, 86, 87, 88, 89, 90, 91, 92, 93, 94, 95, 96, 98, 99, 100, 101, 102, 103, 104, 106, 107, 108, 109, 110, 111, 105, 112, 113, 114, 115, 116, 117, 118, 119, 120, 121, 122, 123, 124, 126, 127, 128, 129, 130, 131, 132, 133, 134, 135, 136, 137, 138, 139, 140, 141, 142, 143, 144, 145, 146, 147] Tryz.f51 = some Tryz.k51 := by kernel_rfl
def Tryz.k52 : KF := ⟨[(way 0)], (cSeq (cOps (oSet 2 (sV ((xC (.int .i64 0)))) fun v2 => oEnd))
 (cSeq (cCond (xC (.bool false)) (cSeq (cOps (oLet (sV ((xW 0))) fun v3 => oLet (sV (vToI .u32 (xC v3))) fun v4 => oLet (sC 94 [(xC v4)]) fun v5 => oSet 2 (sV ((xC v5))) fun v2 => oEnd))
 cRet)
 cSkip)
 (cSeq (cOps (oLet (sV ((xW 0))) fun v6 => oLet (sC 95 [(xC v6)]) fun v7 => oSet 2 (sV ((xC v7))) fun v2 => oEnd))
 cRet))), [.tmp (way 2)]⟩
theorem Tryz.k52_c : compF Tryz.prog [3, 4, 5, 6, 7] Tryz.f52 = some Tryz.k52 := by kernel_rfl
def Tryz.k53 : KF := ⟨[(way 0)], (cSeq (cOps (oSet 2 (sV ((xC (.bool false)))) fun v2 => oEnd))
 (cSeq (cOps (oLet (sV ((xW 0))) fun v3 => oLet (sV (vSNe (xC v3) (xC v3))) fun v5 => oSet 2 (sV ((xC v5))) fun v2 => oEnd))
 cRet)), [.tmp (way 2)]⟩
theorem Tryz.k53_c : compF Tryz.prog [3, 4, 5] Tryz.f53 = some Tryz.k53 := by kernel_rfl
def Tryz.k54 : KF := ⟨[(way 0), (way 1)], (cSeq (cOps (oSet 4 (sN (aAlloc [.str [], .str [], .bool false, .bool false, .nilslice, .nilslice, .nilslice])) fun v4 => oSet 5 (sV ((xC (.bool false)))) fun v5 => oEnd))
 (cSeq (cSeq (cOps (oLet (sV ((xW 0))) fun v7 => oSet 8 (sL (lEq (.ptr true) (xC v7) (xC (.nilptr)))) fun v8 => oEnd))
 (cCond (xW 8) (cSeq (cOps (oLet (sL (lLoad (some 7) (xW 4))) fun v9 => oDo (sM (tStore 7 (xW 4) (xC v9))) (oSet 5 (sV ((xC (.bool false)))) fun v5 => oEnd)))
 cRet)
 cSkip))
 (cSeq (cOps (oLet (sV ((xW 0))) fun v11 => oLet (sV (vNil (xC v11))) fun v12 => oLet (sV (vAddr 1 (xC v12))) fun v13 => oLet (sL (lLoad none (xC v13))) fun v14 => oLet (sV ((xW 1))) fun v15 => oLet (sL (lLookup (.one .str) (some (.int .i64 0)) true (xC v14) (xC v15))) fun v16 => oLet (sV (vExtract 0 (xC v16))) fun v17 => oLet (sV (vExtract 1 (xC v16))) fun v18 => oSet 6 (sV ((xC v17))) fun v6 => oSet 5 (sV ((xC v18))) fun v5 => oEnd))
 (cSeq (cSeq (cOps (oSet 19 (sV ((xW 5))) fun v19 => oEnd))
 (cCond (xW 19) (cOps (oLet (sV ((xW 0))) fun v20 => oLet (sV (vNil (xC v20))) fun v21 => oLet (sV (vAddr 0 (xC v21))) fun v22 => oLet (sL (lLoad none (xC v22))) fun v23 => oLet (sV ((xW 6))) fun v24 => oLet (sV (vIdx 7 (xC v23) (xC v24))) fun v25 => oLet (sL (lLoad (some 7) (xC v25))) fun v26 => oDo (sM (tStore 7 (xW 4) (xC v26))) (oEnd)))
 cSkip))
 (cSeq (cOps (oLet (sL (lLoad (some 7) (xW 4))) fun v27 => oLet (sV ((xW 5))) fun v28 => oDo (sM (tStore 7 (xW 4) (xC v27))) (oSet 5 (sV ((xC v28))) fun v5 => oEnd)))
 cRet))))), [.cell (way 4) (some 7), .tmp (way 5)]⟩
theorem Tryz.k54_c : compF Tryz.prog [7, 9, 11, 12, 13, 14, 15, 16, 10, 17, 18, 20, 21, 22, 23, 24, 25, 26, 27, 28] Tryz.f54 = some Tryz.k54 := by kernel_rfl
def Tryz.k55 : KF := ⟨[(way 0), (way 1)], (cSeq (cOps (oSet 4 (sV ((xC (.bool false)))) fun v4 => oEnd))
 (cSeq (cOps (oLet (sV ((xW 0))) fun v5 => oLet (sV ((xW 1))) fun v6 => oLet (sC 96 [(xC v5), (xC v6)]) fun v7 => oLet (sV (vGe .i64 (xC v7) (xC (.int .i64 0)))) fun v8 => oSet 4 (sV ((xC v8))) fun v4 => oEnd))
 cRet)), [.tmp (way 4)]⟩
theorem Tryz.k55_c : compF Tryz.prog [5, 6, 7, 8] Tryz.f55 = some Tryz.k55 := by kernel_rfl
def Tryz.k56 : KF := ⟨[(way 0), (way 1), (way 2)], (cSeq (cOps (oLet (sV ((xW 0))) fun v12 => oLet (sV ((xW 1))) fun v13 => oSet 14 (sC 57 [(xC v12), (xC v13)]) fun v14 => oSet 15 (sV (vLen (xC v14))) fun v15 => oSet 16 (sV ((xC (.int .i64 0)))) fun v16 => oEnd))
 (cBlock 0 (cLoop (cSeq (cOps (oSet 17 (sV (vLt .i64 (xW 16) (xW 15))) fun v17 => oEnd))
 (cSeq (cCond (xW 17) cSkip
 (cExit 0))
 (cSeq (cBlock 1 (cSeq (cOps (oLet (sV (vIdx 1 (xW 14) (xW 16))) fun v18 => oLet (sL (lLoad none (xC v18))) fun v19 => oSet 7 (sV ((xC v19))) fun v7 => oEnd))
 (cSeq (cOps (oLet (sV ((xW 0))) fun v21 => oLet (sV ((xW 7))) fun v22 => oLet (sC 54 [(xC v21), (xC v22)]) fun v23 => oLet (sV (vExtract 0 (xC v23))) fun v24 => oLet (sV (vExtract 1 (xC v23))) fun v25 => oSet 8 (sN (aAlloc [.str [], .str [], .bool false, .bool false, .nilslice, .nilslice, .nilslice])) fun v8 => oDo (sM (tStore 7 (xC v8) (xC v24))) (oEnd)))
 (cSeq (cOps (oLet (sV (vAddr 4 (xW 8))) fun v26 => oSet 27 (sL (lLoad none (xC v26))) fun v27 => oSet 28 (sV (vLen (xC v27))) fun v28 => oSet 29 (sV ((xC (.int .i64 0)))) fun v29 => oEnd))
 (cBlock 2 (cLoop (cSeq (cOps (oSet 30 (sV (vLt .i64 (xW 29) (xW 28))) fun v30 => oEnd))
 (cSeq (cCond (xW 30) cSkip
 (cExit 2))
 (cSeq (cBlock 3 (cSeq (cOps (oLet (sV (vIdx 1 (xW 27) (xW 29))) fun v31 => oLet (sL (lLoad none (xC v31))) fun v32 => oSet 11 (sV ((xC v32))) fun v11 => oEnd))
 (cSeq (cOps (oLet (sV ((xW 2))) fun v33 => oLet (sV ((xW 11))) fun v34 => oLet (sL (lLookup (.one .str) (some (.int .i64 0)) false (xC v33) (xC v34))) fun v35 => oSet 36 (sV (vEq .i64 (xC v35) (xC (.int .i64 0)))) fun v36 => oEnd))
 (cCond (xW 36) (cSeq (cOps (oLet (sV ((xW 2))) fun v37 => oLet (sV ((xW 11))) fun v38 => oLet (sL (lLookup (.one .str) (some (.int .i64 0)) false (xC v37) (xC v38))) fun v39 => oLet (sV (vAdd .i64 (xC v39) (xC (.int .i64 1)))) fun v40 => oDo (sM (tMapPut (.one .str) (xC v37) (xC v38) (xC v40))) (oEnd)))
 (cOps (oLet (sV ((xW 0))) fun v41 => oLet (sV ((xW 11))) fun v42 => oLet (sV ((xW 2))) fun v43 => oLet (sC 56 [(xC v41), (xC v42), (xC v43)]) fun v44 => oEnd)))
 cSkip))))
 (cOps (oLet (sV (vAdd .i64 (xW 29) (xC (.int .i64 1)))) fun v45 => oSet 29 (sV ((xC v45))) fun v29 => oEnd)))))))))))
 (cOps (oLet (sV (vAdd .i64 (xW 16) (xC (.int .i64 1)))) fun v46 => oSet 16 (sV ((xC v46))) fun v16 => oEnd)))))))), []⟩
theorem Tryz.k56_c : compF Tryz.prog [12, 13, 18, 19, 21, 22, 23, 20, 24, 25, 9, 26, 31, 32, 33, 34, 35, 37, 38, 39, 40, 41, 42, 43, 44, 45, 46] Tryz.f56 = some Tryz.k56 := by kernel_rfl
def Tryz.k57 : KF := ⟨[(way 0), (way 1)], (cSeq (cOps (oSet 4 (sV ((xC (.nilslice)))) fun v4 => oEnd))
 (cScope (cSeq cSkip
 (cSeq (cOps (oLet (sV ((xW 0))) fun v8 => oLet (sV ((xW 1))) fun v9 => oLet (sC 54 [(xC v8), (xC v9)]) fun v10 => oLet (sV (vExtract 0 (xC v10))) fun v11 => oLet (sV (vExtract 1 (xC v10))) fun v12 => oSet 5 (sN (aAlloc [.str [], .str [], .bool false, .bool false, .nilslice, .nilslice, .nilslice])) fun v5 => oDo (sM (tStore 7 (xC v5) (xC v11))) (oSet 6 (sV ((xC v12))) fun v6 => oEnd)))
 (cSeq (cSeq (cOps (oLet (sV ((xW 6))) fun v13 => oLet (sG (xC v13) true (sV ((xW 4)))) fun v15 => oLet (sG (xC v13) true (sV ((xW 1)))) fun v16 => oLet (sG (xC v13) true (sC 55 [(xC v15), (xC v16)])) fun v17 => oLet (sG (xC v13) true (sV (vUn .not (xC v17)))) fun v18 => oSet 19 (sV (vPick (xC v13) (xC v18) (xC (.bool false)))) fun v19 => oEnd))
 (cCond (xW 19) (cSeq (cOps (oLet (sV ((xW 4))) fun v20 => oLet (sV ((xW 1))) fun v21 => oLet (sN (aRow 1 1 [1] [(xC v21)])) fun v22 => oLet (sM (tAppend 16 1 (xC v20) (xC v22))) fun v23 => oSet 4 (sV ((xC v23))) fun v4 => oEnd))
 (cSeq (cOps (oLet (sV (vAddr 1 (xW 5))) fun v24 => oLet (sL (lLoad none (xC v24))) fun v25 => oSet 1 (sV ((xC v25))) fun v1 => oEnd))
 (cGoto 0)))
 cSkip))
 (cSeq (cOps (oLet (sV ((xW 4))) fun v26 => oSet 4 (sV ((xC v26))) fun v4 => oEnd))
 cRet)))) [(0, (cSeq cSkip
 (cSeq (cOps (oLet (sV ((xW 0))) fun v8 => oLet (sV ((xW 1))) fun v9 => oLet (sC 54 [(xC v8), (xC v9)]) fun v10 => oLet (sV (vExtract 0 (xC v10))) fun v11 => oLet (sV (vExtract 1 (xC v10))) fun v12 => oSet 5 (sN (aAlloc [.str [], .str [], .bool false, .bool false, .nilslice, .nilslice, .nilslice])) fun v5 => oDo (sM (tStore 7 (xC v5) (xC v11))) (oSet 6 (sV ((xC v12))) fun v6 => oEnd)))
 (cSeq (cSeq (cOps (oLet (sV ((xW 6))) fun v13 => oLet (sG (xC v13) true (sV ((xW 4)))) fun v15 => oLet (sG (xC v13) true (sV ((xW 1)))) fun v16 => oLet (sG (xC v13) true (sC 55 [(xC v15), (xC v16)])) fun v17 => oLet (sG (xC v13) true (sV (vUn .not (xC v17)))) fun v18 => oSet 19 (sV (vPick (xC v13) (xC v18) (xC (.bool false)))) fun v19 => oEnd))
 (cCond (xW 19) (cSeq (cOps (oLet (sV ((xW 4))) fun v20 => oLet (sV ((xW 1))) fun v21 => oLet (sN (aRow 1 1 [1] [(xC v21)])) fun v22 => oLet (sM (tAppend 16 1 (xC v20) (xC v22))) fun v23 => oSet 4 (sV ((xC v23))) fun v4 => oEnd))
 (cSeq (cOps (oLet (sV (vAddr 1 (xW 5))) fun v24 => oLet (sL (lLoad none (xC v24))) fun v25 => oSet 1 (sV ((xC v25))) fun v1 => oEnd))
 (cGoto 0)))
 cSkip))
 (cSeq (cOps (oLet (sV ((xW 4))) fun v26 => oSet 4 (sV ((xC v26))) fun v4 => oEnd))
 cRet)))))])), [.tmp (way 4)]⟩
theorem Tryz.k57_c : compF Tryz.prog [8, 9, 10, 7, 11, 12, 13, 14, 15, 16, 17, 18, 20, 21, 22, 23, 24, 25, 26] Tryz.f57 = some Tryz.k57 := by kernel_rfl
def Tryz.k60 : KF := ⟨[(way 0), (way 1)], (cSeq (cOps (oSet 4 (sV ((xC (.bool false)))) fun v4 => oEnd))
 (cSeq (cOps (oLet (sV ((xW 0))) fun v5 => oLet (sV ((xW 1))) fun v6 => oLet (sC 98 [(xC v5), (xC v6)]) fun v7 => oLet (sV (vGe .i64 (xC v7) (xC (.int .i64 0)))) fun v8 => oSet 4 (sV ((xC v8))) fun v4 => oEnd))
 cRet)), [.tmp (way 4)]⟩
theorem Tryz.k60_c : compF Tryz.prog [5, 6, 7, 8] Tryz.f60 = some Tryz.k60 := by kernel_rfl
def Tryz.k64 : KF := ⟨[(way 0)], (cSeq (cOps (oSet 1 (sN (aBox (xW 0))) fun v1 => oSet 2 (sV ((xC (.bool false)))) fun v2 => oEnd))
 (cSeq (cOps (oLet (sV (vAddr 3 (xW 1))) fun v3 => oLet (sL (lLoad none (xC v3))) fun v4 => oSet 2 (sV ((xC v4))) fun v2 => oEnd))
 cRet)), [.tmp (way 2)]⟩
theorem Tryz.k64_c : compF Tryz.prog [3, 4] Tryz.f64 = some Tryz.k64 := by kernel_rfl
def Tryz.k65 : KF := ⟨[(way 0), (way 1)], (cSeq (cOps (oSet 4 (sV ((xC (.nilslice)))) fun v4 => oEnd))
 (cSeq (cOps (oLet (sN (aNewMap)) fun v8 => oSet 5 (sV ((xC v8))) fun v5 => oEnd))
 (cSeq (cOps (oLet (sV ((xW 0))) fun v9 => oLet (sV ((xW 1))) fun v10 => oLet (sV ((xW 5))) fun v11 => oLet (sC 56 [(xC v9), (xC v10), (xC v11)]) fun v12 => oEnd))
 (cSeq (cSeq (cOps (oLet (sV ((xW 0))) fun v14 => oLet (sV ((xW 1))) fun v15 => oLet (sC 54 [(xC v14), (xC v15)]) fun v16 => oLet (sV (vExtract 0 (xC v16))) fun v17 => oLet (sV (vExtract 1 (xC v16))) fun v18 => oSet 6 (sN (aAlloc [.str [], .str [], .bool false, .bool false, .nilslice, .nilslice, .nilslice])) fun v6 => oDo (sM (tStore 7 (xC v6) (xC v17))) (oSet 7 (sV ((xC v18))) fun v7 => oEnd)))
 (cSeq (cOps (oLet (sV ((xW 7))) fun v19 => oLet (sG (xC v19) true (sV (vAddr 2 (xW 6)))) fun v21 => oLet (sG (xC v19) true (sL (lLoad none (xC v21)))) fun v22 => oSet 23 (sV (vPick (xC v19) (xC v22) (xC (.bool false)))) fun v23 => oEnd))
 (cCond (xW 23) (cOps (oLet (sV ((xW 5))) fun v24 => oLet (sV ((xW 1))) fun v25 => oLet (sL (lLookup (.one .str) (some (.int .i64 0)) false (xC v24) (xC v25))) fun v26 => oLet (sV (vAdd .i64 (xC v26) (xC (.int .i64 1)))) fun v27 => oDo (sM (tMapPut (.one .str) (xC v24) (xC v25) (xC v27))) (oEnd)))
 cSkip)))
 (cSeq (cOps (oLet (sV ((xW 5))) fun v28 => oLet (sC 100 [(xC v28)]) fun v29 => oLet (sC 99 [(xC v29)]) fun v30 => oSet 4 (sV ((xC v30))) fun v4 => oEnd))
 cRet))))), [.tmp (way 4)]⟩
theorem Tryz.k65_c : compF Tryz.prog [8, 9, 10, 11, 12, 14, 15, 16, 13, 17, 18, 19, 20, 21, 22, 24, 25, 26, 27, 28, 29, 30] Tryz.f65 = some Tryz.k65 := by kernel_rfl
def Tryz.k66 : KF := ⟨[(way 0), (way 1), (way 2), (way 3)], (cSeq (cOps (oSet 4 (sN (aBox (xW 0))) fun v4 => oSet 6 (sN (aBox (xW 2))) fun v6 => oSet 7 (sN (aBox (xW 3))) fun v7 => oSet 8 (sV ((xC (.str [])))) fun v8 => oSet 9 (sV ((xC (.bool false)))) fun v9 => oEnd))
 (cSeq (cOps (oLet (sL (lLoad none (xW 4))) fun v12 => oLet (sV ((xW 1))) fun v13 => oLet (sC 57 [(xC v12), (xC v13)]) fun v14 => oSet 10 (sV ((xC v14))) fun v10 => oEnd))
 (cSeq (cOps (oLet (sV ((xW 10))) fun v15 => oLet (sV (vFunc 101 [(xW 4), (xW 6), (xW 7)])) fun v16 => oLet (sC 75 [(xC v15), (xC v16)]) fun v17 => oSet 11 (sV ((xC v17))) fun v11 => oEnd))
 (cSeq (cSeq (cOps (oLet (sV ((xW 11))) fun v18 => oSet 19 (sV (vLt .i64 (xC v18) (xC (.int .i64 0)))) fun v19 => oEnd))
 (cCond (xW 19) (cSeq (cOps (oSet 8 (sV ((xC (.str [])))) fun v8 => oSet 9 (sV ((xC (.bool false)))) fun v9 => oEnd))
 cRet)
 cSkip))
 (cSeq (cOps (oLet (sV ((xW 10))) fun v20 => oLet (sV ((xW 11))) fun v21 => oLet (sV (vIdx 1 (xC v20) (xC v21))) fun v22 => oLet (sL (lLoad none (xC v22))) fun v23 => oSet 8 (sV ((xC v23))) fun v8 => oSet 9 (sV ((xC (.bool true)))) fun v9 => oEnd))
 cRet))))), [.tmp (way 8), .tmp (way 9)]⟩
theorem Tryz.k66_c : compF Tryz.prog [12, 13, 14, 15, 16, 17, 18, 20, 21, 22, 23] Tryz.f66 = some Tryz.k66 := by kernel_rfl
def Tryz.k67 : KF := ⟨[(way 0)], (cSeq (cOps (oSet 1 (sN (aBox (xW 0))) fun v1 => oSet 2 (sN (aAlloc [.nilslice])) fun v2 => oSet 3 (sV ((xC (.int .i64 0)))) fun v3 => oEnd))
 (cSeq (cSeq (cOps (oLet (sL (lLoad none (xW 1))) fun v7 => oLet (sC 103 [(xC v7)]) fun v8 => oLet (sV (vExtract 0 (xC v8))) fun v9 => oLet (sV (vExtract 1 (xC v8))) fun v10 => oLet (sN (aAlloc [.str [], .int .i64 0, .int .i64 0])) fun v5 => oSet 4 (sV ((xC v9))) fun v4 => oDo (sM (tStore 3 (xC v5) (xC v10))) (oEnd)))
 (cSeq (cOps (oLet (sV ((xW 4))) fun v11 => oSet 12 (sV (vNe .i64 (xC v11) (xC (.int .i64 0)))) fun v12 => oEnd))
 (cCond (xW 12) (cSeq (cOps (oLet (sV ((xW 4))) fun v13 => oDo (sM (tStore 1 (xW 2) (xC (.nilslice)))) (oSet 3 (sV ((xC v13))) fun v3 => oEnd)))
 cRet)
 cSkip)))
 (cSeq (cOps (oLet (sL (lLoad none (xW 1))) fun v14 => oLet (sV (vFunc 105 [(xW 1), (xW 2)])) fun v15 => oLet (sC 104 [(xC v14), (xC v15)]) fun v16 => oEnd))
 (cSeq (cOps (oLet (sL (lLoad none (xW 2))) fun v17 => oDo (sM (tStore 1 (xW 2) (xC v17))) (oSet 3 (sV ((xC (.int .i64 0)))) fun v3 => oEnd)))
 cRet)))), [.cell (way 2) none, .tmp (way 3)]⟩
theorem Tryz.k67_c : compF Tryz.prog [7, 8, 6, 9, 10, 5, 11, 13, 14, 15, 16, 17] Tryz.f67 = some Tryz.k67 := by kernel_rfl
def Tryz.k68 : KF := ⟨[(way 0), (way 1)], (cSeq (cOps (oSet 4 (sV ((xC (.str [])))) fun v4 => oSet 5 (sN (aAlloc [.str [], .str [], .bool false, .bool false, .int .i64 0, .int .i64 0, .nilslice, .nilslice])) fun v5 => oSet 6 (sV ((xC (.bool false)))) fun v6 => oEnd))
 (cSeq (cOps (oLet (sV ((xW 1))) fun v11 => oLet (sC 107 [(xC v11)]) fun v12 => oLet (sV (vExtract 0 (xC v12))) fun v13 => oLet (sV (vExtract 1 (xC v12))) fun v14 => oLet (sV (vExtract 2 (xC v12))) fun v15 => oLet (sV (vExtract 3 (xC v12))) fun v16 => oSet 4 (sV ((xC v13))) fun v4 => oSet 7 (sV ((xC v14))) fun v7 => oSet 8 (sV ((xC v15))) fun v8 => oSet 9 (sV ((xC v16))) fun v9 => oEnd))
 (cSeq (cSeq (cOps (oLet (sV ((xW 9))) fun v17 => oLet (sV (vNe .i64 (xC v17) (xC (.int .i64 0)))) fun v18 => oLet (sG (xC v18) false (sV ((xW 8)))) fun v20 => oLet (sG (xC v18) false (sV (vSNe (xC v20) (xC (.str [40, 41, 86]))))) fun v21 => oLet (sV (vPick (xC v18) (xC (.bool true)) (xC v21))) fun v22 => oLet (sG (xC v22) false (sV ((xW 4)))) fun v24 => oLet (sG (xC v22) false (sC 108 [(xC v24)])) fun v25 => oSet 26 (sV (vPick (xC v22) (xC (.bool true)) (xC v25))) fun v26 => oEnd))
 (cCond (xW 26) (cSeq (cOps (oLet (sL (lLoad (some 8) (xW 5))) fun v27 => oSet 4 (sV ((xC (.str [])))) fun v4 => oDo (sM (tStore 8 (xW 5) (xC v27))) (oSet 6 (sV ((xC (.bool false)))) fun v6 => oEnd)))
 cRet)
 cSkip))
 (cSeq (cOps (oLet (sV ((xW 0))) fun v29 => oLet (sV ((xW 4))) fun v30 => oLet (sV ((xW 7))) fun v31 => oLet (sV ((xW 8))) fun v32 => oLet (sC 109 [(xC v29), (xC v30), (xC v31), (xC v32)]) fun v33 => oLet (sV (vExtract 0 (xC v33))) fun v34 => oLet (sV (vExtract 1 (xC v33))) fun v35 => oDo (sM (tStore 8 (xW 5) (xC v34))) (oSet 6 (sV ((xC v35))) fun v6 => oEnd)))
 (cSeq (cOps (oLet (sV ((xW 4))) fun v36 => oLet (sL (lLoad (some 8) (xW 5))) fun v37 => oLet (sV ((xW 6))) fun v38 => oLet (sG (xC v38) true (sV (vAddr 2 (xW 5)))) fun v40 => oLet (sG (xC v38) true (sL (lLoad none (xC v40)))) fun v41 => oLet (sV (vPick (xC v38) (xC v41) (xC (.bool false)))) fun v42 => oLet (sG (xC v42) true (sV (vAddr 3 (xW 5)))) fun v44 => oLet (sG (xC v42) true (sL (lLoad none (xC v44)))) fun v45 => oLet (sG (xC v42) true (sV (vUn .not (xC v45)))) fun v46 => oLet (sV (vPick (xC v42) (xC v46) (xC (.bool false)))) fun v47 => oSet 4 (sV ((xC v36))) fun v4 => oDo (sM (tStore 8 (xW 5) (xC v37))) (oSet 6 (sV ((xC v47))) fun v6 => oEnd)))
 cRet))))), [.tmp (way 4), .cell (way 5) (some 8), .tmp (way 6)]⟩
theorem Tryz.k68_c : compF Tryz.prog [11, 12, 10, 13, 14, 15, 16, 17, 18, 19, 20, 21, 22, 23, 24, 25, 27, 29, 30, 31, 32, 33, 28, 34, 35, 36, 37, 38, 39, 40, 41, 42, 43, 44, 45, 46, 47] Tryz.f68 = some Tryz.k68 := by kernel_rfl
def Tryz.k69 : KF := ⟨[(way 0), (way 1), (way 2), (way 3), (way 4)], (cSeq (cOps (oSet 10 (sN (aAlloc [.nilslice, .nilslice])) fun v10 => oEnd))
 (cSeq (cOps (oLet (sV ((xW 1))) fun v18 => oLet (sN (aRow 1 1 [1] [(xC v18)])) fun v19 => oSet 11 (sN (aAlloc [.nilslice])) fun v11 => oDo (sM (tStore 1 (xC v11) (xC v19))) (oEnd)))
 (cSeq (cOps (oLet (sN (aNewMap)) fun v20 => oLet (sV ((xW 1))) fun v21 => oDo (sM (tMapPut (.one .str) (xC v20) (xC v21) (xC (.int .i64 1)))) (oSet 12 (sN (aAlloc [.nilmap])) fun v12 => oDo (sM (tStore 1 (xC v12) (xC v20))) (oEnd))))
 (cSeq (cOps (oLet (sV (vFunc 110 [(xW 10), (xW 12), (xW 11)])) fun v23 => oSet 13 (sV ((xC v23))) fun v13 => oEnd))
 (cSeq (cOps (oLet (sV ((xW 13))) fun v24 => oLet (sV ((xW 1))) fun v25 => oLet (sV ((xW 0))) fun v26 => oLet (sV ((xW 2))) fun v27 => oLet (sC 111 [(xC v26), (xC v27)]) fun v28 => oLet (sX (xC v24) [(xC v25), (xC (.int .i64 0)), (xC v28)]) fun v29 => oEnd))
 (cSeq (cBlock 0 (cLoop (cSeq (cSeq (cOps (oLet (sL (lLoad none (xW 11))) fun v30 => oLet (sV (vLen (xC v30))) fun v31 => oSet 32 (sV (vGt .i64 (xC v31) (xC (.int .i64 0)))) fun v32 => oEnd))
 (cCond (xW 32) cSkip
 (cExit 0)))
 (cBlock 1 (cSeq (cOps (oLet (sL (lLoad none (xW 11))) fun v33 => oLet (sV (vIdx 1 (xC v33) (xC (.int .i64 0)))) fun v34 => oLet (sL (lLoad none (xC v34))) fun v35 => oSet 14 (sV ((xC v35))) fun v14 => oEnd))
 (cSeq (cOps (oLet (sL (lLoad none (xW 11))) fun v36 => oLet (sV (vSlice 1 (xC v36) [(xC (.int .i64 1))] [] [])) fun v37 => oDo (sM (tStore 1 (xW 11) (xC v37))) (oEnd)))
 (cSeq (cOps (oLet (sV (vAddr 1 (xW 10))) fun v38 => oLet (sL (lLoad none (xC v38))) fun v39 => oLet (sV ((xW 14))) fun v40 => oLet (sN (aRow 1 1 [1] [(xC v40)])) fun v41 => oLet (sM (tAppend 16 1 (xC v39) (xC v41))) fun v42 => oLet (sV (vAddr 1 (xW 10))) fun v43 => oDo (sM (tStore 1 (xC v43) (xC v42))) (oEnd)))
 (cSeq (cOps (oLet (sV ((xW 3))) fun v44 => oLet (sV ((xW 14))) fun v45 => oLet (sL (lLookup (.one .str) (some (.agg [.str [], .int .i64 0, .nilslice, .nilslice, .nilslice])) false (xC v44) (xC v45))) fun v46 => oSet 15 (sN (aAlloc [.str [], .int .i64 0, .nilslice, .nilslice, .nilslice])) fun v15 => oDo (sM (tStore 5 (xC v15) (xC v46))) (oEnd)))
 (cSeq (cOps (oLet (sV (vAddr 2 (xW 15))) fun v47 => oSet 48 (sL (lLoad none (xC v47))) fun v48 => oSet 49 (sV (vLen (xC v48))) fun v49 => oSet 50 (sV ((xC (.int .i64 0)))) fun v50 => oEnd))
 (cBlock 2 (cLoop (cSeq (cOps (oSet 51 (sV (vLt .i64 (xW 50) (xW 49))) fun v51 => oEnd))
 (cSeq (cCond (xW 51) cSkip
 (cExit 2))
 (cSeq (cBlock 3 (cSeq (cOps (oLet (sV ((xW 50))) fun v52 => oLet (sV (vIdx 10 (xW 48) (xC v52))) fun v53 => oLet (sL (lLoad (some 10) (xC v53))) fun v54 => oSet 17 (sN (aAlloc [.int .i64 0, .int .i64 0, .nilslice, .int .i64 0, .int .i64 0, .int .i64 0, .int .i64 0, .str [], .str [], .str []])) fun v17 => oSet 16 (sV ((xC v52))) fun v16 => oDo (sM (tStore 10 (xC v17) (xC v54))) (oEnd)))
 (cSeq (cOps (oLet (sV (vAddr 4 (xW 15))) fun v55 => oLet (sL (lLoad none (xC v55))) fun v56 => oLet (sV ((xW 16))) fun v57 => oLet (sV (vIdx 1 (xC v56) (xC v57))) fun v58 => oLet (sL (lLoad none (xC v58))) fun v59 => oSet 60 (sV (vGe .i64 (xC v59) (xC (.int .i64 0)))) fun v60 => oEnd))
 (cCond (xW 60) (cOps (oLet (sV ((xW 13))) fun v61 => oLet (sV ((xW 14))) fun v62 => oLet (sV ((xW 16))) fun v63 => oLet (sV ((xW 4))) fun v64 => oLet (sV (vAddr 4 (xW 17))) fun v65 => oLet (sL (lLoad (some 6) (xC v65))) fun v66 => oLet (sX (xC v64) [(xC v66)]) fun v67 => oLet (sX (xC v61) [(xC v62), (xC v63), (xC v67)]) fun v68 => oEnd))
 cSkip))))
 (cOps (oLet (sV (vAdd .i64 (xW 50) (xC (.int .i64 1)))) fun v69 => oSet 50 (sV ((xC v69))) fun v50 => oEnd))))))))))))))))
 (cSeq (cOps (oLet (sV (vAddr 0 (xW 10))) fun v70 => oLet (sL (lLoad none (xC v70))) fun v71 => oLet (sC 112 [(xC v71)]) fun v72 => oLet (sV (vAddr 0 (xW 10))) fun v73 => oDo (sM (tStore 1 (xC v73) (xC v72))) (oEnd)))
 (cSeq (cOps (oLet (sV (vAddr 1 (xW 10))) fun v74 => oLet (sL (lLoad none (xC v74))) fun v75 => oLet (sC 113 [(xC v75)]) fun v76 => oEnd))
 (cSeq (cOps (oLet (sL (lLoad (some 2) (xW 10))) fun v77 => oDo (sM (tStore 2 (xW 10) (xC v77))) (oEnd)))
 cRet))))))))), [.cell (way 10) (some 2)]⟩
theorem Tryz.k69_c : compF Tryz.prog [18, 19, 20, 21, 22, 23, 24, 25, 26, 27, 28, 29, 30, 31, 33, 34, 35, 36, 37, 38, 39, 40, 41, 42, 43, 44, 45, 46, 47, 52, 53, 54, 55, 56, 57, 58, 59, 61, 62, 63, 64, 65, 66, 67, 68, 69, 70, 71, 72, 73, 74, 75, 76, 77] Tryz.f69 = some Tryz.k69 := by kernel_rfl
def Tryz.k70 : KF := ⟨[(way 0), (way 1), (way 2)], (cSeq (cOps (oSet 4 (sN (aBox (xW 1))) fun v4 => oSet 6 (sV ((xC (.nilslice)))) fun v6 => oEnd))
 (cSeq (cSeq (cOps (oLet (sV ((xW 0))) fun v19 => oLet (sL (lLoad (some 6) (xW 4))) fun v20 => oLet (sC 114 [(xC v19), (xC v20)]) fun v21 => oSet 7 (sV ((xC v21))) fun v7 => oEnd))
 (cSeq (cOps (oLet (sV ((xW 7))) fun v22 => oSet 23 (sV (vSNe (xC v22) (xC (.str [])))) fun v23 => oEnd))
 (cCond (xW 23) (cOps (oLet (sV ((xW 0))) fun v24 => oLet (sV ((xW 7))) fun v25 => oLet (sC 111 [(xC v24), (xC v25)]) fun v26 => oSet 6 (sV ((xC v26))) fun v6 => oEnd))
 cSkip)))
 (cSeq (cOps (oLet (sV ((xW 0))) fun v28 => oLet (sL (lLoad (some 6) (xW 4))) fun v29 => oLet (sC 115 [(xC v28), (xC v29)]) fun v30 => oLet (sV (vExtract 0 (xC v30))) fun v31 => oLet (sV (vExtract 1 (xC v30))) fun v32 => oLet (sV (vExtract 2 (xC v30))) fun v33 => oSet 9 (sN (aAlloc [.str [], .str [], .bool false, .bool false, .int .i64 0, .int .i64 0, .nilslice, .nilslice])) fun v9 => oSet 8 (sV ((xC v31))) fun v8 => oDo (sM (tStore 8 (xC v9) (xC v32))) (oSet 10 (sV ((xC v33))) fun v10 => oEnd)))
 (cSeq (cOps (oLet (sV (vAddr 4 (xW 4))) fun v34 => oLet (sL (lLoad none (xC v34))) fun v35 => oLet (sV (vAddr 5 (xW 4))) fun v36 => oLet (sL (lLoad none (xC v36))) fun v37 => oSet 11 (sV ((xC (.nilslice)))) fun v11 => oSet 12 (sV ((xC v35))) fun v12 => oSet 13 (sV ((xC v37))) fun v13 => oEnd))
 (cSeq (cBlock 0 (cSeq (cOps (oLet (sV ((xW 10))) fun v57 => oLet (sV (vUn .not (xC v57))) fun v58 => oLet (sG (xC v58) false (sV (vAddr 0 (xW 4)))) fun v60 => oLet (sG (xC v58) false (sL (lLoad none (xC v60)))) fun v61 => oLet (sG (xC v58) false (sC 116 [(xC v61)])) fun v62 => oLet (sG (xC v58) false (sV (vUn .not (xC v62)))) fun v63 => oLet (sV (vPick (xC v58) (xC (.bool true)) (xC v63))) fun v64 => oSet 56 (sV ((xC v64))) fun v56 => oEnd))
 (cCond (xW 56) cSkip
 (cSeq (cOps (oLet (sV (vAddr 0 (xW 4))) fun v66 => oLet (sL (lLoad none (xC v66))) fun v67 => oLet (sV (vEq .i64 (xC v67) (xC (.int .i64 34)))) fun v68 => oLet (sG (xC v68) false (sV (vAddr 0 (xW 4)))) fun v70 => oLet (sG (xC v68) false (sL (lLoad none (xC v70)))) fun v71 => oLet (sG (xC v68) false (sV (vEq .i64 (xC v71) (xC (.int .i64 35))))) fun v72 => oLet (sV (vPick (xC v68) (xC (.bool true)) (xC v72))) fun v73 => oSet 65 (sV ((xC v73))) fun v65 => oEnd))
 (cCond (xW 65) (cOps (oLet (sV ((xW 0))) fun v74 => oLet (sV (vAddr 3 (xW 4))) fun v75 => oLet (sL (lLoad none (xC v75))) fun v76 => oLet (sC 117 [(xC v74), (xC v76)]) fun v77 => oSet 11 (sV ((xC v77))) fun v11 => oEnd))
 (cSeq (cOps (oLet (sV ((xW 6))) fun v38 => oLet (sV ((xW 8))) fun v39 => oLet (sV (vAddr 0 (xW 9))) fun v40 => oLet (sL (lLoad none (xC v40))) fun v41 => oLet (sV (vAddr 1 (xW 9))) fun v42 => oLet (sL (lLoad none (xC v42))) fun v43 => oLet (sC 118 [(xC v39), (xC v41), (xC v43)]) fun v44 => oLet (sN (aRow 1 1 [1] [(xC v44)])) fun v45 => oLet (sM (tAppend 16 1 (xC v38) (xC v45))) fun v46 => oSet 6 (sV ((xC v46))) fun v6 => oEnd))
 (cSeq (cOps (oLet (sV ((xW 8))) fun v47 => oLet (sC 108 [(xC v47)]) fun v48 => oLet (sG (xC v48) true (sV (vAddr 0 (xW 9)))) fun v50 => oLet (sG (xC v48) true (sL (lLoad none (xC v50)))) fun v51 => oLet (sG (xC v48) true (sV (vSEq (xC v51) (xC (.str [99, 97, 108, 108]))))) fun v52 => oSet 53 (sV (vPick (xC v48) (xC v52) (xC (.bool false)))) fun v53 => oEnd))
 (cCond (xW 53) (cOps (oLet (sV ((xW 0))) fun v54 => oLet (sC 117 [(xC v54), (xC (.str [84, 97, 115, 107]))]) fun v55 => oSet 11 (sV ((xC v55))) fun v11 => oSet 12 (sV ((xC (.str [114, 117, 110])))) fun v12 => oSet 13 (sV ((xC (.str [40, 41, 86])))) fun v13 => oEnd))
 cSkip))))))))
 (cSeq (cSeq (cOps (oSet 78 (sV ((xW 11))) fun v78 => oSet 79 (sV (vLen (xC v78))) fun v79 => oSet 80 (sV ((xC (.int .i64 0)))) fun v80 => oEnd))
 (cBlock 1 (cLoop (cSeq (cOps (oSet 81 (sV (vLt .i64 (xW 80) (xW 79))) fun v81 => oEnd))
 (cSeq (cCond (xW 81) cSkip
 (cExit 1))
 (cSeq (cBlock 2 (cSeq (cOps (oLet (sV (vIdx 1 (xW 78) (xW 80))) fun v82 => oLet (sL (lLoad none (xC v82))) fun v83 => oSet 15 (sV ((xC v83))) fun v15 => oEnd))
 (cSeq (cSeq (cOps (oLet (sV ((xW 0))) fun v84 => oLet (sV ((xW 15))) fun v85 => oLet (sC 119 [(xC v84), (xC v85)]) fun v86 => oLet (sV (vUn .not (xC v86))) fun v87 => oLet (sG (xC v87) false (sV ((xW 2)))) fun v89 => oLet (sG (xC v87) false (sV ((xC v85)))) fun v90 => oLet (sG (xC v87) false (sX (xC v89) [(xC v90)])) fun v91 => oLet (sG (xC v87) false (sV (vUn .not (xC v91)))) fun v92 => oSet 93 (sV (vPick (xC v87) (xC (.bool true)) (xC v92))) fun v93 => oEnd))
 (cCond (xW 93) (cExit 2)
 cSkip))
 (cSeq (cOps (oLet (sV ((xW 0))) fun v95 => oLet (sV ((xW 15))) fun v96 => oLet (sV ((xW 12))) fun v97 => oLet (sV ((xW 13))) fun v98 => oLet (sC 120 [(xC v95), (xC v96), (xC v97), (xC v98)]) fun v99 => oLet (sV (vExtract 0 (xC v99))) fun v100 => oLet (sV (vExtract 1 (xC v99))) fun v101 => oLet (sV (vExtract 2 (xC v99))) fun v102 => oLet (sN (aAlloc [.str [], .str [], .bool false, .bool false, .int .i64 0, .int .i64 0, .nilslice, .nilslice])) fun v17 => oSet 16 (sV ((xC v100))) fun v16 => oDo (sM (tStore 8 (xC v17) (xC v101))) (oSet 18 (sV ((xC v102))) fun v18 => oEnd)))
 (cSeq (cOps (oSet 103 (sV ((xW 18))) fun v103 => oEnd))
 (cCond (xW 103) (cOps (oLet (sV ((xW 6))) fun v104 => oLet (sV ((xW 16))) fun v105 => oLet (sV ((xW 12))) fun v106 => oLet (sV ((xW 13))) fun v107 => oLet (sC 118 [(xC v105), (xC v106), (xC v107)]) fun v108 => oLet (sN (aRow 1 1 [1] [(xC v108)])) fun v109 => oLet (sM (tAppend 16 1 (xC v104) (xC v109))) fun v110 => oSet 6 (sV ((xC v110))) fun v6 => oEnd))
 cSkip))))))
 (cOps (oLet (sV (vAdd .i64 (xW 80) (xC (.int .i64 1)))) fun v111 => oSet 80 (sV ((xC v111))) fun v80 => oEnd))))))))
 (cSeq (cOps (oLet (sV ((xW 6))) fun v112 => oLet (sC 113 [(xC v112)]) fun v113 => oEnd))
 (cSeq (cOps (oLet (sV ((xW 6))) fun v114 => oLet (sC 121 [(xC v114)]) fun v115 => oSet 6 (sV ((xC v115))) fun v6 => oEnd))
 cRet)))))))), [.tmp (way 6)]⟩
theorem Tryz.k70_c : compF Tryz.prog [19, 20, 21, 22, 24, 25, 26, 28, 29, 30, 27, 31, 32, 33, 34, 35, 36, 37, 57, 58, 59, 60, 61, 62, 63, 64, 66, 67, 68, 69, 70, 71, 72, 73, 74, 75, 76, 77, 38, 39, 40, 41, 42, 43, 44, 45, 46, 47, 48, 49, 50, 51, 52, 54, 55, 82, 83, 84, 85, 86, 87, 88, 89, 90, 91, 92, 95, 96, 97, 98, 99, 94, 100, 101, 102, 17, 104, 105, 106, 107, 108, 109, 110, 111, 112, 113, 114, 115] Tryz.f70 = some Tryz.k70 := by kernel_rfl
def Tryz.k72 : KF := ⟨[(way 0), (way 1)], (cSeq (cOps (oSet 2 (sN (aBox (xW 0))) fun v2 => oSet 3 (sN (aBox (xW 1))) fun v3 => oSet 4 (sV ((xC (.bool false)))) fun v4 => oEnd))
 (cSeq (cOps (oLet (sV (vAddr 0 (xW 2))) fun v5 => oLet (sL (lLoad none (xC v5))) fun v6 => oLet (sV (vAddr 0 (xW 3))) fun v7 => oLet (sL (lLoad none (xC v7))) fun v8 => oLet (sC 122 [(xC v6), (xC v8)]) fun v9 => oLet (sG (xC v9) true (sV (vAddr 1 (xW 2)))) fun v11 => oLet (sG (xC v9) true (sL (lLoad none (xC v11)))) fun v12 => oLet (sG (xC v9) true (sV (vAddr 1 (xW 3)))) fun v13 => oLet (sG (xC v9) true (sL (lLoad none (xC v13)))) fun v14 => oLet (sG (xC v9) true (sC 123 [(xC v12), (xC v14)])) fun v15 => oLet (sV (vPick (xC v9) (xC v15) (xC (.bool false)))) fun v16 => oLet (sG (xC v16) true (sV (vAddr 2 (xW 2)))) fun v18 => oLet (sG (xC v16) true (sL (lLoad none (xC v18)))) fun v19 => oLet (sG (xC v16) true (sV (vAddr 2 (xW 3)))) fun v20 => oLet (sG (xC v16) true (sL (lLoad none (xC v20)))) fun v21 => oLet (sG (xC v16) true (sC 124 [(xC v19), (xC v21)])) fun v22 => oLet (sV (vPick (xC v16) (xC v22) (xC (.bool false)))) fun v23 => oLet (sG (xC v23) true (sV (vAddr 3 (xW 2)))) fun v25 => oLet (sG (xC v23) true (sL (lLoad none (xC v25)))) fun v26 => oLet (sG (xC v23) true (sV (vAddr 3 (xW 3)))) fun v27 => oLet (sG (xC v23) true (sL (lLoad none (xC v27)))) fun v28 => oLet (sG (xC v23) true (sC 124 [(xC v26), (xC v28)])) fun v29 => oLet (sV (vPick (xC v23) (xC v29) (xC (.bool false)))) fun v30 => oSet 4 (sV ((xC v30))) fun v4 => oEnd))
 cRet)), [.tmp (way 4)]⟩
theorem Tryz.k72_c : compF Tryz.prog [5, 6, 7, 8, 9, 10, 11, 12, 13, 14, 15, 16, 17, 18, 19, 20, 21, 22, 23, 24, 25, 26, 27, 28, 29, 30] Tryz.f72 = some Tryz.k72 := by kernel_rfl
def Tryz.k73 : KF := ⟨[(way 0)], (cSeq (cOps (oSet 1 (sN (aBox (xW 0))) fun v1 => oSet 2 (sN (aAlloc [.nilslice, .nilslice, .nilslice, .nilslice])) fun v2 => oEnd))
 (cSeq (cOps (oSet 3 (sV ((xC (.nilslice)))) fun v3 => oEnd))
 (cSeq (cSeq (cOps (oSet 4 (sV ((xC (.int .i64 0)))) fun v4 => oEnd))
 (cBlock 0 (cLoop (cSeq (cSeq (cOps (oLet (sV ((xW 4))) fun v7 => oLet (sV (vAddr 0 (xW 1))) fun v8 => oLet (sL (lLoad none (xC v8))) fun v9 => oLet (sV (vLen (xC v9))) fun v10 => oSet 11 (sV (vLt .i64 (xC v7) (xC v10))) fun v11 => oEnd))
 (cCond (xW 11) cSkip
 (cExit 0)))
 (cSeq (cBlock 1 (cSeq (cOps (oLet (sV (vAddr 0 (xW 1))) fun v14 => oLet (sL (lLoad none (xC v14))) fun v15 => oLet (sV ((xW 4))) fun v16 => oLet (sV (vIdx 2 (xC v15) (xC v16))) fun v17 => oLet (sV (vAddr 1 (xC v17))) fun v18 => oLet (sL (lLoad none (xC v18))) fun v19 => oLet (sV (vLen (xC v19))) fun v20 => oSet 21 (sV (vGt .i64 (xC v20) (xC (.int .i64 0)))) fun v21 => oEnd))
 (cCond (xW 21) (cOps (oLet (sV ((xW 3))) fun v22 => oLet (sV (vAddr 0 (xW 1))) fun v23 => oLet (sL (lLoad none (xC v23))) fun v24 => oLet (sV ((xW 4))) fun v25 => oLet (sV (vIdx 2 (xC v24) (xC v25))) fun v26 => oLet (sV (vAddr 0 (xC v26))) fun v27 => oLet (sL (lLoad none (xC v27))) fun v28 => oLet (sN (aRow 1 1 [1] [(xC v28)])) fun v29 => oLet (sM (tAppend 16 1 (xC v22) (xC v29))) fun v30 => oSet 3 (sV ((xC v30))) fun v3 => oEnd))
 cSkip)))
 (cOps (oLet (sV ((xW 4))) fun v12 => oLet (sV (vAdd .i64 (xC v12) (xC (.int .i64 1)))) fun v13 => oSet 4 (sV ((xC v13))) fun v4 => oEnd)))))))
 (cSeq (cOps (oLet (sV ((xW 3))) fun v31 => oLet (sC 125 [(xC v31)]) fun v32 => oSet 3 (sV ((xC v32))) fun v3 => oEnd))
 (cSeq (cOps (oSet 5 (sV ((xC (.nilslice)))) fun v5 => oEnd))
 (cSeq (cSeq (cOps (oSet 6 (sV ((xC (.int .i64 0)))) fun v6 => oEnd))
 (cBlock 2 (cLoop (cSeq (cSeq (cOps (oLet (sV ((xW 6))) fun v33 => oLet (sV ((xW 3))) fun v34 => oLet (sV (vLen (xC v34))) fun v35 => oSet 36 (sV (vLt .i64 (xC v33) (xC v35))) fun v36 => oEnd))
 (cCond (xW 36) cSkip
 (cExit 2)))
 (cSeq (cBlock 3 (cOps (oLet (sV ((xW 5))) fun v39 => oLet (sV ((xW 3))) fun v40 => oLet (sV ((xW 6))) fun v41 => oLet (sV (vIdx 1 (xC v40) (xC v41))) fun v42 => oSee (seeL (lLoad none (xC v42))) fun q4 => oLet (sLo [] 0 (lLoad none (xC v42))) fun v43 => oLet (sL (lLoad (some 4) (xW 1))) fun v44 => oLet (sV (vIdx 1 (xC v40) (xC v41))) fun v47 => oLet (sL (lLoad none (xC v47))) fun v48 => oCap fun c10 => oLet (sC 126 [(xC v44), (xC v48)]) fun v49 => oCap fun d10 => oLate [q4] <| oLet (sV (vCat [1, 1] [(xC v43), (xC v49)])) fun v50 => oLet (sN (aRow 1 2 [2] [(xC v50)])) fun v51 => oCap fun c13 => oLet (sM (tAppend 40 2 (xC v39) (xC v51))) fun v52 => oCap fun d13 => oSet 5 (sV ((xC v52))) fun v5 => oEnd)))
 (cOps (oLet (sV ((xW 6))) fun v37 => oLet (sV (vAdd .i64 (xC v37) (xC (.int .i64 1)))) fun v38 => oSet 6 (sV ((xC v38))) fun v6 => oEnd)))))))
 (cSeq (cOps (oLet (sV ((xW 5))) fun v53 => oLet (sV (vAddr 1 (xW 1))) fun v54 => oLet (sL (lLoad none (xC v54))) fun v55 => oCap fun c3 => oLet (sC 127 [(xC v55)]) fun v56 => oCap fun d3 => oLet (sV (vAddr 2 (xW 1))) fun v57 => oLet (sLo [c3] d3.next (lLoad none (xC v57))) fun v58 => oCap fun c6 => oLet (sC 125 [(xC v58)]) fun v59 => oCap fun d6 => oLet (sV (vAddr 3 (xW 1))) fun v60 => oLet (sLo [c6, c3] d6.next (lLoad none (xC v60))) fun v61 => oCap fun c9 => oLet (sC 125 [(xC v61)]) fun v62 => oCap fun d9 => oLet (sV (vCat [1, 1, 1, 1] [(xC v53), (xC v56), (xC v59), (xC v62)])) fun v63 => oCap fun c11 => oDo (sM (tStore 4 (xW 2) (xC v63))) (oCap fun d11 => oEnd)))
 cRet))))))), [.cell (way 2) (some 4)]⟩
theorem Tryz.k73_c : compF Tryz.prog [7, 8, 9, 10, 14, 15, 16, 17, 18, 19, 20, 22, 23, 24, 25, 26, 27, 28, 29, 30, 12, 13, 31, 32, 33, 34, 35, 39, 40, 41, 42, 43, 44, 45, 46, 47, 48, 49, 50, 51, 52, 37, 38, 53, 54, 55, 56, 57, 58, 59, 60, 61, 62, 63] Tryz.f73 = some Tryz.k73 := by kernel_rfl
def Tryz.k74 : KF := ⟨[(way 0), (way 1)], (cSeq (cOps (oSet 4 (sV ((xC (.int .i64 0)))) fun v4 => oEnd))
 (cSeq (cSeq (cOps (oLet (sV ((xW 0))) fun v6 => oSet 7 (sV (vLen (xC v6))) fun v7 => oSet 8 (sV ((xC (.int .i64 0)))) fun v8 => oEnd))
 (cBlock 0 (cLoop (cSeq (cOps (oSet 9 (sV (vLt .i64 (xW 8) (xW 7))) fun v9 => oEnd))
 (cSeq (cCond (xW 9) cSkip
 (cExit 0))
 (cSeq (cBlock 1 (cSeq (cOps (oLet (sV ((xW 8))) fun v10 => oSet 5 (sV ((xC v10))) fun v5 => oEnd))
 (cSeq (cOps (oLet (sV ((xW 1))) fun v11 => oLet (sV ((xW 0))) fun v12 => oLet (sV ((xW 5))) fun v13 => oLet (sV (vIdx 3 (xC v12) (xC v13))) fun v14 => oLet (sL (lLoad (some 3) (xC v14))) fun v15 => oSet 16 (sX (xC v11) [(xC v15)]) fun v16 => oEnd))
 (cCond (xW 16) (cSeq (cOps (oLet (sV ((xW 5))) fun v17 => oSet 4 (sV ((xC v17))) fun v4 => oEnd))
 cRet)
 cSkip))))
 (cOps (oLet (sV (vAdd .i64 (xW 8) (xC (.int .i64 1)))) fun v18 => oSet 8 (sV ((xC v18))) fun v8 => oEnd))))))))
 (cSeq (cOps (oSet 4 (sV ((xC (.int .i64 (-1))))) fun v4 => oEnd))
 cRet))), [.tmp (way 4)]⟩
theorem Tryz.k74_c : compF Tryz.prog [6, 10, 11, 12, 13, 14, 15, 17, 18] Tryz.f74 = some Tryz.k74 := by kernel_rfl
def Tryz.k75 : KF := ⟨[(way 0), (way 1)], (cSeq (cOps (oSet 4 (sV ((xC (.int .i64 0)))) fun v4 => oEnd))
 (cSeq (cSeq (cOps (oLet (sV ((xW 0))) fun v6 => oSet 7 (sV (vLen (xC v6))) fun v7 => oSet 8 (sV ((xC (.int .i64 0)))) fun v8 => oEnd))
 (cBlock 0 (cLoop (cSeq (cOps (oSet 9 (sV (vLt .i64 (xW 8) (xW 7))) fun v9 => oEnd))
 (cSeq (cCond (xW 9) cSkip
 (cExit 0))
 (cSeq (cBlock 1 (cSeq (cOps (oLet (sV ((xW 8))) fun v10 => oSet 5 (sV ((xC v10))) fun v5 => oEnd))
 (cSeq (cOps (oLet (sV ((xW 1))) fun v11 => oLet (sV ((xW 0))) fun v12 => oLet (sV ((xW 5))) fun v13 => oLet (sV (vIdx 1 (xC v12) (xC v13))) fun v14 => oLet (sL (lLoad none (xC v14))) fun v15 => oSet 16 (sX (xC v11) [(xC v15)]) fun v16 => oEnd))
 (cCond (xW 16) (cSeq (cOps (oLet (sV ((xW 5))) fun v17 => oSet 4 (sV ((xC v17))) fun v4 => oEnd))
 cRet)
 cSkip))))
 (cOps (oLet (sV (vAdd .i64 (xW 8) (xC (.int .i64 1)))) fun v18 => oSet 8 (sV ((xC v18))) fun v8 => oEnd))))))))
 (cSeq (cOps (oSet 4 (sV ((xC (.int .i64 (-1))))) fun v4 => oEnd))
 cRet))), [.tmp (way 4)]⟩
theorem Tryz.k75_c : compF Tryz.prog [6, 10, 11, 12, 13, 14, 15, 17, 18] Tryz.f75 = some Tryz.k75 := by kernel_rfl
end
end Go.Proofs
