/- The loops of functions, named. -/
import Derived.Test.YtcfknlkgnolndaaGreatDoorTzAKT
set_option linter.unusedVariables false
set_option linter.unusedSimpArgs false
set_option linter.unusedSectionVars false
namespace Go.Proofs
open Go.Sh
set_option linter.unusedVariables false
noncomputable section
theorem Tryz.k5_eq : Tryz.k5 = ⟨[(way 0), (way 1), (way 2), (way 3), (way 4), (way 5)], (cSeq (cOps (oSet 12 (sV ((xC (.bool false)))) fun v12 => oEnd))
 (cSeq (cSeq (cOps (oLet (sV ((xW 3))) fun v15 => oLet (sV (vLenS (xC v15))) fun v16 => oSet 17 (sV (vGt .i64 (xC v16) (xC (.int .i64 200)))) fun v17 => oEnd))
 (cCond (xW 17) (cSeq (cOps (oLet (sC 24 []) fun v18 => oSet 12 (sV ((xC v18))) fun v12 => oEnd))
 cRet)
 cSkip))
 (cSeq (cOps (oSet 13 (sV ((xC (.func 25 [])))) fun v13 => oEnd))
 (cSeq (cOps (oLet (sV ((xW 13))) fun v19 => oLet (sV ((xW 0))) fun v20 => oLet (sX (xC v19) [(xC v20)]) fun v21 => oLet (sV (vStr .add (xC (.str [101, 114, 114, 111, 114, 32])) (xC v21))) fun v22 => oSet 14 (sV ((xC v22))) fun v14 => oEnd))
 (cSeq (cSeq (cOps (oSet 23 (sV ((xW 0))) fun v23 => oEnd))
 (cBlock 0 (cSeq (cOps (oLet (sV (vEq .i64 (xW 23) (xC (.int .i64 0)))) fun v36 => oSet 35 (sV ((xC v36))) fun v35 => oEnd))
 (cCond (xW 35) (cOps (oSet 14 (sV ((xC (.str [111, 107])))) fun v14 => oEnd))
 (cSeq (cOps (oLet (sV (vEq .i64 (xW 23) (xC (.int .i64 9)))) fun v38 => oSet 37 (sV ((xC v38))) fun v37 => oEnd))
 (cCond (xW 37) (cOps (oLet (sV ((xW 14))) fun v39 => oLet (sV (vStr .add (xC v39) (xC (.str [32])))) fun v40 => oLet (sV ((xW 3))) fun v41 => oLet (sV (vStr .add (xC v40) (xC v41))) fun v42 => oLet (sV (vStr .add (xC v42) (xC (.str [32])))) fun v43 => oLet (sV ((xW 13))) fun v44 => oLet (sV ((xW 4))) fun v45 => oLet (sX (xC v44) [(xC v45)]) fun v46 => oLet (sV (vStr .add (xC v43) (xC v46))) fun v47 => oLet (sV (vStr .add (xC v47) (xC (.str [32])))) fun v48 => oLet (sV ((xW 5))) fun v50 => oLet (sX (xC v44) [(xC v50)]) fun v51 => oLet (sV (vStr .add (xC v48) (xC v51))) fun v52 => oSet 14 (sV ((xC v52))) fun v14 => oEnd))
 (cOps (oLet (sV ((xW 14))) fun v24 => oLet (sV (vStr .add (xC v24) (xC (.str [32])))) fun v25 => oLet (sV ((xW 13))) fun v26 => oLet (sV ((xW 1))) fun v27 => oLet (sX (xC v26) [(xC v27)]) fun v28 => oLet (sV (vStr .add (xC v25) (xC v28))) fun v29 => oLet (sV (vStr .add (xC v29) (xC (.str [32])))) fun v30 => oLet (sV ((xW 2))) fun v32 => oLet (sX (xC v26) [(xC v32)]) fun v33 => oLet (sV (vStr .add (xC v30) (xC v33))) fun v34 => oSet 14 (sV ((xC v34))) fun v14 => oEnd))))))))
 (cSeq (cOps (oLet (sV ((xW 0))) fun v53 => oLet (sV ((xW 1))) fun v54 => oLet (sV ((xW 2))) fun v55 => oLet (sV ((xW 3))) fun v56 => oLet (sV ((xW 4))) fun v57 => oLet (sV ((xW 5))) fun v58 => oLet (sV (vCat [1, 1, 1, 1, 1, 1] [(xC v53), (xC v54), (xC v55), (xC v56), (xC v57), (xC v58)])) fun v59 => oLet (sC 26 [(xC v59)]) fun v60 => oLet (sV ((xW 14))) fun v61 => oLet (sV (vSEq (xC v60) (xC v61))) fun v62 => oLet (sG (xC v62) true (sC 24 [])) fun v64 => oLet (sV (vPick (xC v62) (xC v64) (xC (.bool false)))) fun v65 => oSet 12 (sV ((xC v65))) fun v12 => oEnd))
 cRet)))))), [.tmp (way 12)]⟩ := rfl
def Tryz.l25_0 : Cd := (cSeq (cSeq (cOps (oLet (sV ((xW 3))) fun v12 => oLet (sV (vGt .u64 (xC v12) (xC (.int .u64 0)))) fun v13 => oLet (sG (xC v13) false (sV ((xW 5)))) fun v15 => oLet (sG (xC v13) false (sV (vLen (xC v15)))) fun v16 => oLet (sG (xC v13) false (sV (vEq .i64 (xC v16) (xC (.int .i64 0))))) fun v17 => oSet 18 (sV (vPick (xC v13) (xC (.bool true)) (xC v17))) fun v18 => oEnd))
 (cCond (xW 18) cSkip
 (cExit 0)))
 (cBlock 1 (cSeq (cOps (oLet (sV ((xW 3))) fun v19 => oLet (sV (vAr .rem .u64 (xC v19) (xC (.int .u64 10)))) fun v20 => oLet (sV (vAdd .u64 (xC (.int .u64 48)) (xC v20))) fun v21 => oLet (sV (vToI .u8 (xC v21))) fun v22 => oLet (sN (aRow 1 1 [1] [(xC v22)])) fun v23 => oLet (sV ((xW 5))) fun v24 => oLet (sM (tAppend 1 1 (xC v23) (xC v24))) fun v25 => oSet 5 (sV ((xC v25))) fun v5 => oEnd))
 (cOps (oLet (sV ((xW 3))) fun v26 => oLet (sV (vAr .quo .u64 (xC v26) (xC (.int .u64 10)))) fun v27 => oSet 3 (sV ((xC v27))) fun v3 => oEnd)))))
theorem Tryz.k25_eq : Tryz.k25 = ⟨[(way 0)], (cSeq (cOps (oSet 2 (sV ((xC (.str [])))) fun v2 => oEnd))
 (cSeq (cOps (oLet (sV ((xW 0))) fun v6 => oLet (sV (vToI .u64 (xC v6))) fun v7 => oSet 3 (sV ((xC v7))) fun v3 => oEnd))
 (cSeq (cOps (oSet 4 (sV ((xC (.str [])))) fun v4 => oEnd))
 (cSeq (cSeq (cOps (oLet (sV ((xW 0))) fun v8 => oSet 9 (sV (vLt .i64 (xC v8) (xC (.int .i64 0)))) fun v9 => oEnd))
 (cCond (xW 9) (cSeq (cOps (oLet (sV ((xW 3))) fun v10 => oLet (sV (vUn .neg (xC v10))) fun v11 => oSet 3 (sV ((xC v11))) fun v3 => oEnd))
 (cOps (oSet 4 (sV ((xC (.str [45])))) fun v4 => oEnd)))
 cSkip))
 (cSeq (cOps (oSet 5 (sV ((xC (.nilslice)))) fun v5 => oEnd))
 (cSeq (cBlock 0 (cLoop Tryz.l25_0))
 (cSeq (cOps (oLet (sV ((xW 4))) fun v28 => oLet (sV ((xW 5))) fun v29 => oLet (sL (lToStr (xC v29))) fun v30 => oLet (sV (vStr .add (xC v28) (xC v30))) fun v31 => oSet 2 (sV ((xC v31))) fun v2 => oEnd))
 cRet))))))), [.tmp (way 2)]⟩ := rfl
theorem Tryz.k26_eq : Tryz.k26 = ⟨[(way 0)], (cSeq (cOps (oSet 1 (sN (aBox (xW 0))) fun v1 => oSet 2 (sV ((xC (.str [])))) fun v2 => oEnd))
 (cScope (cSeq (cOps (oSet 3 (sV ((xC (.str [111, 107])))) fun v3 => oEnd))
 (cSeq (cSeq (cOps (oLet (sV (vAddr 0 (xW 1))) fun v4 => oLet (sL (lLoad none (xC v4))) fun v5 => oSet 6 (sV (vEq .i64 (xC v5) (xC (.int .i64 0)))) fun v6 => oEnd))
 (cCond (xW 6) (cGoto 0)
 cSkip))
 (cSeq (cOps (oLet (sV (vAddr 0 (xW 1))) fun v7 => oLet (sL (lLoad none (xC v7))) fun v8 => oLet (sC 64 [(xC v8)]) fun v9 => oLet (sV (vStr .add (xC (.str [101, 114, 114, 111, 114, 32])) (xC v9))) fun v10 => oSet 3 (sV ((xC v10))) fun v3 => oEnd))
 (cSeq (cSeq (cOps (oLet (sV (vAddr 0 (xW 1))) fun v11 => oLet (sL (lLoad none (xC v11))) fun v12 => oSet 13 (sV (vEq .i64 (xC v12) (xC (.int .i64 9)))) fun v13 => oEnd))
 (cCond (xW 13) (cSeq (cOps (oLet (sV ((xW 3))) fun v14 => oLet (sV (vAddr 3 (xW 1))) fun v15 => oSee (seeL (lLoad none (xC v15))) fun q2 => oLet (sLo [] 0 (lLoad none (xC v15))) fun v16 => oLet (sV (vStr .add (xC (.str [32])) (xC v16))) fun v17 => oLet (sV (vStr .add (xC v17) (xC (.str [32])))) fun v18 => oLet (sV (vAddr 4 (xW 1))) fun v19 => oLet (sL (lLoad none (xC v19))) fun v20 => oCap fun c7 => oLet (sC 64 [(xC v20)]) fun v21 => oCap fun d7 => oLate [q2] <| oLet (sV (vStr .add (xC v18) (xC v21))) fun v22 => oLet (sV (vStr .add (xC v22) (xC (.str [32])))) fun v23 => oLet (sV (vAddr 5 (xW 1))) fun v24 => oLet (sLo [c7] d7.next (lLoad none (xC v24))) fun v25 => oCap fun c12 => oLet (sC 64 [(xC v25)]) fun v26 => oCap fun d12 => oLate [q2] <| oLet (sV (vStr .add (xC v23) (xC v26))) fun v27 => oLet (sV (vStr .add (xC v14) (xC v27))) fun v28 => oSet 3 (sV ((xC v28))) fun v3 => oEnd))
 (cGoto 0))
 cSkip))
 (cSeq (cOps (oLet (sV ((xW 3))) fun v29 => oLet (sV (vAddr 1 (xW 1))) fun v30 => oLet (sL (lLoad none (xC v30))) fun v31 => oCap fun c3 => oLet (sC 64 [(xC v31)]) fun v32 => oCap fun d3 => oLet (sV (vStr .add (xC (.str [32])) (xC v32))) fun v33 => oLet (sV (vStr .add (xC v33) (xC (.str [32])))) fun v34 => oLet (sV (vAddr 2 (xW 1))) fun v35 => oLet (sLo [c3] d3.next (lLoad none (xC v35))) fun v36 => oCap fun c8 => oLet (sC 64 [(xC v36)]) fun v37 => oCap fun d8 => oLet (sV (vStr .add (xC v34) (xC v37))) fun v38 => oLet (sV (vStr .add (xC v29) (xC v38))) fun v39 => oSet 3 (sV ((xC v39))) fun v3 => oEnd))
 (cSeq cSkip
 (cSeq (cOps (oLet (sV ((xW 3))) fun v40 => oSet 2 (sV ((xC v40))) fun v2 => oEnd))
 cRet))))))) [(0, (cSeq cSkip
 (cSeq (cOps (oLet (sV ((xW 3))) fun v40 => oSet 2 (sV ((xC v40))) fun v2 => oEnd))
 cRet)))])), [.tmp (way 2)]⟩ := rfl
end
end Go.Proofs
