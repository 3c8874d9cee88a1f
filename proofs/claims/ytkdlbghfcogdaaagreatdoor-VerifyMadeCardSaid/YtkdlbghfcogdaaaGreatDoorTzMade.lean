/- VerifyMade: what it answers, by the kernel, at each remainder of its first argument. -/
import Derived.Test.YtkdlbghfcogdaaaGreatDoorTzY
set_option linter.unusedVariables false
set_option linter.unusedSimpArgs false
set_option linter.unusedSectionVars false
namespace Go.Proofs
open Go.Sh
set_option linter.unusedVariables false
set_option maxRecDepth 100000
noncomputable section
def Tryz.s4_0 : Cd := (cOps (oSet 4 (sV ((xC (.bool false)))) fun v4 => oEnd))
def Tryz.s4_1 : Cd := (cOps (oLet (sV (vFill [.int .i64 0, .int .i64 0, .int .i64 0, .str [], .str [], .str []] [(0, 1)] [(xC (.int .i64 36))])) fun v16 => oLet (sN (aRow 1 6 [6] [(xC v16)])) fun v17 => oLet (sV (vFill [.str [], .str [], .bool false, .bool false, .int .i64 0, .int .i64 0, .nilslice, .nilslice] [(0, 1), (1, 1), (5, 1), (6, 1)] [(xC (.str [60, 105, 110, 105, 116, 62])), (xC (.str [40, 41, 86])), (xC (.int .i64 1)), (xC v17)])) fun v18 => oSet 5 (sN (aAlloc [.str [], .str [], .bool false, .bool false, .int .i64 0, .int .i64 0, .nilslice, .nilslice])) fun v5 => oDo (sM (tStore 8 (xC v5) (xC v18))) (oEnd)))
def Tryz.s4_2 : Cd := (cOps (oLet (sV (vFill [.str [], .str [], .bool false] [(0, 1), (1, 1)] [(xC (.str [102])), (xC (.str [76, 65, 59]))])) fun v20 => oLet (sN (aRow 1 3 [3] [(xC v20)])) fun v21 => oLet (sL (lLoad (some 8) (xW 5))) fun v22 => oLet (sN (aRow 1 8 [8] [(xC v22)])) fun v23 => oLet (sV (vFill [.str [], .str [], .bool false, .bool false, .nilslice, .nilslice, .nilslice] [(0, 1), (1, 1), (5, 1), (6, 1)] [(xC (.str [65])), (xC (.str [79, 98, 106, 101, 99, 116])), (xC v21), (xC v23)])) fun v24 => oLet (sN (aRow 1 7 [7] [(xC v24)])) fun v25 => oLet (sC 12 [(xC v25)]) fun v26 => oLet (sV (vExtract 0 (xC v26))) fun v27 => oLet (sV (vExtract 1 (xC v26))) fun v28 => oLet (sV (vExtract 2 (xC v26))) fun v29 => oSet 6 (sV ((xC v27))) fun v6 => oSet 7 (sV ((xC v28))) fun v7 => oEnd))
def Tryz.s4_3 : Cd := (cOps (oLet (sV ((xW 7))) fun v30 => oLet (sV (vNe .i64 (xC v30) (xC (.int .i64 0)))) fun v31 => oLet (sG (xC v31) false (sV ((xW 6)))) fun v33 => oLet (sG (xC v31) false (sL (lEq (.ptr true) (xC v33) (xC (.nilptr))))) fun v34 => oSet 35 (sV (vPick (xC v31) (xC (.bool true)) (xC v34))) fun v35 => oEnd))
def Tryz.s4_4 : Cd := (cCond (xW 35) (cSeq (cOps (oSet 4 (sV ((xC (.bool false)))) fun v4 => oEnd))
 cRet)
 cSkip)
def Tryz.s4_5 : Cd := (cOps (oLet (sV (vFill [.int .i64 0, .int .i64 0, .int .i64 0, .str [], .str [], .str []] [(0, 1), (3, 1), (4, 1), (5, 1)] [(xC (.int .i64 33)), (xC (.str [65])), (xC (.str [60, 105, 110, 105, 116, 62])), (xC (.str [40, 41, 86]))])) fun v36 => oSet 9 (sN (aAlloc [.int .i64 0, .int .i64 0, .int .i64 0, .str [], .str [], .str []])) fun v9 => oDo (sM (tStore 6 (xC v9) (xC v36))) (oEnd)))
def Tryz.s4_6 : Cd := (cOps (oLet (sV (vFill [.int .i64 0, .int .i64 0, .int .i64 0, .str [], .str [], .str []] [(0, 1), (3, 1)] [(xC (.int .i64 21)), (xC (.str [65]))])) fun v37 => oLet (sV (vFill [.int .i64 0, .int .i64 0, .int .i64 0, .str [], .str [], .str []] [(0, 1)] [(xC (.int .i64 8))])) fun v38 => oLet (sN (aRow 2 6 [6, 6] [(xC v37), (xC v38)])) fun v39 => oSet 10 (sV ((xC v39))) fun v10 => oEnd))
def Tryz.s4_7 : Cd := (cOps (oSet 40 (sV ((xW 1))) fun v40 => oEnd))
def Tryz.s4_8 : Cd := (cCond (xW 40) (cOps (oLet (sV ((xW 10))) fun v41 => oLet (sV (vFill [.int .i64 0, .int .i64 0, .int .i64 0, .str [], .str [], .str []] [(0, 1)] [(xC (.int .i64 8))])) fun v42 => oLet (sV (vFill [.int .i64 0, .int .i64 0, .int .i64 0, .str [], .str [], .str []] [(0, 1), (1, 1)] [(xC (.int .i64 6)), (xC (.int .i64 0))])) fun v43 => oLet (sN (aRow 2 6 [6, 6] [(xC v42), (xC v43)])) fun v44 => oLet (sM (tAppend 72 6 (xC v41) (xC v44))) fun v45 => oSet 10 (sV ((xC v45))) fun v10 => oEnd))
 cSkip)
def Tryz.s4_9 : Cd := (cOps (oSet 11 (sV ((xC (.bool false)))) fun v11 => oEnd))
def Tryz.r4 : OF := (oLet (sV ((xW 0))) fun v46 => oSet 47 (sC 13 [(xC v46), (xC (.int .i64 4))]) fun v47 => oEnd)
def Tryz.s4_11 : Cd := (cBlock 0 (cSeq (cOps (oLet (sV (vEq .i64 (xW 47) (xC (.int .i64 0)))) fun v49 => oSet 48 (sV ((xC v49))) fun v48 => oEnd))
 (cCond (xW 48) (cSeq (cOps (oLet (sV ((xW 10))) fun v50 => oLet (sL (lLoad (some 6) (xW 9))) fun v51 => oLet (sV (vFill [.int .i64 0, .int .i64 0, .int .i64 0, .str [], .str [], .str []] [(0, 1), (3, 1), (4, 1), (5, 1)] [(xC (.int .i64 22)), (xC (.str [65])), (xC (.str [102])), (xC (.str [76, 65, 59]))])) fun v52 => oLet (sV (vFill [.int .i64 0, .int .i64 0, .int .i64 0, .str [], .str [], .str []] [(0, 1)] [(xC (.int .i64 7))])) fun v53 => oLet (sN (aRow 3 6 [6, 6, 6] [(xC v51), (xC v52), (xC v53)])) fun v54 => oLet (sM (tAppend 72 6 (xC v50) (xC v54))) fun v55 => oSet 10 (sV ((xC v55))) fun v10 => oEnd))
 (cSeq (cOps (oSet 11 (sV ((xC (.bool true)))) fun v11 => oEnd))
 (cSeq (cOps (oSet 56 (sV ((xW 1))) fun v56 => oEnd))
 (cCond (xW 56) (cOps (oLet (sV ((xW 10))) fun v57 => oLet (sV (vFill [.int .i64 0, .int .i64 0, .int .i64 0, .str [], .str [], .str []] [(0, 1), (1, 1)] [(xC (.int .i64 5)), (xC (.int .i64 0))])) fun v58 => oLet (sV (vFill [.int .i64 0, .int .i64 0, .int .i64 0, .str [], .str [], .str []] [(0, 1), (3, 1), (4, 1), (5, 1)] [(xC (.int .i64 22)), (xC (.str [65])), (xC (.str [102])), (xC (.str [76, 65, 59]))])) fun v59 => oLet (sV (vFill [.int .i64 0, .int .i64 0, .int .i64 0, .str [], .str [], .str []] [(0, 1)] [(xC (.int .i64 7))])) fun v60 => oLet (sN (aRow 3 6 [6, 6, 6] [(xC v58), (xC v59), (xC v60)])) fun v61 => oLet (sM (tAppend 72 6 (xC v57) (xC v61))) fun v62 => oSet 10 (sV ((xC v62))) fun v10 => oEnd))
 cSkip))))
 (cSeq (cOps (oLet (sV (vEq .i64 (xW 47) (xC (.int .i64 1)))) fun v64 => oSet 63 (sV ((xC v64))) fun v63 => oEnd))
 (cCond (xW 63) (cOps (oLet (sV ((xW 10))) fun v65 => oLet (sV (vFill [.int .i64 0, .int .i64 0, .int .i64 0, .str [], .str [], .str []] [(0, 1), (3, 1), (4, 1), (5, 1)] [(xC (.int .i64 22)), (xC (.str [65])), (xC (.str [102])), (xC (.str [76, 65, 59]))])) fun v66 => oLet (sV (vFill [.int .i64 0, .int .i64 0, .int .i64 0, .str [], .str [], .str []] [(0, 1)] [(xC (.int .i64 7))])) fun v67 => oLet (sL (lLoad (some 6) (xW 9))) fun v68 => oLet (sN (aRow 3 6 [6, 6, 6] [(xC v66), (xC v67), (xC v68)])) fun v69 => oLet (sM (tAppend 72 6 (xC v65) (xC v69))) fun v70 => oSet 10 (sV ((xC v70))) fun v10 => oEnd))
 (cSeq (cOps (oLet (sV (vEq .i64 (xW 47) (xC (.int .i64 2)))) fun v72 => oSet 71 (sV ((xC v72))) fun v71 => oEnd))
 (cCond (xW 71) (cOps (oLet (sV ((xW 10))) fun v73 => oLet (sL (lLoad (some 6) (xW 9))) fun v74 => oLet (sL (lLoad (some 6) (xW 9))) fun v75 => oLet (sN (aRow 2 6 [6, 6] [(xC v74), (xC v75)])) fun v76 => oLet (sM (tAppend 72 6 (xC v73) (xC v76))) fun v77 => oSet 10 (sV ((xC v77))) fun v10 => oEnd))
 (cSeq (cOps (oLet (sV (vEq .i64 (xW 47) (xC (.int .i64 3)))) fun v79 => oSet 78 (sV ((xC v79))) fun v78 => oEnd))
 (cCond (xW 78) (cOps (oLet (sV ((xW 10))) fun v80 => oLet (sV (vFill [.int .i64 0, .int .i64 0, .int .i64 0, .str [], .str [], .str []] [(0, 1), (3, 1), (4, 1), (5, 1)] [(xC (.int .i64 33)), (xC (.str [79, 98, 106, 101, 99, 116])), (xC (.str [60, 105, 110, 105, 116, 62])), (xC (.str [40, 41, 86]))])) fun v81 => oLet (sV (vFill [.int .i64 0, .int .i64 0, .int .i64 0, .str [], .str [], .str []] [(0, 1)] [(xC (.int .i64 7))])) fun v82 => oLet (sN (aRow 2 6 [6, 6] [(xC v81), (xC v82)])) fun v83 => oLet (sM (tAppend 72 6 (xC v80) (xC v83))) fun v84 => oSet 10 (sV ((xC v84))) fun v10 => oEnd))
 cSkip)))))))))
def Tryz.s4_12 : Cd := (cOps (oLet (sV ((xW 10))) fun v85 => oLet (sV (vFill [.int .i64 0, .int .i64 0, .int .i64 0, .str [], .str [], .str []] [(0, 1)] [(xC (.int .i64 36))])) fun v86 => oLet (sN (aRow 1 6 [6] [(xC v86)])) fun v87 => oLet (sM (tAppend 72 6 (xC v85) (xC v87))) fun v88 => oSet 10 (sV ((xC v88))) fun v10 => oEnd))
def Tryz.s4_13 : Cd := (cOps (oLet (sV ((xW 6))) fun v90 => oLet (sV ((xW 10))) fun v91 => oLet (sC 15 [(xC (.int .i64 3)), (xC (.int .i64 1)), (xC v91)]) fun v92 => oLet (sC 14 [(xC v90), (xC (.str [65])), (xC v92)]) fun v93 => oLet (sV (vExtract 0 (xC v93))) fun v94 => oLet (sV (vExtract 1 (xC v93))) fun v95 => oLet (sV (vExtract 2 (xC v93))) fun v96 => oLet (sV (vExtract 3 (xC v93))) fun v97 => oSet 15 (sN (aAlloc [.str [], .int .i64 0, .int .i64 0])) fun v15 => oSet 14 (sV ((xC v96))) fun v14 => oDo (sM (tStore 3 (xC v15) (xC v97))) (oEnd)))
def Tryz.s4_14 : Cd := (cOps (oSet 98 (sV ((xW 11))) fun v98 => oEnd))
def Tryz.s4_15 : Cd := (cCond (xW 98) (cSeq (cOps (oLet (sV ((xW 14))) fun v99 => oLet (sV (vEq .i64 (xC v99) (xC (.int .i64 0)))) fun v100 => oLet (sG (xC v100) true (sC 16 [])) fun v102 => oLet (sV (vPick (xC v100) (xC v102) (xC (.bool false)))) fun v103 => oSet 4 (sV ((xC v103))) fun v4 => oEnd))
 cRet)
 cSkip)
def Tryz.s4_16 : Cd := (cOps (oLet (sV ((xW 14))) fun v104 => oLet (sV (vEq .i64 (xC v104) (xC (.int .i64 9)))) fun v105 => oLet (sG (xC v105) true (sV (vAddr 2 (xW 15)))) fun v107 => oLet (sG (xC v105) true (sL (lLoad none (xC v107)))) fun v108 => oLet (sG (xC v105) true (sV (vEq .i64 (xC v108) (xC (.int .i64 2))))) fun v109 => oLet (sV (vPick (xC v105) (xC v109) (xC (.bool false)))) fun v110 => oLet (sG (xC v110) true (sC 16 [])) fun v112 => oLet (sV (vPick (xC v110) (xC v112) (xC (.bool false)))) fun v113 => oSet 4 (sV ((xC v113))) fun v4 => oEnd))
def Tryz.s4_17 : Cd := cRet

def Tryz.a4 : Cd := (cSeq Tryz.s4_0 (cSeq Tryz.s4_1 (cSeq Tryz.s4_2 (cSeq Tryz.s4_3 (cSeq Tryz.s4_4 (cSeq Tryz.s4_5 (cSeq Tryz.s4_6 (cSeq Tryz.s4_7 (cSeq Tryz.s4_8 Tryz.s4_9)))))))))
def Tryz.b4 : Cd := (cSeq Tryz.s4_11 (cSeq Tryz.s4_12 (cSeq Tryz.s4_13 (cSeq Tryz.s4_14 (cSeq Tryz.s4_15 (cSeq Tryz.s4_16 Tryz.s4_17))))))
def Tryz.q4 (r : Int) : OF := oSet 47 (sV (xC (.int .i64 r))) fun _ => oEnd
theorem Tryz.cut4 : Tryz.k4.body = cSeq Tryz.a4 (cSeq (cOps Tryz.r4) Tryz.b4) := by
  show cSeq Tryz.s4_0 (cSeq Tryz.s4_1 (cSeq Tryz.s4_2 (cSeq (cSeq Tryz.s4_3 Tryz.s4_4) (cSeq Tryz.s4_5 (cSeq Tryz.s4_6 (cSeq (cSeq Tryz.s4_7 Tryz.s4_8) (cSeq Tryz.s4_9 (cSeq (cSeq (cOps Tryz.r4) Tryz.s4_11) (cSeq Tryz.s4_12 (cSeq Tryz.s4_13 (cSeq (cSeq Tryz.s4_14 Tryz.s4_15) (cSeq Tryz.s4_16 (Tryz.s4_17))))))))))))) = _
  simp only [Tryz.a4, Tryz.b4, cSeq_assoc]
def Tryz.in4 (k : Int) (b : Bool) : T := setP (way 1) (.bool b) (setP (way 0) (.int .i64 k) .leaf)
theorem Tryz.mid4 {k r : Int} (hr : k.emod 4 = r) (n : Nat) (t : T) (h : H) (m : Nat) (K : T → H → FR) (ht : getP (way 0) t = some (.int .i64 k)) : Tryz.r4 (kcall Tryz.kTab.get Tryz.X2 (n + 1)) m t h K = Tryz.q4 r (kcall Tryz.kTab.get Tryz.X2 (n + 1)) m t h K := by
  unfold Tryz.r4 Tryz.q4
  simp only [kr, ht, Tryz.round hr]
theorem Tryz.before4 (k : Int) (b : Bool) : (match Tryz.a4 50001 (kcall Tryz.kTab.get Tryz.X2 50000) (Tryz.in4 k b) .empty with
  | some (.normal, t, _) => getP (way 0) t
  | _ => none) = some (.int .i64 k) := by cases b <;> kernel_rfl
theorem Tryz.after4_0 (k : Int) (b : Bool) : (kfin [.tmp (way 4)] (knext (Tryz.a4 50001 (kcall Tryz.kTab.get Tryz.X2 50000) (Tryz.in4 k b) .empty) fun t h => knext (Tryz.q4 0 (kcall Tryz.kTab.get Tryz.X2 50000) h.next t h fun t h => some (.normal, t, h)) (Tryz.b4 50001 (kcall Tryz.kTab.get Tryz.X2 50000)))).map (·.1) = some (.bool true) := by cases b <;> kernel_rfl
theorem Tryz.after4_1 (k : Int) (b : Bool) : (kfin [.tmp (way 4)] (knext (Tryz.a4 50001 (kcall Tryz.kTab.get Tryz.X2 50000) (Tryz.in4 k b) .empty) fun t h => knext (Tryz.q4 1 (kcall Tryz.kTab.get Tryz.X2 50000) h.next t h fun t h => some (.normal, t, h)) (Tryz.b4 50001 (kcall Tryz.kTab.get Tryz.X2 50000)))).map (·.1) = some (.bool true) := by cases b <;> kernel_rfl
theorem Tryz.after4_2 (k : Int) (b : Bool) : (kfin [.tmp (way 4)] (knext (Tryz.a4 50001 (kcall Tryz.kTab.get Tryz.X2 50000) (Tryz.in4 k b) .empty) fun t h => knext (Tryz.q4 2 (kcall Tryz.kTab.get Tryz.X2 50000) h.next t h fun t h => some (.normal, t, h)) (Tryz.b4 50001 (kcall Tryz.kTab.get Tryz.X2 50000)))).map (·.1) = some (.bool true) := by cases b <;> kernel_rfl
theorem Tryz.after4_3 (k : Int) (b : Bool) : (kfin [.tmp (way 4)] (knext (Tryz.a4 50001 (kcall Tryz.kTab.get Tryz.X2 50000) (Tryz.in4 k b) .empty) fun t h => knext (Tryz.q4 3 (kcall Tryz.kTab.get Tryz.X2 50000) h.next t h fun t h => some (.normal, t, h)) (Tryz.b4 50001 (kcall Tryz.kTab.get Tryz.X2 50000)))).map (·.1) = some (.bool true) := by cases b <;> kernel_rfl
theorem Tryz.run4 (k : Int) (b : Bool) : ∃ h', kcall Tryz.kTab.get Tryz.X2 50001 4 [.int .i64 k, .bool b] .empty = some (.bool true, h') := by
  rw [kcall_run (kf := Tryz.k4) (by kernel_rfl) (by kernel_rfl)]
  have h5 : 0 ≤ k % 4 := Int.emod_nonneg k (by decide)
  have h6 : k % 4 < 4 := Int.emod_lt_of_pos k (by decide)
  have h7 : k.emod 4 = 0 ∨ k.emod 4 = 1 ∨ k.emod 4 = 2 ∨ k.emod 4 = 3 := by
    show k % 4 = 0 ∨ k % 4 = 1 ∨ k % 4 = 2 ∨ k % 4 = 3
    omega
  rcases h7 with h7 | h7 | h7 | h7
  · exact enter_cut (sel := getP (way 0)) (x := some (.int .i64 k)) (dflt := none) (t0 := Tryz.in4 k b) (R' := Tryz.q4 0) Tryz.cut4 rfl (fun t h m K e => Tryz.mid4 h7 49999 t h m K e) (Tryz.before4 k b) (by simp) (Tryz.after4_0 k b)
  · exact enter_cut (sel := getP (way 0)) (x := some (.int .i64 k)) (dflt := none) (t0 := Tryz.in4 k b) (R' := Tryz.q4 1) Tryz.cut4 rfl (fun t h m K e => Tryz.mid4 h7 49999 t h m K e) (Tryz.before4 k b) (by simp) (Tryz.after4_1 k b)
  · exact enter_cut (sel := getP (way 0)) (x := some (.int .i64 k)) (dflt := none) (t0 := Tryz.in4 k b) (R' := Tryz.q4 2) Tryz.cut4 rfl (fun t h m K e => Tryz.mid4 h7 49999 t h m K e) (Tryz.before4 k b) (by simp) (Tryz.after4_2 k b)
  · exact enter_cut (sel := getP (way 0)) (x := some (.int .i64 k)) (dflt := none) (t0 := Tryz.in4 k b) (R' := Tryz.q4 3) Tryz.cut4 rfl (fun t h m K e => Tryz.mid4 h7 49999 t h m K e) (Tryz.before4 k b) (by simp) (Tryz.after4_3 k b)
end
end Go.Proofs
