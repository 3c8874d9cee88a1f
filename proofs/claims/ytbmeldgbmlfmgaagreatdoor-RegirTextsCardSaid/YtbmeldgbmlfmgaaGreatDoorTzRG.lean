/- RegirTexts: the program's own text. -/
import Derived.Test.YtbmeldgbmlfmgaaGreatDoorTzRF
set_option linter.unusedVariables false
set_option linter.unusedSimpArgs false
set_option linter.unusedSectionVars false
namespace Go.Proofs
open Go.Sh
set_option linter.unusedVariables false
attribute [local instance] powHeld
noncomputable section
theorem lens_le : ∀ (zs : List Int), Lib.lens (regTs zs) ≤ 22 * zs.length
  | [] => Nat.le_refl _
  | z :: zs => by
    have := lens_le zs
    have := itoaS_len z
    show (114 :: itoaS z).length + Lib.lens (regTs zs) ≤ _
    simp; omega
theorem Tryz.text6 {h : H} {v : SV} {zs : List Int} (w : Src h v zs) {op dst to : Int} (hd : I64 dst) (ht : I64 to) (o : List SV) :
    ∃ r h', Tryz.l2 6 [.agg (insCells op dst v to o)] h = some (r, h') ∧ TextRes h (insText op dst zs to) r h' := by
  generalize hh1 : h.push (.cells (insCells op dst v to o) .fixed) = h1
  have n1 : h1.next = h.next + 1 := by rw [← hh1]; rfl
  have f1 := calm_push hh1
  have hb : rowCells h1.get h.next = some (insCells op dst v to o) := rowCells_fixed (get_pushed hh1)
  have hld := loadB hb
  have ld0 : loadV none h1.get (.ptr h.next 0) = some (.int .i64 op) := hld 0
  have ld1 : loadV none h1.get (.ptr h.next 1) = some (.int .i64 dst) := hld 1
  have ld2 : loadV none h1.get (.ptr h.next 2) = some v := hld 2
  have w1 := w.keep f1
  have hlv := w1.view.length
  have hfew := w.few
  have hw := Tryz.word2 op h1
  have hlw := wordOf_len op
  have hdd := Tryz.reg2 hd h1
  have hld1 := itoaS_len dst
  have hlt := itoaS_len to
  have hj := Tryz.jump2 op
  have hsl := srcText_len zs 0
  obtain ⟨s0, hs0⟩ : ∃ s0, s0 = if dst = -1 then wordOf op else [114] ++ itoaS dst ++ [32, 61, 32] ++ wordOf op := ⟨_, rfl⟩
  obtain ⟨s1, hs1⟩ : ∃ s1, s1 = s0 ++ srcText 0 zs := ⟨_, rfl⟩
  have hl0 : s0.length ≤ 100 := by
    rw [hs0]
    split
    · omega
    · simp; omega
  have hl1 : s1.length ≤ 1000 := by rw [hs1]; simp; omega
  have hfin : insText op dst zs to = s1 ++ (if jmp op = true then [32, 45, 62, 32] ++ itoaS to else []) := by rw [hs1, hs0]; rfl
  rw [hfin]
  have hk : ∀ s h2, Fr (h1.next ≤ ·) (h1.next ≤ ·) h1 h2 → s = s1 ++ (if jmp op = true then [32, 45, 62, 32] ++ itoaS to else []) → TextRes h (s1 ++ (if jmp op = true then [32, 45, 62, 32] ++ itoaS to else [])) (.str s) h2 := fun s h2 f e => ⟨by rw [e], Fr.new f1 f (fun q hq => by omega) (fun q hq => by omega)⟩
  generalize hK : TextRes h (s1 ++ (if jmp op = true then [32, 45, 62, 32] ++ itoaS to else [])) = K at *
  refine Go.Sh.enG Tryz.kTab_ok (X := Tryz.X2) (kf := Tryz.k6) rfl (by kernel_rfl) 30 Tryz.k6_eq rfl ?_
  have main : ∀ (t0 : T) (R : T → H → FR) (Q : Flow → T → H → Prop), getP (way 1) t0 = some (.ptr h.next 0) → getP (way 3) t0 = some (.str s0) → getP (way 4) t0 = some .nilslice → getP (way 20) t0 = some v → getP (way 21) t0 = some (.int .i64 zs.length) → getP (way 22) t0 = some (.int .i64 0) →
      (∀ t' h2 g, Fr (h1.next ≤ ·) (h1.next ≤ ·) h1 h2 → Gro h2 h1.next 1 g zs.length (strs (regTs zs)) → getP (way 1) t' = some (.ptr h.next 0) → getP (way 3) t' = some (.str s0) → getP (way 4) t' = some g → Gets (R t' h2) Q) → Gets (knext (kleave 0 (cLoop Tryz.l6_0 30 Tryz.l2 t0 h1)) R) Q := by
    intro t0 R Q t1 t3 t4 t20 t21 t22 hR
    refine gets_next (gets_leave (Gets.mono (Tryz.loop6 w1 zs.length 0 30 h1 .nilslice t0 (by omega) (by omega) .refl .nil t20 t21 t22 t4) fun fl t' h' ⟨b1, b2, b3, b4, g, b5, b6⟩ => ?_))
    subst b1
    simp only [if_true]
    exact hR t' h' g b2 b6 (b3.trans t1) (b4.trans t3) b5
  have rest : ∀ (t' : T) (h2 : H) (g : SV), Fr (h1.next ≤ ·) (h1.next ≤ ·) h1 h2 → Gro h2 h1.next 1 g zs.length (strs (regTs zs)) → getP (way 1) t' = some (.ptr h.next 0) → getP (way 3) t' = some (.str s0) → getP (way 4) t' = some g →
      Gets (cSeq (cOps (oLet (sV ((xW 4))) fun v32 => oLet (sV (vLen (xC v32))) fun v33 => oSet 34 (sV (vGt .i64 (xC v33) (xC (.int .i64 0)))) fun v34 => oEnd))
 (cCond (xW 34) (cOps (oLet (sV ((xW 3))) fun v35 => oLet (sV ((xW 4))) fun v36 => oLet (sC 13 [(xC v36), (xC (.str [44, 32]))]) fun v37 => oLet (sV (vStr .add (xC (.str [32])) (xC v37))) fun v38 => oLet (sV (vStr .add (xC v35) (xC v38))) fun v39 => oSet 3 (sV ((xC v39))) fun v3 => oEnd))
 cSkip) 30 Tryz.l2 t' h2) fun fl t3 h3 => fl = .normal ∧ h3 = h2 ∧ getP (way 1) t3 = some (.ptr h.next 0) ∧ getP (way 3) t3 = some (.str s1) := by
    intro t' h2 g f2 gr t1 t3 t4
    have hlg := gr.view.length
    cases zs with
    | nil =>
      have e1 : ltI 0 0 = false := rfl
      have : s1 = s0 := by rw [hs1]; simp [srcText]
      have hlg : lenV g = some 0 := hlg
      simp [↓ kq, kq, ↓ ko, ko, ↓ kt, ↓ kz, kb, kv, kt, kx, t1, t3, t4, hlg, e1, gets_some, -bO_of, -bB_true, -bB_false, -H.next_push, -Int.natCast_add]
      exact this.symm
    | cons z zs =>
      have e1 : ltI 0 (((z :: zs).length : Nat) : Int) = true := ltIt (by simp)
      have hle := lens_le (z :: zs)
      have hjl : (Lib.join (regTs (z :: zs)) [44, 32]).length ≤ 1000 := by
        show (Lib.join ((114 :: itoaS z) :: regTs zs) [44, 32]).length ≤ 1000
        rw [Lib.join_length]
        have e3 : Lib.lens ((114 :: itoaS z) :: regTs zs) = Lib.lens (regTs (z :: zs)) := rfl
        rw [e3]
        have : (regTs zs).length = zs.length := by simp [regTs]
        rw [this]
        simp at hfew hle ⊢
        omega
      have hln : (regTs (z :: zs)).length = (z :: zs).length := by simp [regTs]
      have jv := join_view (v := g) (by rw [hln]; exact gr.view) [44, 32] (by rw [hln]; omega) (by omega)
      rw [← Tryz.join2] at jv
      have hsr : srcText 0 (z :: zs) = [32] ++ Lib.join (regTs (z :: zs)) [44, 32] := srcText_join z zs
      have a1 := add_some hsr (by simp; omega)
      have a2 := add_some hs1 (by omega)
      generalize Lib.join (regTs (z :: zs)) [44, 32] = J at *
      generalize srcText 0 (z :: zs) = J2 at *
      generalize (z :: zs).length = n at *
      simp [↓ kq, kq, ↓ ko, ko, ↓ kt, ↓ kz, kb, kv, kt, kx, t1, t3, t4, hlg, e1, jv, a1, a2, gets_some, -bO_of, -bB_true, -bB_false, -H.next_push, -Int.natCast_add]
  by_cases hd1 : dst = -1
  · rw [if_pos hd1] at hs0
    rw [← hs0] at hw
    have e1 : eqI dst (-1) = true := eqIt hd1
    simp [↓ kq, kq, ↓ ko, ko, ↓ kt, ↓ kz, kb, kv, kt, kx, hh1, ld0, ld1, ld2, hlv, hw, e1, -bO_of, -bB_true, -bB_false, -H.next_push, -Int.natCast_add]
    refine main _ _ _ (by simp [kq, kb]) (by simp [kq, kb]) (by simp [kq, kb]) (by simp [kq, kb]) (by simp [kq, kb]) (by simp [kq, kb]) fun t' h2 g f12 gr c1 c3 c4 => ?_
    have hb2 := (rowCells_keep f12 (by omega) (by omega)).trans hb
    have hm := loadB hb2
    have m0 : loadV none h2.get (.ptr h.next 0) = some (.int .i64 op) := hm 0
    have m3 : loadV none h2.get (.ptr h.next 3) = some (.int .i64 to) := hm 3
    have hj := hj h2
    show Gets (knext _ _) _
    refine gets_next (Gets.mono (rest t' h2 g f12 gr c1 c3 c4) fun fl t3 h3 ⟨q1, q2, b1, b3⟩ => ?_)
    subst q1
    have q2 := q2.symm
    subst q2
    show Gets _ _
    cases ej : jmp op
    · rw [ej] at hj hk
      simp [↓ kq, kq, ↓ ko, ko, ↓ kt, ↓ kz, kb, kv, kt, kx, b1, b3, m0, m3, hj, gets_some, kc, oneS, -bO_of, -bB_true, -bB_false, -H.next_push, -Int.natCast_add]
      exact hk _ h2 f12 (by simp)
    · rw [ej] at hj hk
      obtain ⟨s2, hs2⟩ : ∃ s2, s2 = [32, 45, 62, 32] ++ itoaS to := ⟨_, rfl⟩
      obtain ⟨s3, hs3⟩ : ∃ s3, s3 = s1 ++ s2 := ⟨_, rfl⟩
      have a2 := add_some hs2 (by simp; omega)
      have a3 := add_some hs3 (by rw [hs2]; simp; omega)
      have hk3 := hk s3 h2 f12 (by rw [hs3, hs2]; simp)
      have hdt := Tryz.itoa2 ht h2
      generalize itoaS to = q at *
      simp [↓ kq, kq, ↓ ko, ko, ↓ kt, ↓ kz, kb, kv, kt, kx, b1, b3, m0, m3, hj, hdt, a2, a3, gets_some, kc, oneS, -bO_of, -bB_true, -bB_false, -H.next_push, -Int.natCast_add]
      exact hk3
  · rw [if_neg hd1] at hs0
    have e1 : eqI dst (-1) = false := eqIf hd1
    obtain ⟨p2, hp2⟩ : ∃ p2, p2 = (114 :: itoaS dst) ++ [32, 61, 32] := ⟨_, rfl⟩
    have hs0 : s0 = p2 ++ wordOf op := by rw [hp2]; exact hs0
    have g2 := add_some hp2 (by simp; omega)
    have g3 := add_some hs0 (by rw [hp2]; simp; omega)
    generalize wordOf op = wo at *
    generalize hqd : 114 :: itoaS dst = qd at *
    simp [↓ kq, kq, ↓ ko, ko, ↓ kt, ↓ kz, kb, kv, kt, kx, hh1, ld0, ld1, ld2, hlv, hw, e1, hdd, g2, g3, -bO_of, -bB_true, -bB_false, -H.next_push, -Int.natCast_add]
    refine main _ _ _ (by simp [kq, kb]) (by simp [kq, kb]) (by simp [kq, kb]) (by simp [kq, kb]) (by simp [kq, kb]) (by simp [kq, kb]) fun t' h2 g f12 gr c1 c3 c4 => ?_
    have hb2 := (rowCells_keep f12 (by omega) (by omega)).trans hb
    have hm := loadB hb2
    have m0 : loadV none h2.get (.ptr h.next 0) = some (.int .i64 op) := hm 0
    have m3 : loadV none h2.get (.ptr h.next 3) = some (.int .i64 to) := hm 3
    have hj := hj h2
    show Gets (knext _ _) _
    refine gets_next (Gets.mono (rest t' h2 g f12 gr c1 c3 c4) fun fl t3 h3 ⟨q1, q2, b1, b3⟩ => ?_)
    subst q1
    have q2 := q2.symm
    subst q2
    show Gets _ _
    cases ej : jmp op
    · rw [ej] at hj hk
      simp [↓ kq, kq, ↓ ko, ko, ↓ kt, ↓ kz, kb, kv, kt, kx, b1, b3, m0, m3, hj, gets_some, kc, oneS, -bO_of, -bB_true, -bB_false, -H.next_push, -Int.natCast_add]
      exact hk _ h2 f12 (by simp)
    · rw [ej] at hj hk
      obtain ⟨s2, hs2⟩ : ∃ s2, s2 = [32, 45, 62, 32] ++ itoaS to := ⟨_, rfl⟩
      obtain ⟨s3, hs3⟩ : ∃ s3, s3 = s1 ++ s2 := ⟨_, rfl⟩
      have a2 := add_some hs2 (by simp; omega)
      have a3 := add_some hs3 (by rw [hs2]; simp; omega)
      have hk3 := hk s3 h2 f12 (by rw [hs3, hs2]; simp)
      have hdt := Tryz.itoa2 ht h2
      generalize itoaS to = q at *
      simp [↓ kq, kq, ↓ ko, ko, ↓ kt, ↓ kz, kb, kv, kt, kx, b1, b3, m0, m3, hj, hdt, a2, a3, gets_some, kc, oneS, -bO_of, -bB_true, -bB_false, -H.next_push, -Int.natCast_add]
      exact hk3
end
end Go.Proofs
