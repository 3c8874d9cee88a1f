/- RegirTexts: the two texts agree. -/
import Derived.Test.YtbmeldgbmlfmgaaGreatDoorTzRE
set_option linter.unusedVariables false
set_option linter.unusedSimpArgs false
set_option linter.unusedSectionVars false
namespace Go.Proofs
open Go.Sh
set_option linter.unusedVariables false
attribute [local instance] powHeld
noncomputable section
theorem Tryz.text7 {h : H} {v : SV} {zs : List Int} (w : Src h v zs) {op dst to : Int} (hd : I64 dst) (ht : I64 to) (o : List SV) :
    ∃ r h', Tryz.l2 7 [.agg (insCells op dst v to o)] h = some (r, h') ∧ TextRes h (insText op dst zs to) r h' := by
  generalize hh1 : h.push (.cells (insCells op dst v to o) .fixed) = h1
  have f1 := calm_push hh1
  have hb : rowCells h1.get h.next = some (insCells op dst v to o) := rowCells_fixed (get_pushed hh1)
  have hld := loadB hb
  have ld0 : loadV none h1.get (.ptr h.next 0) = some (.int .i64 op) := hld 0
  have ld1 : loadV none h1.get (.ptr h.next 1) = some (.int .i64 dst) := hld 1
  have ld3 : loadV none h1.get (.ptr h.next 3) = some (.int .i64 to) := hld 3
  have w1 := w.keep f1
  have hfew := w.few
  have hw := Tryz.word3 op h1
  have hlw := wordOf_len op
  have hdd := Tryz.dec2 hd h1
  have hld1 := itoaS_len dst
  have hlt := itoaS_len to
  have hj := Tryz.jump3 op h1
  have hdt := Tryz.dec2 ht h1
  have hsl := srcText_len zs 0
  obtain ⟨s0, hs0⟩ : ∃ s0, s0 = if dst = -1 then wordOf op else [114] ++ itoaS dst ++ [32, 61, 32] ++ wordOf op := ⟨_, rfl⟩
  obtain ⟨s1, hs1⟩ : ∃ s1, s1 = s0 ++ srcText 0 zs := ⟨_, rfl⟩
  have hl0 : s0.length ≤ 100 := by
    rw [hs0]
    split
    · omega
    · simp; omega
  have hl1 : s1.length ≤ 1000 := by rw [hs1]; simp; omega
  have hfin : insText op dst zs to = s1 ++ (if jmp op = true then [32, 45, 62, 32] ++ itoaS to else []) := by rw [hs1, hs0]; rfl
  rw [hfin]
  have hk : ∀ s, s = s1 ++ (if jmp op = true then [32, 45, 62, 32] ++ itoaS to else []) → TextRes h (s1 ++ (if jmp op = true then [32, 45, 62, 32] ++ itoaS to else [])) (.str s) h1 := fun s e => ⟨by rw [e], f1⟩
  generalize hK : TextRes h (s1 ++ (if jmp op = true then [32, 45, 62, 32] ++ itoaS to else [])) = K at *
  refine Go.Sh.enG Tryz.kTab_ok (X := Tryz.X2) (kf := Tryz.k7) rfl (by kernel_rfl) 30 Tryz.k7_eq rfl ?_
  have main : ∀ (t0 : T) (R : T → H → FR) (Q : Flow → T → H → Prop), getP (way 1) t0 = some (.ptr h.next 0) → getP (way 3) t0 = some (.str s0) → getP (way 4) t0 = some (.int .i64 0) →
      (∀ t', getP (way 1) t' = some (.ptr h.next 0) → getP (way 3) t' = some (.str s1) → Gets (R t' h1) Q) → Gets (knext (kleave 0 (cLoop Tryz.l7_0 30 Tryz.l2 t0 h1)) R) Q := by
    intro t0 R Q t1 t3 t4 hR
    refine gets_next (gets_leave (Gets.mono (Tryz.loop7 hb w1 zs.length 0 30 s0 t0 (by omega) (by omega) (by omega) t1 t3 t4) fun fl t' h' ⟨b1, b2, b3, b4⟩ => ?_))
    subst b1 b2
    simp only [if_true]
    exact hR t' b3 (by rw [b4, List.drop_zero, hs1])
  by_cases hd1 : dst = -1
  · rw [if_pos hd1] at hs0
    rw [← hs0] at hw
    have e1 : eqI dst (-1) = true := eqIt hd1
    simp [↓ kq, kq, ↓ ko, ko, ↓ kt, ↓ kz, kb, kv, kt, kx, hh1, ld0, ld1, ld3, hw, e1, -bO_of, -bB_true, -bB_false, -H.next_push, -Int.natCast_add]
    refine main _ _ _ (by simp [kq, kb]) (by simp [kq, kb]) (by simp [kq, kb]) fun t' b1 b3 => ?_
    cases ej : jmp op
    · rw [ej] at hj hk
      simp [↓ kq, kq, ↓ ko, ko, ↓ kt, ↓ kz, kb, kv, kt, kx, b1, b3, ld0, ld1, ld3, hj, gets_some, kc, oneS, -bO_of, -bB_true, -bB_false, -H.next_push, -Int.natCast_add]
      exact hk _ (by simp)
    · rw [ej] at hj hk
      obtain ⟨s2, hs2⟩ : ∃ s2, s2 = s1 ++ [32, 45, 62, 32] := ⟨_, rfl⟩
      obtain ⟨s3, hs3⟩ : ∃ s3, s3 = s2 ++ itoaS to := ⟨_, rfl⟩
      have a2 := add_some hs2 (by simp; omega)
      have a3 := add_some hs3 (by rw [hs2]; simp; omega)
      have hk3 := hk s3 (by rw [hs3, hs2]; simp)
      generalize itoaS to = q at *
      simp [↓ kq, kq, ↓ ko, ko, ↓ kt, ↓ kz, kb, kv, kt, kx, b1, b3, ld0, ld1, ld3, hj, hdt, a2, a3, gets_some, kc, oneS, -bO_of, -bB_true, -bB_false, -H.next_push, -Int.natCast_add]
      exact hk3
  · rw [if_neg hd1] at hs0
    have e1 : eqI dst (-1) = false := eqIf hd1
    obtain ⟨p1, hp1⟩ : ∃ p1, p1 = [114] ++ itoaS dst := ⟨_, rfl⟩
    obtain ⟨p2, hp2⟩ : ∃ p2, p2 = p1 ++ [32, 61, 32] := ⟨_, rfl⟩
    have hs0 : s0 = p2 ++ wordOf op := by rw [hp2, hp1]; exact hs0
    have g1 := add_some hp1 (by simp; omega)
    have g2 := add_some hp2 (by rw [hp1]; simp; omega)
    have g3 := add_some hs0 (by rw [hp2, hp1]; simp; omega)
    generalize wordOf op = wo at *
    generalize hqd : itoaS dst = qd at *
    simp [↓ kq, kq, ↓ ko, ko, ↓ kt, ↓ kz, kb, kv, kt, kx, hh1, ld0, ld1, ld3, hw, e1, hdd, g1, g2, g3, -bO_of, -bB_true, -bB_false, -H.next_push, -Int.natCast_add]
    refine main _ _ _ (by simp [kq, kb]) (by simp [kq, kb]) (by simp [kq, kb]) fun t' b1 b3 => ?_
    cases ej : jmp op
    · rw [ej] at hj hk
      simp [↓ kq, kq, ↓ ko, ko, ↓ kt, ↓ kz, kb, kv, kt, kx, b1, b3, ld0, ld1, ld3, hj, gets_some, kc, oneS, -bO_of, -bB_true, -bB_false, -H.next_push, -Int.natCast_add]
      exact hk _ (by simp)
    · rw [ej] at hj hk
      obtain ⟨s2, hs2⟩ : ∃ s2, s2 = s1 ++ [32, 45, 62, 32] := ⟨_, rfl⟩
      obtain ⟨s3, hs3⟩ : ∃ s3, s3 = s2 ++ itoaS to := ⟨_, rfl⟩
      have a2 := add_some hs2 (by simp; omega)
      have a3 := add_some hs3 (by rw [hs2]; simp; omega)
      have hk3 := hk s3 (by rw [hs3, hs2]; simp)
      generalize itoaS to = q at *
      simp [↓ kq, kq, ↓ ko, ko, ↓ kt, ↓ kz, kb, kv, kt, kx, b1, b3, ld0, ld1, ld3, hj, hdt, a2, a3, gets_some, kc, oneS, -bO_of, -bB_true, -bB_false, -H.next_push, -Int.natCast_add]
      exact hk3
end
end Go.Proofs
