/- AnalyseTexts answers true. -/
import Derived.Test.YtcfknlkgnolndaaGreatDoorTzAC
set_option linter.unusedVariables false
set_option linter.unusedSimpArgs false
set_option linter.unusedSectionVars false
namespace Go.Proofs
open Go.Sh
set_option linter.unusedVariables false
attribute [local instance] powHeld
noncomputable section
theorem lower_same (m l n : Nat) (tr : Tr SObj) (v : SV) : lower m l (some (v, ⟨n, m, tr⟩)) = some (v, ⟨n, min l m, tr⟩) := by
  show (if m < m then none else _) = _
  rw [if_neg (Nat.lt_irrefl m)]
theorem Tryz.text26 {h : H} {code file at_ pc rule : Int} {m : List UInt8} (h0 : I64 code) (h1 : I64 file) (h2 : I64 at_) (h4 : I64 pc) (h5 : I64 rule) (hm : m.length ≤ 200) :
    ∃ r h', Tryz.l2 26 [.agg [.int .i64 code, .int .i64 file, .int .i64 at_, .str m, .int .i64 pc, .int .i64 rule]] h = some (r, h') ∧ r = .str (whyText code file at_ m pc rule) := by
  generalize hb : h.next = b
  generalize hh1 : h.push (.cells [.int .i64 code, .int .i64 file, .int .i64 at_, .str m, .int .i64 pc, .int .i64 rule] .fixed) = g1
  have hrow : rowCells g1.get b = some [.int .i64 code, .int .i64 file, .int .i64 at_, .str m, .int .i64 pc, .int .i64 rule] := by rw [← hb]; exact rowCells_fixed (get_pushed hh1)
  obtain ⟨N, L, TR⟩ := g1
  have hlt : b < N := by
    have := rowCells_lt hrow
    exact this
  have hr : ∀ l, rowCells (⟨N, l, TR⟩ : H).get b = some [.int .i64 code, .int .i64 file, .int .i64 at_, .str m, .int .i64 pc, .int .i64 rule] := fun _ => hrow
  have hrm : ∀ l l' n, rowCells (mixTo ⟨N, l, TR⟩ ⟨N, l', TR⟩ n) b = some [.int .i64 code, .int .i64 file, .int .i64 at_, .str m, .int .i64 pc, .int .i64 rule] := fun l l' n => (rowCells_mix (g := ⟨N, l, TR⟩) hlt).trans (hr l)
  have hrh : ∀ l, rowCells (getTo ⟨N, l, TR⟩ N) b = some [.int .i64 code, .int .i64 file, .int .i64 at_, .str m, .int .i64 pc, .int .i64 rule] := fun l => (rowCells_to (h := ⟨N, l, TR⟩) hlt).trans (hr l)
  have ld0 : ∀ l, loadV none (⟨N, l, TR⟩ : H).get (.ptr b 0) = some (.int .i64 code) := fun l => loadB (hr l) 0
  have ld1 : ∀ l, loadV none (⟨N, l, TR⟩ : H).get (.ptr b 1) = some (.int .i64 file) := fun l => loadB (hr l) 1
  have ld2 : ∀ l, loadV none (⟨N, l, TR⟩ : H).get (.ptr b 2) = some (.int .i64 at_) := fun l => loadB (hr l) 2
  have ld3 : ∀ l, loadV none (⟨N, l, TR⟩ : H).get (.ptr b 3) = some (.str m) := fun l => loadB (hr l) 3
  have ld4 : ∀ l, loadV none (⟨N, l, TR⟩ : H).get (.ptr b 4) = some (.int .i64 pc) := fun l => loadB (hr l) 4
  have ld5 : ∀ l, loadV none (⟨N, l, TR⟩ : H).get (.ptr b 5) = some (.int .i64 rule) := fun l => loadB (hr l) 5
  have lh3 : ∀ l, loadV none (getTo ⟨N, l, TR⟩ N) (.ptr b 3) = some (.str m) := fun l => loadB (hrh l) 3
  have lm2 : ∀ l l' n, loadV none (mixTo ⟨N, l, TR⟩ ⟨N, l', TR⟩ n) (.ptr b 2) = some (.int .i64 at_) := fun l l' n => loadB (hrm l l' n) 2
  have lm5 : ∀ l l' n, loadV none (mixTo ⟨N, l, TR⟩ ⟨N, l', TR⟩ n) (.ptr b 5) = some (.int .i64 rule) := fun l l' n => loadB (hrm l l' n) 5
  have lw := lower_same
  have es := eqI_self
  have d0 := fun g => Tryz.itoa2 h0 g
  have d1 := fun g => Tryz.itoa2 h1 g
  have d2 := fun g => Tryz.itoa2 h2 g
  have d4 := fun g => Tryz.itoa2 h4 g
  have d5 := fun g => Tryz.itoa2 h5 g
  have k0 := itoaS_len code
  have k1 := itoaS_len file
  have k2 := itoaS_len at_
  have k4 := itoaS_len pc
  have k5 := itoaS_len rule
  refine Go.Sh.enG Tryz.kTab_ok (X := Tryz.X2) (kf := Tryz.k26) rfl (by kernel_rfl) 3 Tryz.k26_eq rfl ?_
  by_cases c0 : code = 0
  · have e0 : eqI code 0 = true := eqIt c0
    have hfin : whyText code file at_ m pc rule = [111, 107] := if_pos c0
    rw [hfin]
    simp [↓ kq, kq, ↓ ko, ko, ↓ kt, ↓ kz, kb, kv, kt, kx, scope_succ, kj, behind, hb, hh1, e0, lw, ld0, ld1, ld2, ld3, ld4, ld5, lh3, lm2, lm5, gets_some, kc, oneS, -bO_of, -bB_true, -bB_false, -H.next_push, -Int.natCast_add]
  · have e0 : eqI code 0 = false := eqIf c0
    obtain ⟨s0, hs0⟩ : ∃ s0, s0 = [101, 114, 114, 111, 114, 32] ++ itoaS code := ⟨_, rfl⟩
    have a0 := add_some hs0 (by simp; omega)
    by_cases c9 : code = 9
    · have e9 : eqI code 9 = true := eqIt c9
      obtain ⟨s1, hs1⟩ : ∃ s1, s1 = [32] ++ m := ⟨_, rfl⟩
      obtain ⟨s2, hs2⟩ : ∃ s2, s2 = s1 ++ [32] := ⟨_, rfl⟩
      obtain ⟨s3, hs3⟩ : ∃ s3, s3 = s2 ++ itoaS pc := ⟨_, rfl⟩
      obtain ⟨s4, hs4⟩ : ∃ s4, s4 = s3 ++ [32] := ⟨_, rfl⟩
      obtain ⟨s5, hs5⟩ : ∃ s5, s5 = s4 ++ itoaS rule := ⟨_, rfl⟩
      obtain ⟨s6, hs6⟩ : ∃ s6, s6 = s0 ++ s5 := ⟨_, rfl⟩
      have l1 : s1.length = m.length + 1 := by rw [hs1]; simp
      have l2 : s2.length = s1.length + 1 := by rw [hs2]; simp
      have l3 : s3.length = s2.length + (itoaS pc).length := by rw [hs3]; simp
      have l4 : s4.length = s3.length + 1 := by rw [hs4]; simp
      have l5 : s5.length = s4.length + (itoaS rule).length := by rw [hs5]; simp
      have l0 : s0.length = 6 + (itoaS code).length := by rw [hs0]; simp; omega
      have a1 := add_some hs1 (by simp; omega)
      have a2 := add_some hs2 (by simp; omega)
      have a3 := add_some hs3 (by omega)
      have a4 := add_some hs4 (by simp; omega)
      have a5 := add_some hs5 (by omega)
      have a6 := add_some hs6 (by omega)
      have hfin : whyText code file at_ m pc rule = s6 := by
        unfold whyText
        rw [if_neg c0, if_pos c9, hs6, hs5, hs4, hs3, hs2, hs1, hs0]; simp
      rw [hfin]
      clear hfin hs0 hs1 hs2 hs3 hs4 hs5 hs6
      generalize itoaS code = q0 at *
      generalize itoaS pc = q4 at *
      generalize itoaS rule = q5 at *
      simp [↓ kq, kq, ↓ ko, ko, ↓ kt, ↓ kz, kb, kv, kt, kx, scope_succ, kj, behind, hb, hh1, e0, e9, d0, d4, d5, a0, a1, a2, a3, a4, a5, a6, eqS1_int, es, lw, ld0, ld1, ld2, ld3, ld4, ld5, lh3, lm2, lm5, gets_some, kc, oneS, -bO_of, -bB_true, -bB_false, -H.next_push, -Int.natCast_add]
    · have e9 : eqI code 9 = false := eqIf c9
      obtain ⟨s1, hs1⟩ : ∃ s1, s1 = [32] ++ itoaS file := ⟨_, rfl⟩
      obtain ⟨s2, hs2⟩ : ∃ s2, s2 = s1 ++ [32] := ⟨_, rfl⟩
      obtain ⟨s3, hs3⟩ : ∃ s3, s3 = s2 ++ itoaS at_ := ⟨_, rfl⟩
      obtain ⟨s6, hs6⟩ : ∃ s6, s6 = s0 ++ s3 := ⟨_, rfl⟩
      have l1 : s1.length = (itoaS file).length + 1 := by rw [hs1]; simp
      have l2 : s2.length = s1.length + 1 := by rw [hs2]; simp
      have l3 : s3.length = s2.length + (itoaS at_).length := by rw [hs3]; simp
      have l0 : s0.length = 6 + (itoaS code).length := by rw [hs0]; simp; omega
      have a1 := add_some hs1 (by simp; omega)
      have a2 := add_some hs2 (by simp; omega)
      have a3 := add_some hs3 (by omega)
      have a6 := add_some hs6 (by omega)
      have hfin : whyText code file at_ m pc rule = s6 := by
        unfold whyText
        rw [if_neg c0, if_neg c9, hs6, hs3, hs2, hs1, hs0]; simp
      rw [hfin]
      clear hfin hs0 hs1 hs2 hs3 hs6
      generalize itoaS code = q0 at *
      generalize itoaS file = q1 at *
      generalize itoaS at_ = q2 at *
      simp [↓ kq, kq, ↓ ko, ko, ↓ kt, ↓ kz, kb, kv, kt, kx, scope_succ, kj, behind, hb, hh1, e0, e9, d0, d1, d2, a0, a1, a2, a3, a6, eqS1_int, es, lw, ld0, ld1, ld2, ld3, ld4, ld5, lh3, lm2, lm5, gets_some, kc, oneS, -bO_of, -bB_true, -bB_false, -H.next_push, -Int.natCast_add]
theorem Tryz.law5 {h : H} {code file at_ pc rule : Int} {m : List UInt8} (h0 : I64 code) (h1 : I64 file) (h2 : I64 at_) (h4 : I64 pc) (h5 : I64 rule) :
    ∃ r h', Tryz.l2 5 [.int .i64 code, .int .i64 file, .int .i64 at_, .str m, .int .i64 pc, .int .i64 rule] h = some (r, h') ∧ r = .bool true := by
  have aw := Tryz.awake2
  refine Go.Sh.enG Tryz.kTab_ok (X := Tryz.X2) (kf := Tryz.k5) rfl (by kernel_rfl) 3 Tryz.k5_eq rfl ?_
  cases e1 : ltI 200 (m.length : Int)
  rotate_left
  · simp [↓ kq, kq, ↓ ko, ko, ↓ kt, ↓ kz, kb, kv, kt, kx, e1, aw, gets_some, kc, oneS, -bO_of, -bB_true, -bB_false, -H.next_push, -Int.natCast_add]
  have hm : m.length ≤ 200 := by
    rw [ltI_eq] at e1
    have := of_decide_eq_false e1
    omega
  have d0 := fun g => Tryz.dec2 h0 g
  have d1 := fun g => Tryz.dec2 h1 g
  have d2 := fun g => Tryz.dec2 h2 g
  have d4 := fun g => Tryz.dec2 h4 g
  have d5 := fun g => Tryz.dec2 h5 g
  have k0 := itoaS_len code
  have k1 := itoaS_len file
  have k2 := itoaS_len at_
  have k4 := itoaS_len pc
  have k5 := itoaS_len rule
  have es := eqB_self
  have kcw : kcat [1, 1, 1, 1, 1, 1] [.int .i64 code, .int .i64 file, .int .i64 at_, .str m, .int .i64 pc, .int .i64 rule] = some [.int .i64 code, .int .i64 file, .int .i64 at_, .str m, .int .i64 pc, .int .i64 rule] := rfl
  obtain ⟨r, h', k6, rfl⟩ := Tryz.text26 (h := h) (m := m) h0 h1 h2 h4 h5 hm
  obtain ⟨s0, hs0⟩ : ∃ s0, s0 = [101, 114, 114, 111, 114, 32] ++ itoaS code := ⟨_, rfl⟩
  have a0 := add_some hs0 (by simp; omega)
  have l0 : s0.length = 6 + (itoaS code).length := by rw [hs0]; simp; omega
  by_cases c0 : code = 0
  · have e0 : eqI code 0 = true := eqIt c0
    rw [show whyText code file at_ m pc rule = [111, 107] from if_pos c0] at k6
    clear hs0
    generalize itoaS code = q0 at *
    simp [↓ kq, kq, ↓ ko, ko, ↓ kt, ↓ kz, kb, kv, kt, kx, e1, e0, d0, a0, kcw, k6, es, aw, gets_some, kc, oneS, -bO_of, -bB_true, -bB_false, -H.next_push, -Int.natCast_add]
  · have e0 : eqI code 0 = false := eqIf c0
    by_cases c9 : code = 9
    · have e9 : eqI code 9 = true := eqIt c9
      obtain ⟨s1, hs1⟩ : ∃ s1, s1 = s0 ++ [32] := ⟨_, rfl⟩
      obtain ⟨s2, hs2⟩ : ∃ s2, s2 = s1 ++ m := ⟨_, rfl⟩
      obtain ⟨s3, hs3⟩ : ∃ s3, s3 = s2 ++ [32] := ⟨_, rfl⟩
      obtain ⟨s4, hs4⟩ : ∃ s4, s4 = s3 ++ itoaS pc := ⟨_, rfl⟩
      obtain ⟨s5, hs5⟩ : ∃ s5, s5 = s4 ++ [32] := ⟨_, rfl⟩
      obtain ⟨s6, hs6⟩ : ∃ s6, s6 = s5 ++ itoaS rule := ⟨_, rfl⟩
      have l1 : s1.length = s0.length + 1 := by rw [hs1]; simp
      have l2 : s2.length = s1.length + m.length := by rw [hs2]; simp
      have l3 : s3.length = s2.length + 1 := by rw [hs3]; simp
      have l4 : s4.length = s3.length + (itoaS pc).length := by rw [hs4]; simp
      have l5 : s5.length = s4.length + 1 := by rw [hs5]; simp
      have a1 := add_some hs1 (by simp; omega)
      have a2 := add_some hs2 (by omega)
      have a3 := add_some hs3 (by simp; omega)
      have a4 := add_some hs4 (by omega)
      have a5 := add_some hs5 (by simp; omega)
      have a6 := add_some hs6 (by omega)
      have hfin : whyText code file at_ m pc rule = s6 := by
        unfold whyText
        rw [if_neg c0, if_pos c9, hs6, hs5, hs4, hs3, hs2, hs1, hs0]
      rw [hfin] at k6
      clear hfin hs0 hs1 hs2 hs3 hs4 hs5 hs6
      generalize itoaS code = q0 at *
      generalize itoaS pc = q4 at *
      generalize itoaS rule = q5 at *
      simp [↓ kq, kq, ↓ ko, ko, ↓ kt, ↓ kz, kb, kv, kt, kx, e1, e0, e9, d0, d4, d5, a0, a1, a2, a3, a4, a5, a6, kcw, k6, es, aw, gets_some, kc, oneS, -bO_of, -bB_true, -bB_false, -H.next_push, -Int.natCast_add]
    · have e9 : eqI code 9 = false := eqIf c9
      obtain ⟨s1, hs1⟩ : ∃ s1, s1 = s0 ++ [32] := ⟨_, rfl⟩
      obtain ⟨s2, hs2⟩ : ∃ s2, s2 = s1 ++ itoaS file := ⟨_, rfl⟩
      obtain ⟨s3, hs3⟩ : ∃ s3, s3 = s2 ++ [32] := ⟨_, rfl⟩
      obtain ⟨s6, hs6⟩ : ∃ s6, s6 = s3 ++ itoaS at_ := ⟨_, rfl⟩
      have l1 : s1.length = s0.length + 1 := by rw [hs1]; simp
      have l2 : s2.length = s1.length + (itoaS file).length := by rw [hs2]; simp
      have l3 : s3.length = s2.length + 1 := by rw [hs3]; simp
      have a1 := add_some hs1 (by simp; omega)
      have a2 := add_some hs2 (by omega)
      have a3 := add_some hs3 (by simp; omega)
      have a6 := add_some hs6 (by omega)
      have hfin : whyText code file at_ m pc rule = s6 := by
        unfold whyText
        rw [if_neg c0, if_neg c9, hs6, hs3, hs2, hs1, hs0]
      rw [hfin] at k6
      clear hfin hs0 hs1 hs2 hs3 hs6
      generalize itoaS code = q0 at *
      generalize itoaS file = q1 at *
      generalize itoaS at_ = q2 at *
      simp [↓ kq, kq, ↓ ko, ko, ↓ kt, ↓ kz, kb, kv, kt, kx, e1, e0, e9, d0, d1, d2, a0, a1, a2, a3, a6, kcw, k6, es, aw, gets_some, kc, oneS, -bO_of, -bB_true, -bB_false, -H.next_push, -Int.natCast_add]
end
end Go.Proofs
