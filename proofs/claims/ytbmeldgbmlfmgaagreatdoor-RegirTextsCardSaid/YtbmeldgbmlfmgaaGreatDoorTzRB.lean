/- RegirTexts: words and jumps. -/
import Derived.Test.YtbmeldgbmlfmgaaGreatDoorTzRA
set_option linter.unusedVariables false
set_option linter.unusedSimpArgs false
set_option linter.unusedSectionVars false
namespace Go.Proofs
open Go.Sh
set_option linter.unusedVariables false
attribute [local instance] powHeld
noncomputable section
def wordOf (op : Int) : List UInt8 := if 1 ≤ op ∧ op ≤ 38 then wordN op.toNat else []
theorem wordOf_out {op : Int} (h : ¬ (1 ≤ op ∧ op ≤ 38)) : wordOf op = [] := if_neg h
theorem wordOf_in {n : Nat} (h1 : 1 ≤ n) (h2 : n ≤ 38) : wordOf n = wordN n := by
  unfold wordOf; rw [if_pos (by omega)]; rfl
def Known (h : H) (op : Int) (r : SV) (h' : H) : Prop := ∃ rest b, r = .tuple [.agg (.str (wordOf op) :: rest), .bool b] ∧ rest.length = 7 ∧ Calms h h'
theorem oneS_two (a b : SV) : oneS [a, b] = .tuple [a, b] := rfl
theorem Tryz.known (op : Int) (h : H) : ∃ r h', Tryz.lc 23 [.int .i64 op] h = some (r, h') ∧ Known h op r h' := by
  generalize hh1 : h.push (.cells [.str [], .bool false, .bool false, .bool false, .bool false, .bool false, .int .i64 0, .int .i64 0] .fixed) = h1
  have f1 : Calms h h1 := by rw [← hh1]; exact .push
  have c1 : h1.get h.next = some (.cells [.str [], .bool false, .bool false, .bool false, .bool false, .bool false, .int .i64 0, .int .i64 0] .fixed) := by rw [← hh1, H.get_push, if_pos rfl]
  have fz : ∀ t, vFill [.str [], .bool false, .bool false, .bool false, .bool false, .bool false, .int .i64 0, .int .i64 0] [] [] t = some (.agg [.str [], .bool false, .bool false, .bool false, .bool false, .bool false, .int .i64 0, .int .i64 0]) := fun t => rfl
  have fp : ∀ vs, Fr (fun q => q = h.next) (fun q => q = h.next) h1 (h1.put h.next (.cells vs .fixed)) := fun vs => Fr.put (H.get_lt c1)
  have fin : ∀ vs, Calms h (h1.put h.next (.cells vs .fixed)) := fun vs => Fr.new f1 (fp vs) (fun q e => by subst e; exact Nat.le_refl _) (fun q e => by subst e; exact Nat.le_refl _)
  refine Tryz.enG (n := 1) (kf := Tryz.k23) (by kernel_rfl) Tryz.k23_eq rfl ?_
  by_cases hin : 1 ≤ op ∧ op ≤ 38
  · obtain ⟨n, rfl⟩ : ∃ n : Nat, op = n := ⟨op.toNat, by omega⟩
    have e1 : ltI (n : Int) 1 = false := by rw [ltI_eq]; exact decide_eq_false (by omega)
    have e2 : ltI 38 (n : Int) = false := by rw [ltI_eq]; exact decide_eq_false (by omega)
    obtain ⟨rest, r1, r2⟩ := Tryz.tbl_row (n := n) (by omega)
    have tb := Tryz.table h1
    generalize Tryz.tbl = tbl at *
    have ix : ∀ t, vIdxA 39 8 (some 8) (xC (.agg tbl)) (xC (.int .i64 n)) t = some (.agg (.str (wordN n) :: rest)) := fun t => by
      show bB (Nat.blt n 39) (kpart (some 8) tbl (n * 8)) none = _
      rw [show Nat.blt n 39 = true from Nat.ble_eq_true_of_le (by omega)]; exact r1
    have st := storeV_all (vs := .str (wordN n) :: rest) (n := 8) c1 rfl (by simp [r2])
    have ld := loadV_all (n := 8) (rowCells_put (cs' := .str (wordN n) :: rest) c1) (by simp [r2])
    have hk : ∀ b, Known h n (.tuple [.agg (.str (wordN n) :: rest), .bool b]) (h1.put h.next (.cells (.str (wordN n) :: rest) .fixed)) := fun b => ⟨rest, b, by rw [wordOf_in (by omega) (by omega)], r2, fin _⟩
    generalize hK : Known h n = K at *
    simp [↓ kq, kq, ↓ ko, ko, ↓ kt, ↓ kz, kb, kv, kt, kx, hh1, e1, e2, tb, ix, st, ld, gets_some, kc, oneS_two, -bO_of, -bB_true, -bB_false, -H.next_push, -Int.natCast_add]
    exact hk _
  · have hk : ∀ b, Known h op (.tuple [.agg [.str [], .bool false, .bool false, .bool false, .bool false, .bool false, .int .i64 0, .int .i64 0], .bool b]) (h1.put h.next (.cells [.str [], .bool false, .bool false, .bool false, .bool false, .bool false, .int .i64 0, .int .i64 0] .fixed)) := fun b => ⟨_, b, by rw [wordOf_out hin], rfl, fin _⟩
    have st := storeV_all (vs := [.str [], .bool false, .bool false, .bool false, .bool false, .bool false, .int .i64 0, .int .i64 0]) (n := 8) c1 rfl rfl
    have ld := loadV_all (n := 8) (rowCells_put (cs' := [.str [], .bool false, .bool false, .bool false, .bool false, .bool false, .int .i64 0, .int .i64 0]) c1) rfl
    generalize hK : Known h op = K at *
    by_cases h1' : op < 1
    · have e1 : ltI op 1 = true := by rw [ltI_eq]; exact decide_eq_true h1'
      simp [↓ kq, kq, ↓ ko, ko, ↓ kt, ↓ kz, kb, kv, kt, kx, hh1, e1, fz, st, ld, gets_some, kc, oneS_two, -bO_of, -bB_true, -bB_false, -H.next_push, -Int.natCast_add]
      exact hk _
    · have e1 : ltI op 1 = false := by rw [ltI_eq]; exact decide_eq_false h1'
      have e2 : ltI 38 op = true := by rw [ltI_eq]; exact decide_eq_true (by omega)
      simp [↓ kq, kq, ↓ ko, ko, ↓ kt, ↓ kz, kb, kv, kt, kx, hh1, e1, e2, fz, st, ld, gets_some, kc, oneS_two, -bO_of, -bB_true, -bB_false, -H.next_push, -Int.natCast_add]
      exact hk _
def TextRes (h : H) (s : List UInt8) (r : SV) (h' : H) : Prop := r = .str s ∧ Calms h h'
theorem Tryz.word (op : Int) (h : H) : ∃ r h', Tryz.lc 11 [.int .i64 op] h = some (r, h') ∧ TextRes h (wordOf op) r h' := by
  obtain ⟨r1, h1, k1, rest, b, rfl, hr, f1⟩ := Tryz.known op h
  generalize hh2 : h1.push (.cells [.str [], .bool false, .bool false, .bool false, .bool false, .bool false, .int .i64 0, .int .i64 0] .fixed) = h2
  have f2 : Calms h1 h2 := by rw [← hh2]; exact .push
  have c2 : h2.get h1.next = some (.cells [.str [], .bool false, .bool false, .bool false, .bool false, .bool false, .int .i64 0, .int .i64 0] .fixed) := by rw [← hh2, H.get_push, if_pos rfl]
  have st := storeV_all (vs := .str (wordOf op) :: rest) (n := 8) c2 rfl (by simp [hr])
  have ld : loadV none (h2.put h1.next (.cells (.str (wordOf op) :: rest) .fixed)).get (.ptr h1.next 0) = some (.str (wordOf op)) := by rw [loadV_one (rowCells_put c2)]; rfl
  have fin : Calms h (h2.put h1.next (.cells (.str (wordOf op) :: rest) .fixed)) := Fr.new (f1.trans f2) (Fr.put (H.get_lt c2)) (fun q e => by rw [show q = h1.next from e]; exact f1.next) (fun q e => by rw [show q = h1.next from e]; exact f1.next)
  have hk : TextRes h (wordOf op) (.str (wordOf op)) (h2.put h1.next (.cells (.str (wordOf op) :: rest) .fixed)) := ⟨rfl, fin⟩
  generalize hK : TextRes h (wordOf op) = K at *
  generalize wordOf op = s at *
  refine Tryz.enG (n := 1) (kf := Tryz.k11) (by kernel_rfl) Tryz.k11_eq rfl ?_
  simp [↓ kq, kq, ↓ ko, ko, ↓ kt, ↓ kz, kb, kv, kt, kx, k1, hh2, st, ld, gets_some, kc, oneS, -bO_of, -bB_true, -bB_false, -H.next_push, -Int.natCast_add]
  exact hk
end
end Go.Proofs
