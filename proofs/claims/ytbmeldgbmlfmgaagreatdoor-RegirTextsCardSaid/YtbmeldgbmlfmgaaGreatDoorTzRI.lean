/- RegirTexts answers true. -/
import Derived.Test.YtbmeldgbmlfmgaaGreatDoorTzRH
set_option linter.unusedVariables false
set_option linter.unusedSimpArgs false
set_option linter.unusedSectionVars false
namespace Go.Proofs
open Go.Sh
set_option linter.unusedVariables false
attribute [local instance] powHeld
noncomputable section
theorem keepRow {g g' : H} {b : Nat} {cs : List SV} (f : Calms g g') (e : rowCells g.get b = some cs) : rowCells g'.get b = some cs := (rowCells_keep f (rowCells_lt e) (fun k => k)).trans e
theorem Tryz.law3 {h : H} {v : SV} {zs : List Int} (w : View h 1 v zs.length (i64s zs)) (hz : ∀ z, z ∈ zs → I64 z) (hlen : zs.length < 9223372036854775808) {op dst to a b c : Int} {s1 s2 s3 : List UInt8} (hd : I64 dst) (ht : I64 to) (hv : flatV v = true)
    {mc : List SV} {locals loc depth : Int} (hm : mc[5]? = some (.int .i64 locals)) (hml : mc.length = 8) :
    ∃ r h', Tryz.l2 3 [.agg (insCells op dst v to [.int .i64 a, .int .i64 b, .int .i64 c, .str s1, .str s2, .str s3]), .agg mc, .int .i64 loc, .int .i64 depth] h = some (r, h') ∧ r = .bool true := by
  obtain ⟨oc, hoc⟩ : ∃ oc : List SV, oc = [.int .i64 a, .int .i64 b, .int .i64 c, .str s1, .str s2, .str s3] := ⟨_, rfl⟩
  obtain ⟨xc, hxc⟩ : ∃ xc : List SV, xc = insCells op dst v to oc := ⟨_, rfl⟩
  rw [← hoc, ← hxc]
  have hxl : xc.length = 10 := by rw [hxc, hoc]; rfl
  generalize hh1 : h.push (.cells xc .fixed) = h1
  have f1 := calm_push hh1
  have n1 : h1.next = h.next + 1 := by rw [← hh1]; rfl
  generalize hh2 : h1.push (.cells mc .fixed) = h2
  have f2 := calm_push hh2
  have n2 : h2.next = h1.next + 1 := by rw [← hh2]; rfl
  have X2 : rowCells h2.get h.next = some xc := keepRow f2 (rowCells_fixed (get_pushed hh1))
  have M2 : rowCells h2.get h1.next = some mc := rowCells_fixed (get_pushed hh2)
  have lx : ∀ {g : H}, rowCells g.get h.next = some xc → (loadV none g.get (.ptr h.next 0) = some (.int .i64 op)) ∧ (loadV none g.get (.ptr h.next 1) = some (.int .i64 dst)) ∧ (loadV none g.get (.ptr h.next 2) = some v) ∧ (loadV none g.get (.ptr h.next 3) = some (.int .i64 to)) ∧ loadV (some 6) g.get (.ptr h.next 4) = some (.agg oc) ∧ loadV (some 10) g.get (.ptr h.next 0) = some (.agg xc) := fun {g} e => by
    refine ⟨by rw [loadB e, hxc]; rfl, by rw [loadB e, hxc]; rfl, by rw [loadB e, hxc]; rfl, by rw [loadB e, hxc]; rfl, ?_, loadV_all e hxl⟩
    rw [loadV_part e (by omega), hxc, hoc]; rfl
  have lm : ∀ {g : H}, rowCells g.get h1.next = some mc → (loadV none g.get (.ptr h1.next 5) = some (.int .i64 locals)) ∧ loadV (some 8) g.get (.ptr h1.next 0) = some (.agg mc) := fun {g} e => ⟨by rw [loadB e, hm], loadV_all e hml⟩
  obtain ⟨x20, x21, x22, x23, x24, x25⟩ := lx X2
  obtain ⟨m20, m21⟩ := lm M2
  have hl := w.length
  have aw := Tryz.awake2
  refine Go.Sh.enG Tryz.kTab_ok (X := Tryz.X2) (kf := Tryz.k3) rfl (by kernel_rfl) 1 Tryz.k3_eq rfl ?_
  cases e1 : ltI 20 (zs.length : Int)
  rotate_left
  · generalize zs.length = n at *
    simp [↓ kq, kq, ↓ ko, ko, ↓ kt, ↓ kz, kb, kv, kt, kx, hh1, hh2, x22, hl, e1, aw, gets_some, kc, oneS, -bO_of, -bB_true, -bB_false, -H.next_push, -Int.natCast_add]
  rw [ltI_eq] at e1
  have few : zs.length ≤ 20 := by have := of_decide_eq_false e1; omega
  have e1 : ltI 20 (zs.length : Int) = false := ltIf (by omega)
  have src : Src h v zs := ⟨w, few, hz⟩
  obtain ⟨r4, h3, k4, f3, z, rfl⟩ := Tryz.instr4 (h := h2) (a := .int .i64 a) (b := .int .i64 b) (c := .int .i64 c) (s1 := s1) (s2 := s2) (s3 := s3)
  rw [← hoc] at k4
  have X3 := keepRow f3 X2
  have M3 := keepRow f3 M2
  obtain ⟨x30, x31, x32, x33, x34, x35⟩ := lx X3
  obtain ⟨m30, m31⟩ := lm M3
  cases e2 : ltI 300 z
  rotate_left
  · generalize zs.length = n at *
    simp [↓ kq, kq, ↓ ko, ko, ↓ kt, ↓ kz, kb, kv, kt, kx, hh1, hh2, x22, x24, hl, e1, k4, e2, aw, gets_some, kc, oneS, -bO_of, -bB_true, -bB_false, -H.next_push, -Int.natCast_add]
  cases e3 : ltI 1048576 locals
  rotate_left
  · generalize zs.length = n at *
    simp [↓ kq, kq, ↓ ko, ko, ↓ kt, ↓ kz, kb, kv, kt, kx, hh1, hh2, x22, x24, hl, e1, k4, e2, m30, e3, aw, gets_some, kc, oneS, -bO_of, -bB_true, -bB_false, -H.next_push, -Int.natCast_add]
  cases e4 : ltI locals 0
  rotate_left
  · generalize zs.length = n at *
    simp [↓ kq, kq, ↓ ko, ko, ↓ kt, ↓ kz, kb, kv, kt, kx, hh1, hh2, x22, x24, hl, e1, k4, e2, m30, e3, e4, aw, gets_some, kc, oneS, -bO_of, -bB_true, -bB_false, -H.next_push, -Int.natCast_add]
  cases e5 : ltI 1048576 depth
  rotate_left
  · generalize zs.length = n at *
    simp [↓ kq, kq, ↓ ko, ko, ↓ kt, ↓ kz, kb, kv, kt, kx, hh1, hh2, x22, x24, hl, e1, k4, e2, m30, e3, e4, e5, aw, gets_some, kc, oneS, -bO_of, -bB_true, -bB_false, -H.next_push, -Int.natCast_add]
  obtain ⟨zc, hzc⟩ : ∃ zc : List SV, zc = [.int .i64 0, .int .i64 0, .nilslice, .int .i64 0, .int .i64 0, .int .i64 0, .int .i64 0, .str [], .str [], .str []] := ⟨_, rfl⟩
  generalize hh4 : h3.push (.cells zc .fixed) = h4
  have f4 := calm_push hh4
  have st : storeV 10 h4 (.ptr h3.next 0) (.agg xc) = some (.tuple [], h4.put h3.next (.cells xc .fixed)) := storeV_all (get_pushed hh4) (by rw [hzc]; rfl) hxl
  have Y5 : rowCells (h4.put h3.next (.cells xc .fixed)).get h3.next = some xc := rowCells_put (get_pushed hh4)
  have fp := Fr.put (o := .cells xc .fixed) (H.get_lt (get_pushed hh4))
  have n3 := f3.next
  have X4 := (rowCells_keep fp (rowCells_lt (keepRow f4 X3)) (by omega)).trans (keepRow f4 X3)
  have M4 := (rowCells_keep fp (rowCells_lt (keepRow f4 M3)) (by omega)).trans (keepRow f4 M3)
  have f5 : Calms h3 (h4.put h3.next (.cells xc .fixed)) := Fr.new f4 fp (fun q e => by omega) (fun q e => by omega)
  generalize h4.put h3.next (.cells xc .fixed) = h5 at *
  have hy := loadV_all Y5 hxl
  have kcx : kcat [1, 1, 1, 1, 6] [.int .i64 op, .int .i64 dst, v, .int .i64 to, .agg oc] = some xc := by
    rw [hxc, hoc]
    cases v <;> simp only [flatV, Bool.false_eq_true] at hv <;> rfl
  obtain ⟨r6, h6, k6, rfl, f6⟩ := Tryz.text6 (src.keep (((f1.trans f2).trans f3).trans f5)) (op := op) hd ht oc
  obtain ⟨r7, h7, k7, rfl, f7⟩ := Tryz.text7 (src.keep ((((f1.trans f2).trans f3).trans f5).trans f6)) (op := op) hd ht oc
  rw [← hxc] at k6 k7
  generalize insText op dst zs to = txt at *
  have X6 := keepRow f6 X4
  have M7 := keepRow f7 (keepRow f6 M4)
  obtain ⟨x60, x61, x62, x63, x64, x65⟩ := lx X6
  obtain ⟨m70, m71⟩ := lm M7
  have n4 : h.next < h5.next := rowCells_lt X4
  have xm : loadV (some 10) (mixTo h5 h6 h6.next) (.ptr h.next 0) = some (.agg xc) := loadV_all ((rowCells_mix n4).trans X4) hxl
  have xe : eqSV (.agg xc) (.agg xc) = true := eqSV_flat (by rw [hxc, hoc]; simp only [insCells, List.all_cons, List.all_nil, hv]; rfl)
  obtain ⟨r8, h8, k8, rfl, f8⟩ := Tryz.reg8 (h := h7) (loc := loc) (depth := depth) hm
  have te := eqB_self txt
  have re : ∀ n, eqI n n = true := eqI_self
  cases e6 : ltI depth 0
  · have hreg : regOf locals loc depth = IntKind.i64.wrap (locals + depth) := by unfold regOf; rw [e6]; rfl
    rw [hreg] at k8
    generalize zs.length = n at *
    simp [↓ kq, kq, ↓ ko, ko, ↓ kt, ↓ kz, kb, kv, kt, kx, hh1, hh2, x22, x24, hl, e1, k4, e2, m30, e3, e4, e5, e6, x30, x31, x32, x33, x34, hzc.symm, hh4, kcx, st, hy, k6, x65, xm, xe, k7, te, m71, k8, re, aw, gets_some, kc, oneS, -bO_of, -bB_true, -bB_false, -H.next_push, -Int.natCast_add]
  · have hreg : regOf locals loc depth = loc := by unfold regOf; rw [e6]; rfl
    rw [hreg] at k8
    generalize zs.length = n at *
    simp [↓ kq, kq, ↓ ko, ko, ↓ kt, ↓ kz, kb, kv, kt, kx, hh1, hh2, x22, x24, hl, e1, k4, e2, m30, e3, e4, e5, e6, x30, x31, x32, x33, x34, hzc.symm, hh4, kcx, st, hy, k6, x65, xm, xe, k7, te, m71, k8, re, aw, gets_some, kc, oneS, -bO_of, -bB_true, -bB_false, -H.next_push, -Int.natCast_add]
end
end Go.Proofs
