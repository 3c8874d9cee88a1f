/- RegirTexts: texts of instructions. -/
import Derived.Test.YtbmeldgbmlfmgaaGreatDoorTzRD
set_option linter.unusedVariables false
set_option linter.unusedSimpArgs false
set_option linter.unusedSectionVars false
namespace Go.Proofs
open Go.Sh
set_option linter.unusedVariables false
attribute [local instance] powHeld
noncomputable section
def i64s (l : List Int) : List SV := l.map fun z => .int .i64 z
theorem i64s_get {l : List Int} {i : Nat} {z : Int} (e : l[i]? = some z) : (i64s l)[i]? = some (.int .i64 z) := by
  unfold i64s; rw [List.getElem?_map, e]; rfl
theorem add_some {a b c : List UInt8} (e : c = a ++ b) (h : a.length + b.length ≤ 1099511627776) : strOp .add a b = some (.str c) := by rw [e]; exact strAdd h
theorem loadB {g : Nat → Option SObj} {b : Nat} {all : List SV} (h2 : rowCells g b = some all) : ∀ o, loadV none g (.ptr b o) = all[o]? := fun o => loadV_one h2
structure Src (h : H) (v : SV) (zs : List Int) : Prop where
  view : View h 1 v zs.length (i64s zs)
  few : zs.length ≤ 20
  range : ∀ z, z ∈ zs → I64 z
theorem Src.keep {h h' : H} {v : SV} {zs : List Int} (s : Src h v zs) (f : Calms h h') : Src h' v zs := ⟨s.view.keep f fun _ _ k => k, s.few, s.range⟩
theorem Tryz.loop7 {h : H} {b : Nat} {op dst to : Int} {v : SV} {o : List SV} (hb : rowCells h.get b = some (insCells op dst v to o)) {zs : List Int} (w : Src h v zs) :
    ∀ (j i k : Nat) (s : List UInt8) (t : T), i + j = zs.length → j < k → s.length + 24 * j ≤ 1000000 → getP (way 1) t = some (.ptr b 0) → getP (way 3) t = some (.str s) → getP (way 4) t = some (.int .i64 i) →
      Gets (cLoop Tryz.l7_0 k Tryz.l2 t h) fun fl t' h' => fl = .exit 0 ∧ h' = h ∧ getP (way 1) t' = some (.ptr b 0) ∧ getP (way 3) t' = some (.str (s ++ srcText i (zs.drop i))) := by
  have hld := loadB hb
  have hl := w.view.length
  intro j
  induction j with
  | zero =>
    intro k i s t hi hk hs t1 t3 t4
    obtain ⟨i, rfl⟩ : ∃ m, i = m + 1 := ⟨i - 1, by omega⟩
    rw [loop_succ]
    generalize (fun t h => cLoop Tryz.l7_0 i Tryz.l2 t h) = L
    unfold Tryz.l7_0
    have e1 : ltI (k : Int) (zs.length : Int) = false := ltIf (by omega)
    rw [List.drop_eq_nil_of_le (by omega), show srcText k [] = [] from rfl, List.append_nil]
    generalize zs.length = n at *
    simp [↓ kq, kq, ↓ ko, ko, ↓ kt, ↓ kz, kb, kv, kt, kx, t1, t3, t4, hld, hl, insCells, e1, gets_some, -bO_of, -bB_true, -bB_false, -H.next_push, -Int.natCast_add]
  | succ j ih =>
    intro i k s t hi hk hs t1 t3 t4
    obtain ⟨k, rfl⟩ : ∃ m, k = m + 1 := ⟨k - 1, by omega⟩
    rw [loop_succ]
    generalize hL : (fun t h => cLoop Tryz.l7_0 k Tryz.l2 t h) = L
    obtain ⟨z, hz⟩ : ∃ z, zs[i]? = some z := ⟨zs[i], List.getElem?_eq_getElem (by omega)⟩
    have hzr := w.range z (List.mem_of_getElem? hz)
    obtain ⟨p, c1, c2⟩ := w.view.loadV (i := i) (by omega)
    rw [i64s_get hz] at c2
    have e1 : ltI (i : Int) (zs.length : Int) = true := ltIt (by omega)
    have e3 : IntKind.i64.wrap ((i : Int) + 1) = ((i + 1 : Nat) : Int) := by rw [wrapI64 (by omega) (by have := w.few; omega)]; omega
    have hd := Tryz.dec2 hzr h
    have hlen := itoaS_len z
    have hdrop : zs.drop i = z :: zs.drop (i + 1) := by
      obtain ⟨h1, h2⟩ := List.getElem?_eq_some_iff.1 hz
      rw [List.drop_eq_getElem_cons h1, h2]
    have hfew := w.few
    by_cases hi0 : i = 0
    · obtain ⟨s2, hs2⟩ : ∃ s2, s2 = s ++ [32, 114] := ⟨_, rfl⟩
      obtain ⟨s3, hs3⟩ : ∃ s3, s3 = s2 ++ itoaS z := ⟨_, rfl⟩
      have a2 := add_some hs2 (by simp; omega)
      have a3 := add_some hs3 (by rw [hs2]; simp; omega)
      have e2 : ltI 0 (i : Int) = false := ltIf (by omega)
      unfold Tryz.l7_0
      generalize hqq : itoaS z = q at *
      simp [↓ kq, kq, ↓ ko, ko, ↓ kt, ↓ kz, kb, kv, kt, kx, t1, t3, t4, hld, hl, insCells, e1, e2, e3, c1, c2, hd, a2, a3, -bO_of, -bB_true, -bB_false, -H.next_push, -Int.natCast_add]
      rw [← hL]
      refine Gets.mono (ih (i + 1) k s3 _ (by omega) (by omega) (by rw [hs3, hs2]; simp; omega) (by simp [kq, kb, t1]) (by simp [kq, kb]) (by simp [kq, kb])) fun fl t' h' ⟨b1, b2, b3, b4⟩ => ⟨b1, b2, b3, ?_⟩
      rw [b4, hs3, hs2, hdrop, srcText, if_pos hi0, hqq]
      simp
    · obtain ⟨s1, hs1⟩ : ∃ s1, s1 = s ++ [44] := ⟨_, rfl⟩
      obtain ⟨s2, hs2⟩ : ∃ s2, s2 = s1 ++ [32, 114] := ⟨_, rfl⟩
      obtain ⟨s3, hs3⟩ : ∃ s3, s3 = s2 ++ itoaS z := ⟨_, rfl⟩
      have a1 := add_some hs1 (by simp; omega)
      have a2 := add_some hs2 (by rw [hs1]; simp; omega)
      have a3 := add_some hs3 (by rw [hs2, hs1]; simp; omega)
      have e2 : ltI 0 (i : Int) = true := ltIt (by omega)
      unfold Tryz.l7_0
      generalize hqq : itoaS z = q at *
      simp [↓ kq, kq, ↓ ko, ko, ↓ kt, ↓ kz, kb, kv, kt, kx, t1, t3, t4, hld, hl, insCells, e1, e2, e3, c1, c2, hd, a1, a2, a3, -bO_of, -bB_true, -bB_false, -H.next_push, -Int.natCast_add]
      rw [← hL]
      refine Gets.mono (ih (i + 1) k s3 _ (by omega) (by omega) (by rw [hs3, hs2, hs1]; simp; omega) (by simp [kq, kb, t1]) (by simp [kq, kb]) (by simp [kq, kb])) fun fl t' h' ⟨b1, b2, b3, b4⟩ => ⟨b1, b2, b3, ?_⟩
      rw [b4, hs3, hs2, hs1, hdrop, srcText, if_neg hi0, hqq]
      simp
/-- the registers' texts, till one -/
def regTs (zs : List Int) : List (List UInt8) := zs.map fun z => 114 :: itoaS z
theorem Tryz.loop6 {h0 : H} {v : SV} {zs : List Int} (w0 : Src h0 v zs) :
    ∀ (j i k : Nat) (h : H) (g : SV) (t : T), i + j = zs.length → j < k → Fr (h0.next ≤ ·) (h0.next ≤ ·) h0 h → Gro h h0.next 1 g i (strs (regTs (zs.take i))) → getP (way 20) t = some v → getP (way 21) t = some (.int .i64 zs.length) → getP (way 22) t = some (.int .i64 i) → getP (way 4) t = some g →
      Gets (cLoop Tryz.l6_0 k Tryz.l2 t h) fun fl t' h' => fl = .exit 0 ∧ Fr (h0.next ≤ ·) (h0.next ≤ ·) h0 h' ∧ getP (way 1) t' = getP (way 1) t ∧ getP (way 3) t' = getP (way 3) t ∧ ∃ g', getP (way 4) t' = some g' ∧ Gro h' h0.next 1 g' zs.length (strs (regTs zs)) := by
  have hfew := w0.few
  intro j
  induction j with
  | zero =>
    intro i k h g t hi hk f gr t20 t21 t22 t4
    obtain ⟨k, rfl⟩ : ∃ m, k = m + 1 := ⟨k - 1, by omega⟩
    rw [loop_succ]
    generalize (fun t h => cLoop Tryz.l6_0 k Tryz.l2 t h) = L
    unfold Tryz.l6_0
    have e1 : ltI (i : Int) (zs.length : Int) = false := ltIf (by omega)
    have hi : i = zs.length := by omega
    rw [hi, List.take_length] at gr
    generalize zs.length = n at *
    simp [↓ kq, kq, ↓ ko, ko, ↓ kt, ↓ kz, kb, kv, kt, kx, t20, t21, t22, t4, e1, gets_some, -bO_of, -bB_true, -bB_false, -H.next_push, -Int.natCast_add]
    exact ⟨f, gr⟩
  | succ j ih =>
    intro i k h g t hi hk f gr t20 t21 t22 t4
    obtain ⟨k, rfl⟩ : ∃ m, k = m + 1 := ⟨k - 1, by omega⟩
    rw [loop_succ]
    generalize hL : (fun t h => cLoop Tryz.l6_0 k Tryz.l2 t h) = L
    obtain ⟨z, hz⟩ : ∃ z, zs[i]? = some z := ⟨zs[i], List.getElem?_eq_getElem (by omega)⟩
    have hzr := w0.range z (List.mem_of_getElem? hz)
    have wv := w0.view.keep f fun q hq e => by have := w0.view.lt q hq; omega
    obtain ⟨p, c1, c2⟩ := wv.loadV (i := i) (by omega)
    rw [i64s_get hz] at c2
    have e1 : ltI (i : Int) (zs.length : Int) = true := ltIt (by omega)
    have e3 : IntKind.i64.wrap ((i : Int) + 1) = ((i + 1 : Nat) : Int) := by rw [wrapI64 (by omega) (by omega)]; omega
    have hd := Tryz.reg2 hzr h
    have htake : strs (regTs (zs.take i)) ++ [SV.str (114 :: itoaS z)] = strs (regTs (zs.take (i + 1))) := by
      rw [List.take_add_one, hz]; simp [strs, regTs]
    generalize hq : 114 :: itoaS z = q at *
    have kc1 : kcat [1] [.str q] = some [.str q] := rfl
    generalize hh1 : h.push (.cells [.str q] .fixed) = h1
    have f1 := calm_push hh1
    have hrow : View h1 1 (.slice h.next 0 1 1 (some 1)) 1 [.str q] := view_row (rowCells_fixed (get_pushed hh1)) rfl
    obtain ⟨g', h2, a1, a2, a3⟩ := (gr.keep f1 fun _ _ k => k).append (bytes := 16) 1 [.str q] rfl (by omega) (Nat.le_trans f.next f1.next)
    have ap := append_V hrow a1
    rw [htake] at a2
    have f2 : Fr (h0.next ≤ ·) (h0.next ≤ ·) h0 h2 := (f.trans (f1.mono (fun _ _ k => k.elim) fun _ k => k.elim)).trans (a3.mono (fun _ _ k => k) fun _ k => k.elim)
    unfold Tryz.l6_0
    simp [↓ kq, kq, ↓ ko, ko, ↓ kt, ↓ kz, kb, kv, kt, kx, t20, t21, t22, t4, e1, e3, c1, c2, hd, kc1, hh1, ap, -bO_of, -bB_true, -bB_false, -H.next_push, -Int.natCast_add]
    rw [← hL]
    refine Gets.mono (ih (i + 1) k h2 g' _ (by omega) (by omega) f2 a2 (by simp [kq, kb, t20]) (by simp [kq, kb, t21]) (by simp [kq, kb]) (by simp [kq, kb])) fun fl t' h' ⟨b1, b2, b3, b4, b5⟩ => ⟨b1, b2, b3.trans (by simp [kq, kb]), b4.trans (by simp [kq, kb]), b5⟩
end
end Go.Proofs
