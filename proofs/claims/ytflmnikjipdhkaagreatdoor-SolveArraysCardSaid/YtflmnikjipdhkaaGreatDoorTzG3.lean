/- General laws of the proof: a shadow machine of the form, its soundness, and a compiled form of it. -/
import Derived.Test.YtflmnikjipdhkaaGreatDoorTzG2
import Derived.Test.YtflmnikjipdhkaaGreatDoorTzSP
set_option linter.unusedVariables false
set_option linter.unusedSimpArgs false
set_option linter.unusedSectionVars false
section
/- Edges by place: how two are compared. -/
namespace Go.Proofs
open Go.Sh
attribute [local instance] powHeld
noncomputable section
def cmpS (a b : List UInt8) : Int := bB (ltBytes a b) (-1) (bB (eqBytes a b) 0 1)
def cmpI (a b : Int) : Int := bB (ltI a b) (-1) (bB (ltI b a) 1 0)
def orI : List Int → Int
  | [] => 0
  | x :: l => bB (eqI x 0) (orI l) x
def cmpE (a b : Edg) : Int := orI [cmpS a.src b.src, cmpI a.pc b.pc, cmpS a.dst b.dst]
theorem strNe (a b : List UInt8) : ∀ (x y : XF) (t : T), x t = some (.str a) → y t = some (.str b) → vSNe x y t = some (.bool (!eqB a b)) := fun x y t h1 h2 => by
  show bO (x t) (fun u => bO (y t) fun v => bO (asS u) fun a => bO (asS v) fun b => some (SV.bool (!eqB a b))) = _
  rw [h1, h2]; rfl
theorem Tryz.nan53 (h : H) (a : List UInt8) : Tryz.l2 51 [.str a] h = some (.bool false, h) := by
  have main : ∃ v' h', Tryz.l2 51 [.str a] h = some (v', h') ∧ (v' = .bool false ∧ h' = h) := by
    refine Go.Sh.enG Tryz.kTab_ok (X := Tryz.X2) (kf := Tryz.k51) rfl (by kernel_rfl) 2 Tryz.k51_eq rfl ?_
    have e1 := eqB_self a
    simp [↓ kq, kq, ↓ ku, ku, ↓ ko, ko, ↓ kt, ↓ kz, kb, kv, kt, kx, e1, gets_some, kc, oneS, -bO_of, -bB_true, -bB_false, -H.next_push, -Int.natCast_add]
  obtain ⟨_, _, k1, rfl, rfl⟩ := main
  exact k1
theorem Tryz.cmp22 (h : H) (a b : List UInt8) : Tryz.l2 24 [.str a, .str b] h = some (.int .i64 (cmpS a b), h) := by
  have main : ∃ v' h', Tryz.l2 24 [.str a, .str b] h = some (v', h') ∧ (v' = .int .i64 (cmpS a b) ∧ h' = h) := by
    refine Go.Sh.enG Tryz.kTab_ok (X := Tryz.X2) (kf := Tryz.k24) rfl (by kernel_rfl) 2 Tryz.k24_eq rfl ?_
    have n1 := Tryz.nan53 h a
    have n2 := Tryz.nan53 h b
    have g1 : strOp .lss a b = some (.bool (ltBytes a b)) := rfl
    have g2 : strOp .gtr a b = some (.bool (!(ltBytes a b || eqBytes a b))) := rfl
    unfold cmpS
    cases c1 : ltBytes a b with
    | true =>
      rw [c1] at g1
      simp [↓ kq, kq, ↓ ku, ku, ↓ ko, ko, ↓ kt, ↓ kz, kb, kv, kt, kx, n1, n2, g1, gets_some, kc, oneS, -bO_of, -bB_true, -bB_false, -H.next_push, -Int.natCast_add]
    | false =>
      cases c2 : eqBytes a b with
      | true =>
        rw [c1] at g1
        rw [c1, c2] at g2
        simp [↓ kq, kq, ↓ ku, ku, ↓ ko, ko, ↓ kt, ↓ kz, kb, kv, kt, kx, n1, n2, g1, g2, gets_some, kc, oneS, -bO_of, -bB_true, -bB_false, -H.next_push, -Int.natCast_add]
      | false =>
        rw [c1] at g1
        rw [c1, c2] at g2
        simp [↓ kq, kq, ↓ ku, ku, ↓ ko, ko, ↓ kt, ↓ kz, kb, kv, kt, kx, n1, n2, g1, g2, gets_some, kc, oneS, -bO_of, -bB_true, -bB_false, -H.next_push, -Int.natCast_add]
  obtain ⟨_, _, k1, rfl, rfl⟩ := main
  exact k1
theorem Tryz.nan202 (h : H) (a : Int) : Tryz.l2 135 [.int .i64 a] h = some (.bool false, h) := by
  have main : ∃ v' h', Tryz.l2 135 [.int .i64 a] h = some (v', h') ∧ (v' = .bool false ∧ h' = h) := by
    refine Go.Sh.enG Tryz.kTab_ok (X := Tryz.X2) (kf := Tryz.k135) rfl (by kernel_rfl) 2 Tryz.k135_eq rfl ?_
    have e1 := eqI_self a
    simp [↓ kq, kq, ↓ ku, ku, ↓ ko, ko, ↓ kt, ↓ kz, kb, kv, kt, kx, e1, gets_some, kc, oneS, -bO_of, -bB_true, -bB_false, -H.next_push, -Int.natCast_add]
  obtain ⟨_, _, k1, rfl, rfl⟩ := main
  exact k1
theorem Tryz.cmp181 (h : H) (a b : Int) : Tryz.l2 190 [.int .i64 a, .int .i64 b] h = some (.int .i64 (cmpI a b), h) := by
  have main : ∃ v' h', Tryz.l2 190 [.int .i64 a, .int .i64 b] h = some (v', h') ∧ (v' = .int .i64 (cmpI a b) ∧ h' = h) := by
    refine Go.Sh.enG Tryz.kTab_ok (X := Tryz.X2) (kf := Tryz.k190) rfl (by kernel_rfl) 2 Tryz.k190_eq rfl ?_
    have n1 := Tryz.nan202 h a
    have n2 := Tryz.nan202 h b
    unfold cmpI
    cases c1 : ltI a b with
    | true =>
      simp [↓ kq, kq, ↓ ku, ku, ↓ ko, ko, ↓ kt, ↓ kz, kb, kv, kt, kx, n1, n2, c1, gets_some, kc, oneS, -bO_of, -bB_true, -bB_false, -H.next_push, -Int.natCast_add]
    | false =>
      cases c2 : ltI b a with
      | true =>
        simp [↓ kq, kq, ↓ ku, ku, ↓ ko, ko, ↓ kt, ↓ kz, kb, kv, kt, kx, n1, n2, c1, c2, gets_some, kc, oneS, -bO_of, -bB_true, -bB_false, -H.next_push, -Int.natCast_add]
      | false =>
        simp [↓ kq, kq, ↓ ku, ku, ↓ ko, ko, ↓ kt, ↓ kz, kb, kv, kt, kx, n1, n2, c1, c2, gets_some, kc, oneS, -bO_of, -bB_true, -bB_false, -H.next_push, -Int.natCast_add]
  obtain ⟨_, _, k1, rfl, rfl⟩ := main
  exact k1
theorem Tryz.or_loop {v : SV} {l : List Int} {h : H} (w : View h 1 v l.length (i64s l)) (hm : l.length < 60000) : ∀ (j i k : Nat) (t : T), i + j = l.length → j < k → getP (way 6) t = some v → getP (way 7) t = some (.int .i64 l.length) → getP (way 8) t = some (.int .i64 i) → getP (way 3) t = some (.int .i64 0) →
    Gets (cLoop Tryz.l189_0 k Tryz.l2 t h) fun fl t' h' => h' = h ∧ (fl = .exit 0 ∧ getP (way 3) t' = some (.int .i64 0) ∧ orI (l.drop i) = 0 ∨ fl = .ret ∧ getP (way 2) t' = some (.int .i64 (orI (l.drop i)))) := by
  intro j
  induction j with
  | zero =>
    intro i k t hi hk t6 t7 t8 t3
    obtain ⟨k, rfl⟩ : ∃ m, k = m + 1 := ⟨k - 1, by omega⟩
    rw [loop_succ]
    generalize (fun t h => cLoop Tryz.l189_0 k Tryz.l2 t h) = L
    unfold Tryz.l189_0
    have e1 : ltI (i : Int) (l.length : Int) = false := ltIf (by omega)
    have e2 : orI (l.drop i) = 0 := by rw [List.drop_of_length_le (by omega)]; rfl
    generalize orI (l.drop i) = r at *
    generalize l.length = n at *
    simp [↓ kq, kq, ↓ ku, ku, ↓ ko, ko, ↓ kt, ↓ kz, kb, kv, kt, kx, t6, t7, t8, t3, e1, gets_some, -bO_of, -bB_true, -bB_false, -H.next_push, -Int.natCast_add]
    exact e2
  | succ j ih =>
    intro i k t hi hk t6 t7 t8 t3
    obtain ⟨k, rfl⟩ : ∃ m, k = m + 1 := ⟨k - 1, by omega⟩
    rw [loop_succ]
    generalize hL : (fun t h => cLoop Tryz.l189_0 k Tryz.l2 t h) = L
    have e1 : ltI (i : Int) (l.length : Int) = true := ltIt (by omega)
    have e3 : IntKind.i64.wrap ((i : Int) + 1) = ((i + 1 : Nat) : Int) := by rw [wrapI64 (by omega) (by omega)]; omega
    obtain ⟨y, hy⟩ : ∃ y, l[i]? = some y := ⟨l[i], List.getElem?_eq_getElem (by omega)⟩
    obtain ⟨p, c1, c2⟩ := w.loadV (i := i) (by omega)
    rw [i64s_get hy] at c2
    have hd : l.drop i = y :: l.drop (i + 1) := by
      rw [List.drop_eq_getElem_cons (by omega), ← Option.some.inj ((List.getElem?_eq_getElem (by omega)).symm.trans hy)]
    cases c3 : eqI y 0 with
    | true =>
      have e4 : orI (l.drop i) = orI (l.drop (i + 1)) := by rw [hd]; show bB (eqI y 0) _ _ = _; rw [c3]; rfl
      rw [e4]
      unfold Tryz.l189_0
      generalize hn : l.length = n at *
      simp [↓ kq, kq, ↓ ku, ku, ↓ ko, ko, ↓ kt, ↓ kz, kb, kv, kt, kx, t6, t7, t8, t3, e1, e3, c1, c2, c3, -bO_of, -bB_true, -bB_false, -H.next_push, -Int.natCast_add]
      rw [← hL]
      refine ih (i + 1) k _ (by omega) (by omega) ?_ ?_ ?_ ?_ <;> simp [kq, kb, t6, t7, t3]
    | false =>
      have e4 : orI (l.drop i) = y := by rw [hd]; show bB (eqI y 0) _ _ = _; rw [c3]; rfl
      rw [e4]
      unfold Tryz.l189_0
      generalize hn : l.length = n at *
      simp [↓ kq, kq, ↓ ku, ku, ↓ ko, ko, ↓ kt, ↓ kz, kb, kv, kt, kx, t6, t7, t8, t3, e1, e3, c1, c2, c3, gets_some, -bO_of, -bB_true, -bB_false, -H.next_push, -Int.natCast_add]
theorem Tryz.or180 {v : SV} {l : List Int} {h : H} (w : View h 1 v l.length (i64s l)) (hm : l.length < 60000) : Tryz.l2 189 [v] h = some (.int .i64 (orI l), h) := by
  have main : ∃ v' h', Tryz.l2 189 [v] h = some (v', h') ∧ (v' = .int .i64 (orI l) ∧ h' = h) := by
    refine Go.Sh.enG Tryz.kTab_ok (X := Tryz.X2) (kf := Tryz.k189) rfl (by kernel_rfl) (l.length + 2) Tryz.k189_eq rfl ?_
    have lv := w.length
    simp [↓ kq, kq, ↓ ku, ku, ↓ ko, ko, ↓ kt, ↓ kz, kb, kv, kt, kx, lv, gets_some, -bO_of, -bB_true, -bB_false, -H.next_push, -Int.natCast_add]
    refine gets_next (gets_leave (Gets.mono (Tryz.or_loop w hm l.length 0 (l.length + 2) _ (by omega) (by omega) (by simp [kq, kb]) (by simp [kq, kb]) (by simp [kq, kb]) (by simp [kq, kb])) fun fl t' h' ⟨b1, b2⟩ => ?_))
    subst b1
    rw [List.drop_zero] at b2
    rcases b2 with ⟨rfl, b3, b4⟩ | ⟨rfl, b3⟩
    · simp only [if_true]
      rw [b4]
      simp [↓ kq, kq, ↓ ku, ku, ↓ ko, ko, ↓ kt, ↓ kz, kb, kv, kt, kx, b3, gets_some, kc, oneS, -bO_of, -bB_true, -bB_false, -H.next_push, -Int.natCast_add]
    · simp [↓ kq, kq, ↓ ku, ku, ↓ ko, ko, ↓ kt, ↓ kz, kb, kv, kt, kx, b3, gets_some, kc, oneS, -bO_of, -bB_true, -bB_false, -H.next_push, -Int.natCast_add]
  obtain ⟨_, _, k1, rfl, rfl⟩ := main
  exact k1
theorem Tryz.byPlace (h : H) (a b : Edg) : ∃ h', Tryz.l2 129 [.agg a.cells, .agg b.cells] h = some (.int .i64 (cmpE a b), h') ∧ Calms h h' := by
  have main : ∃ v' h', Tryz.l2 129 [.agg a.cells, .agg b.cells] h = some (v', h') ∧ (v' = .int .i64 (cmpE a b) ∧ Calms h h') := by
    generalize hh1 : h.push (.cells a.cells .fixed) = h1
    have f1 := calm_push hh1
    generalize hh2 : h1.push (.cells b.cells .fixed) = h2
    have f2 := calm_push hh2
    have R1 := keepRow f2 (rowCells_fixed (get_pushed hh1))
    have R2 := rowCells_fixed (get_pushed hh2)
    have a0 : ∀ o : Nat, a.cells[o]? = [SV.str a.src, .int .i64 a.pc, .str a.dst][o]? := fun _ => rfl
    have b0 : ∀ o : Nat, b.cells[o]? = [SV.str b.src, .int .i64 b.pc, .str b.dst][o]? := fun _ => rfl
    have l1 := loadB R1
    have l2 := loadB R2
    have m1 : ∀ y n (o : Nat), loadV none (mixTo h2 y n) (.ptr h.next o) = a.cells[o]? := fun y n => loadB ((rowCells_mix (rowCells_lt R1)).trans R1)
    have m2 : ∀ y n (o : Nat), loadV none (mixTo h2 y n) (.ptr h1.next o) = b.cells[o]? := fun y n => loadB ((rowCells_mix (rowCells_lt R2)).trans R2)
    have k1 := Tryz.cmp22 h2 a.src b.src
    have k2 := Tryz.cmp181 h2 a.pc b.pc
    have k3 := Tryz.cmp22 h2 a.dst b.dst
    have c1 : (SV.agg a.cells).cells? = some a.cells := rfl
    have c2 : (SV.agg b.cells).cells? = some b.cells := rfl
    have e1 := eqS1_int .i64 a.pc
    have e2 := eqS1_int .i64 b.pc
    have e3 := eqS1_str a.dst
    have e4 := eqS1_str b.dst
    generalize hz1 : cmpS a.src b.src = z1 at *
    generalize hz2 : cmpI a.pc b.pc = z2 at *
    generalize hz3 : cmpS a.dst b.dst = z3 at *
    generalize hh3 : h2.push (.cells [.int .i64 z1, .int .i64 z2, .int .i64 z3] .fixed) = h3
    have f3 := calm_push hh3
    have x3 : kcat [1, 1, 1] [.int .i64 z1, .int .i64 z2, .int .i64 z3] = some [.int .i64 z1, .int .i64 z2, .int .i64 z3] := rfl
    have k4 := Tryz.or180 (l := [z1, z2, z3]) (view_row (n := 3) (es := 1) (rowCells_fixed (get_pushed hh3)) rfl) (by simp)
    have e5 : cmpE a b = orI [z1, z2, z3] := by unfold cmpE; rw [hz1, hz2, hz3]
    rw [e5]
    generalize orI [z1, z2, z3] = z at *
    refine Go.Sh.enG Tryz.kTab_ok (X := Tryz.X2) (kf := Tryz.k129) rfl (by kernel_rfl) 2 Tryz.k129_eq rfl ?_
    simp [↓ kq, kq, ↓ ku, ku, ↓ ko, ko, ↓ kt, ↓ kz, kb, kv, kt, kx, c1, c2, hh1, hh2, l1, l2, m1, m2, a0, b0, k1, k2, k3, e1, e2, e3, e4, x3, hh3, k4, gets_some, kc, oneS, -bO_of, -bB_true, -bB_false, -H.next_push, -Int.natCast_add]
    exact (f1.trans f2).trans f3
  obtain ⟨_, h', k1, rfl, k2⟩ := main
  exact ⟨h', k1, k2⟩
theorem cmpE_neg (a b : Edg) : ltI (cmpE a b) 0 = lessE a b := by
  have c1 : ∀ x y : List UInt8, cmpS x y = -1 ∧ ltBytes x y = true ∧ x ≠ y ∨ cmpS x y = 0 ∧ ltBytes x y = false ∧ x = y ∨ cmpS x y = 1 ∧ ltBytes x y = false ∧ x ≠ y := by
    intro x y
    unfold cmpS
    cases h1 : ltBytes x y with
    | true =>
      left
      refine ⟨rfl, rfl, fun e => ?_⟩
      subst e
      exact bOrd.irr x h1
    | false =>
      right
      by_cases e : x = y
      · left
        have : eqBytes x y = true := eqBytes_iff.2 e
        rw [this]; exact ⟨rfl, rfl, e⟩
      · right
        have : eqBytes x y = false := by
          cases q : eqBytes x y
          · rfl
          · exact absurd (eqBytes_iff.1 q) e
        rw [this]; exact ⟨rfl, rfl, e⟩
  have c2 : ∀ x y : Int, cmpI x y = -1 ∧ decide (x < y) = true ∧ x ≠ y ∨ cmpI x y = 0 ∧ x = y ∨ cmpI x y = 1 ∧ decide (x < y) = false ∧ x ≠ y := by
    intro x y
    unfold cmpI
    rw [ltI_eq, ltI_eq]
    by_cases h1 : x < y
    · left; rw [decide_eq_true h1]; exact ⟨rfl, rfl, by omega⟩
    · right
      rw [decide_eq_false h1]
      by_cases h2 : y < x
      · right; rw [decide_eq_true h2]; exact ⟨rfl, rfl, by omega⟩
      · left; rw [decide_eq_false h2]; exact ⟨rfl, by omega⟩
  unfold cmpE lessE
  rcases c1 a.src b.src with ⟨h1, h2, h3⟩ | ⟨h1, h2, h3⟩ | ⟨h1, h2, h3⟩
  · rw [h1, if_pos h3, h2]; rfl
  · rw [h1, if_neg (by simpa using h3)]
    rcases c2 a.pc b.pc with ⟨g1, g2, g3⟩ | ⟨g1, g3⟩ | ⟨g1, g2, g3⟩
    · rw [g1, if_pos g3, g2]; rfl
    · rw [g1, if_neg (by simpa using g3)]
      rcases c1 a.dst b.dst with ⟨q1, q2, q3⟩ | ⟨q1, q2, q3⟩ | ⟨q1, q2, q3⟩ <;> rw [q1, q2] <;> rfl
    · rw [g1, if_pos g3, g2]; rfl
  · rw [h1, if_pos h3, h2]; rfl
end
end Go.Proofs
end
section
/- Edges by place: the insertion sort. -/
namespace Go.Proofs
open Go.Sh
attribute [local instance] powHeld
noncomputable section
def siftE (z : Edg) : List Edg → List Edg → List Edg
  | [], B => z :: B
  | y :: R, B => bB (lessE z y) (siftE z R (y :: B)) ((y :: R).reverse ++ z :: B)
def isortE : List Edg → List Edg → List Edg
  | S, [] => S
  | S, z :: C => isortE (siftE z S.reverse []) C
theorem siftE_len (z : Edg) : ∀ R B, (siftE z R B).length = R.length + B.length + 1
  | [], B => by simp [siftE]
  | y :: R, B => by
    unfold siftE
    cases lessE z y with
    | true => show (siftE z R (y :: B)).length = _; rw [siftE_len z R (y :: B)]; simp; omega
    | false => show ((y :: R).reverse ++ z :: B).length = _; simp; omega
theorem siftE_perm (z : Edg) : ∀ R B, (siftE z R B).Perm (z :: (R.reverse ++ B))
  | [], B => by simp [siftE]
  | y :: R, B => by
    unfold siftE
    cases lessE z y with
    | true =>
      show (siftE z R (y :: B)).Perm _
      refine (siftE_perm z R (y :: B)).trans ?_
      simp
    | false =>
      show ((y :: R).reverse ++ z :: B).Perm _
      exact List.perm_middle
theorem isortE_perm : ∀ C S, (isortE S C).Perm (S ++ C)
  | [], S => by simp [isortE]
  | z :: C, S => by
    unfold isortE
    refine (isortE_perm C _).trans ?_
    have := siftE_perm z S.reverse []
    rw [List.reverse_reverse, List.append_nil] at this
    exact (this.append_right C).trans (List.perm_middle.symm)
theorem siftE_rises (z : Edg) : ∀ R B, (R.reverse ++ B).Pairwise ELt → (∀ b ∈ B, ELt z b) → (∀ y ∈ R, y ≠ z) → (siftE z R B).Pairwise ELt
  | [], B, h1, h2, _ => List.pairwise_cons.2 ⟨h2, by simpa using h1⟩
  | y :: R, B, h1, h2, h3 => by
    unfold siftE
    cases hl : lessE z y with
    | true =>
      refine siftE_rises z R (y :: B) (by simpa using h1) (fun b hb => ?_) fun x hx => h3 x (List.mem_cons_of_mem _ hx)
      rcases List.mem_cons.1 hb with rfl | hb
      · exact hl
      · exact h2 b hb
    | false =>
      show ((y :: R).reverse ++ z :: B).Pairwise ELt
      have hyz : ELt y z := by
        refine Classical.byContradiction fun h => h3 y (List.mem_cons_self ..) (eOrd.tri y z h fun h' => ?_)
        have h' : lessE z y = true := h'
        rw [hl] at h'; cases h'
      rw [List.pairwise_append] at h1 ⊢
      refine ⟨h1.1, List.pairwise_cons.2 ⟨h2, h1.2.1⟩, fun a ha b hb => ?_⟩
      rcases List.mem_cons.1 hb with rfl | hb
      · rw [List.reverse_cons, List.mem_append] at ha
        rcases ha with ha | ha
        · have hr := h1.1
          rw [List.reverse_cons, List.pairwise_append] at hr
          exact eOrd.trans a y _ (hr.2.2 a ha y (List.mem_singleton.2 rfl)) hyz
        · rw [List.mem_singleton.1 ha]; exact hyz
      · exact h1.2.2 a ha b hb
theorem isortE_rises : ∀ C S, S.Pairwise ELt → (S ++ C).Nodup → (isortE S C).Pairwise ELt
  | [], S, h, _ => h
  | z :: C, S, h, hn => by
    unfold isortE
    have hz : ∀ y ∈ S, y ≠ z := fun y hy e => by
      subst e
      exact (List.nodup_append.1 hn).2.2 y hy y (List.mem_cons_self ..) rfl
    refine isortE_rises C _ (siftE_rises z S.reverse [] (by simpa using h) (fun b hb => by simp at hb) fun y hy => hz y (List.mem_reverse.1 hy)) ?_
    have hp := (siftE_perm z S.reverse []).append_right C
    rw [List.reverse_reverse, List.append_nil] at hp
    exact (hp.trans (List.perm_middle.symm)).nodup_iff.2 hn
theorem set_swap (R B C : List Edg) (y z : Edg) : (((R.reverse ++ y :: z :: B) ++ C).set (R.length + 1) y).set R.length z = (R.reverse ++ z :: (y :: B)) ++ C := by
  have h : R.reverse.length = R.length := List.length_reverse
  rw [List.append_assoc, List.append_assoc, List.set_append, if_neg (by omega), h, show R.length + 1 - R.length = 1 by omega, List.set_append, if_neg (by omega), h, Nat.sub_self]
  rfl
set_option maxHeartbeats 2000000 in
theorem Tryz.sift_loop {lo N : Nat} {v : SV} {z : Edg} {C : List Edg} {i : Int} {bb : SV} (hN : N < 4294967296) : ∀ (R B : List Edg) (k : Nat) (t : T) (h : H), R.length < k → lo ≤ h.next → ((R.reverse ++ z :: B) ++ C).length = N → Gro h lo 3 v N (edgs ((R.reverse ++ z :: B) ++ C)) →
    getP (way 0) t = some v → getP (way 1) t = some (.int .i64 0) → getP (way 2) t = some bb → getP (way 3) t = some (.func 129 []) → getP (way 8) t = some (.int .i64 i) → getP (way 9) t = some (.int .i64 R.length) →
    Gets (cLoop Tryz.l251_0 k Tryz.l2 t h) fun fl t' h' => fl = .exit 2 ∧ getP (way 0) t' = some v ∧ getP (way 1) t' = some (.int .i64 0) ∧ getP (way 2) t' = some bb ∧ getP (way 3) t' = some (.func 129 []) ∧ getP (way 8) t' = some (.int .i64 i) ∧ lo ≤ h'.next ∧ Gro h' lo 3 v N (edgs (siftE z R B ++ C)) ∧ Fr (lo ≤ ·) (lo ≤ ·) h h' := by
  intro R
  induction R with
  | nil =>
    intro B k t h hk hlo hl g t0 t1 t2 t3 t8 t9
    obtain ⟨k, rfl⟩ : ∃ m, k = m + 1 := ⟨k - 1, by omega⟩
    rw [loop_succ]
    generalize (fun t h => cLoop Tryz.l251_0 k Tryz.l2 t h) = L
    unfold Tryz.l251_0
    have e1 : ltI 0 0 = false := rfl
    have t9 : getP (way 9) t = some (.int .i64 0) := t9
    simp [↓ kq, kq, ↓ ku, ku, ↓ ko, ko, ↓ kt, ↓ kz, kb, kv, kt, kx, t0, t1, t2, t3, t8, t9, e1, gets_some, -bO_of, -bB_true, -bB_false, -H.next_push, -Int.natCast_add]
    exact ⟨hlo, g, .refl⟩
  | cons y R ih =>
    intro B k t h hk hlo hl g t0 t1 t2 t3 t8 t9
    obtain ⟨k, rfl⟩ : ∃ m, k = m + 1 := ⟨k - 1, by omega⟩
    rw [loop_succ]
    generalize hL : (fun t h => cLoop Tryz.l251_0 k Tryz.l2 t h) = L
    have hlR : R.length + 1 < N := by rw [← hl]; simp
    rw [List.length_cons] at t9 hk
    have eq0 : (y :: R).reverse ++ z :: B = R.reverse ++ y :: z :: B := by simp
    rw [eq0] at g hl
    have hr : R.reverse.length = R.length := List.length_reverse
    have gz : ((R.reverse ++ y :: z :: B) ++ C)[R.length + 1]? = some z := by
      rw [List.append_assoc, List.getElem?_append_right (by omega), hr, show R.length + 1 - R.length = 1 by omega]; rfl
    have gy : ((R.reverse ++ y :: z :: B) ++ C)[R.length]? = some y := by
      rw [List.append_assoc, List.getElem?_append_right (by omega), hr, Nat.sub_self]; rfl
    have gw : View h 3 v ((R.reverse ++ y :: z :: B) ++ C).length (edgs ((R.reverse ++ y :: z :: B) ++ C)) := by rw [hl]; exact g.view
    obtain ⟨pz, z1, z2⟩ := edge_load gw gz
    obtain ⟨py, y1, y2⟩ := edge_load gw gy
    obtain ⟨h1, k1, f1⟩ := Tryz.byPlace h z y
    have e1 : ltI 0 ((R.length + 1 : Nat) : Int) = true := ltIt (by omega)
    have e2 : IntKind.i64.wrap (((R.length + 1 : Nat) : Int) - 1) = (R.length : Int) := by rw [wrapI64 (by omega) (by omega)]; omega
    have e3 := cmpE_neg z y
    have hlo1 : lo ≤ h1.next := Nat.le_trans hlo f1.next
    have g1 : Gro h1 lo 3 v N (edgs ((R.reverse ++ y :: z :: B) ++ C)) := g.keep f1 fun _ _ k => k
    have fr1 : Fr (lo ≤ ·) (lo ≤ ·) h h1 := f1.mono (fun _ _ k => k.elim) (fun _ k => k.elim)
    have asf : asF (.func 129 []) = some (129, []) := rfl
    cases hlt : lessE z y with
    | false =>
      rw [hlt] at e3
      have e5 : siftE z (y :: R) B = (R.reverse ++ y :: z :: B) := by
        show bB (lessE z y) _ _ = _
        rw [hlt]; exact eq0
      rw [e5]
      unfold Tryz.l251_0
      generalize z.cells = zc at *
      generalize y.cells = yc at *
      simp [↓ kq, kq, ↓ ku, ku, ↓ ko, ko, ↓ kt, ↓ kz, kb, kv, kt, kx, t0, t1, t2, t3, t8, t9, e1, e2, z1, z2, y1, y2, k1, e3, asf, gets_some, -bO_of, -bB_true, -bB_false, -H.next_push, -Int.natCast_add]
      exact ⟨hlo1, by simpa using g1, fr1⟩
    | true =>
      rw [hlt] at e3
      have e5 : siftE z (y :: R) B = siftE z R (y :: B) := by
        show bB (lessE z y) _ _ = _
        rw [hlt]; rfl
      rw [e5]
      have gw1 : View h1 3 v ((R.reverse ++ y :: z :: B) ++ C).length (edgs ((R.reverse ++ y :: z :: B) ++ C)) := by rw [hl]; exact g1.view
      obtain ⟨pz', z3, z4⟩ := edge_load gw1 gz
      obtain ⟨py', y3, y4⟩ := edge_load gw1 gy
      obtain rfl : pz' = pz := Option.some.inj (z3.symm.trans z1)
      obtain rfl : py' = py := Option.some.inj (y3.symm.trans y1)
      rw [← hl] at g1
      obtain ⟨p2, h2, s1, s2, g2, f2⟩ := gro_store3 g1 (i := R.length + 1) (by omega) y
      obtain rfl : p2 = pz' := Option.some.inj (s1.symm.trans z1)
      obtain ⟨p3, h3, s3, s4, g3, f3⟩ := gro_store3 g2 (i := R.length) (by rw [List.length_set]; omega) z
      obtain rfl : p3 = py' := Option.some.inj (s3.symm.trans y1)
      rw [set_swap] at g3
      have hl3 : ((R.reverse ++ z :: (y :: B)) ++ C).length = N := by rw [← hl]; simp
      rw [hl3] at g3
      unfold Tryz.l251_0
      generalize z.cells = zc at *
      generalize y.cells = yc at *
      simp [↓ kq, kq, ↓ ku, ku, ↓ ko, ko, ↓ kt, ↓ kz, kb, kv, kt, kx, t0, t1, t2, t3, t8, t9, e1, e2, z1, z2, z4, y1, y2, y4, k1, e3, asf, s2, s4, -bO_of, -bB_true, -bB_false, -H.next_push, -Int.natCast_add]
      rw [← hL]
      refine Gets.mono (ih (y :: B) k _ h3 (by omega) (Nat.le_trans hlo1 (Nat.le_trans f2.next f3.next)) hl3 g3 ?_ ?_ ?_ ?_ ?_ ?_) fun fl t' h' ⟨b1, b2, b3, b4, b5, b6, b7, b8, b9⟩ => ⟨b1, b2, b3, b4, b5, b6, b7, b8, ((fr1.trans f2).trans f3).trans b9⟩
      all_goals simp [kq, kb, t0, t1, t2, t3, t8]
set_option maxHeartbeats 2000000 in
theorem Tryz.sort_loop {lo N : Nat} {v : SV} (hN : N < 4294967296) : ∀ (C S : List Edg) (k : Nat) (t : T) (h : H), C.length + N < k → lo ≤ h.next → 0 < S.length → (S ++ C).length = N → Gro h lo 3 v N (edgs (S ++ C)) →
    getP (way 0) t = some v → getP (way 1) t = some (.int .i64 0) → getP (way 2) t = some (.int .i64 N) → getP (way 3) t = some (.func 129 []) → getP (way 8) t = some (.int .i64 S.length) →
    Gets (cLoop Tryz.l251_1 k Tryz.l2 t h) fun fl t' h' => fl = .exit 0 ∧ Gro h' lo 3 v N (edgs (isortE S C)) ∧ Fr (lo ≤ ·) (lo ≤ ·) h h' := by
  intro C
  induction C with
  | nil =>
    intro S k t h hk hlo hS hl g t0 t1 t2 t3 t8
    obtain ⟨k, rfl⟩ : ∃ m, k = m + 1 := ⟨k - 1, by omega⟩
    rw [loop_succ]
    generalize (fun t h => cLoop Tryz.l251_1 k Tryz.l2 t h) = L
    unfold Tryz.l251_1
    rw [List.append_nil] at hl g
    have e1 : ltI (S.length : Int) (N : Int) = false := ltIf (by omega)
    have e5 : isortE S [] = S := by unfold isortE; rfl
    rw [e5]
    simp [↓ kq, kq, ↓ ku, ku, ↓ ko, ko, ↓ kt, ↓ kz, kb, kv, kt, kx, t0, t1, t2, t3, t8, e1, gets_some, -bO_of, -bB_true, -bB_false, -H.next_push, -Int.natCast_add]
    exact ⟨g, .refl⟩
  | cons z C ih =>
    intro S k t h hk hlo hS hl g t0 t1 t2 t3 t8
    obtain ⟨k, rfl⟩ : ∃ m, k = m + 1 := ⟨k - 1, by omega⟩
    rw [List.length_cons] at hk
    rw [loop_succ]
    generalize hL : (fun t h => cLoop Tryz.l251_1 k Tryz.l2 t h) = L
    have hlS : S.length + (C.length + 1) = N := by rw [← hl]; simp
    have e1 : ltI (S.length : Int) (N : Int) = true := ltIt (by omega)
    have e2 : IntKind.i64.wrap ((S.length : Int) + 1) = ((S.length + 1 : Nat) : Int) := by rw [wrapI64 (by omega) (by omega)]; omega
    have e5 : isortE S (z :: C) = isortE (siftE z S.reverse []) C := by conv => lhs; unfold isortE
    rw [e5]
    have hq : (S.reverse.reverse ++ z :: []) ++ C = S ++ z :: C := by simp
    unfold Tryz.l251_1
    simp [↓ kq, kq, ↓ ku, ku, ↓ ko, ko, ↓ kt, ↓ kz, kb, kv, kt, kx, t0, t1, t2, t3, t8, e1, -bO_of, -bB_true, -bB_false, -H.next_push, -Int.natCast_add]
    refine gets_next (gets_next (gets_leave (gets_leave (Gets.mono (Tryz.sift_loop (v := v) (lo := lo) (N := N) (C := C) (z := z) (i := S.length) (bb := .int .i64 N) hN S.reverse [] (k + 1) _ h (by rw [List.length_reverse]; omega) hlo (by rw [hq]; exact hl) (by rw [hq]; exact g) (by simp [kq, kb, t0]) (by simp [kq, kb, t1]) (by simp [kq, kb, t2]) (by simp [kq, kb, t3]) (by simp [kq, kb, t8]) (by simp [kq, kb, List.length_reverse])) fun fl t' h' ⟨b1, b2, b3, b4, b5, b6, b7, b8, b9⟩ => ?_))))
    subst b1
    simp only [if_true]
    simp [↓ kq, kq, ↓ ku, ku, ↓ ko, ko, ↓ kt, ↓ kz, kb, kv, kt, kx, b6, e2, gets_some, -bO_of, -bB_true, -bB_false, -H.next_push, -Int.natCast_add]
    rw [← hL]
    have hsl : (siftE z S.reverse []).length = S.length + 1 := by rw [siftE_len]; simp
    refine Gets.mono (ih (siftE z S.reverse []) k _ h' (by omega) b7 (by omega) (by rw [List.length_append, hsl]; omega) b8 ?_ ?_ ?_ ?_ ?_) fun fl t' h' ⟨c1, c2, c3⟩ => ⟨c1, c2, b9.trans c3⟩
    all_goals simp [kq, kb, b2, b3, b4, b5, hsl]
theorem Tryz.isort {lo : Nat} {v : SV} {l : List Edg} {h : H} (hN : l.length < 4294967296) (hlo : lo ≤ h.next) (g : Gro h lo 3 v l.length (edgs l)) :
    ∃ v' h', Tryz.l2 251 [v, .int .i64 0, .int .i64 l.length, .func 129 []] h = some (v', h') ∧ Gro h' lo 3 v l.length (edgs (isortE [] l)) ∧ Fr (lo ≤ ·) (lo ≤ ·) h h' := by
  refine Go.Sh.enG Tryz.kTab_ok (X := Tryz.X2) (kf := Tryz.k251) rfl (by kernel_rfl) (2 * l.length + 4) Tryz.k251_eq rfl ?_
  have e1 : IntKind.i64.wrap ((0 : Int) + 1) = 1 := by rw [wrapI64 (by omega) (by omega)]; rfl
  have e1' : IntKind.i64.wrap 1 = 1 := by rw [wrapI64 (by omega) (by omega)]
  have e2 : (0 : Int) + 1 = 1 := rfl
  simp [↓ kq, kq, ↓ ku, ku, ↓ ko, ko, ↓ kt, ↓ kz, kb, kv, kt, kx, e1, e1', e2, gets_some, -bO_of, -bB_true, -bB_false, -H.next_push, -Int.natCast_add]
  cases l with
  | nil =>
    refine gets_leave ?_
    rw [loop_succ]
    generalize (fun t h => cLoop Tryz.l251_1 _ Tryz.l2 t h) = L
    unfold Tryz.l251_1
    have e3 : ltI 1 0 = false := rfl
    have e5 : isortE [] [] = [] := by unfold isortE; rfl
    rw [e5]
    simp [↓ kq, kq, ↓ ku, ku, ↓ ko, ko, ↓ kt, ↓ kz, kb, kv, kt, kx, e3, gets_some, kc, oneS, -bO_of, -bB_true, -bB_false, -H.next_push, -Int.natCast_add]
    exact ⟨g, .refl⟩
  | cons z C =>
    have e5 : isortE [] (z :: C) = isortE [z] C := by
      conv => lhs; unfold isortE
      rfl
    rw [e5]
    refine gets_leave (Gets.mono (Tryz.sort_loop (lo := lo) (N := (z :: C).length) (v := v) hN C [z] (2 * (z :: C).length + 4) _ h (by simp; omega) hlo (by simp) (by simp) g (by simp [kq, kb]) (by simp [kq, kb]) (by simp [kq, kb]) (by simp [kq, kb]) (by simp [kq, kb])) fun fl t' h' ⟨b1, b2, b3⟩ => ?_)
    subst b1
    simp only [if_true]
    simp [↓ kq, kq, ↓ ku, ku, ↓ ko, ko, ↓ kt, ↓ kz, kb, kv, kt, kx, gets_some, kc, oneS, -bO_of, -bB_true, -bB_false, -H.next_push, -Int.natCast_add]
    exact ⟨b2, b3⟩
theorem Tryz.pdq {lo : Nat} {v : SV} {l : List Edg} {h : H} {m : SV} (hN : l.length ≤ 12) (hlo : lo ≤ h.next) (g : Gro h lo 3 v l.length (edgs l)) :
    ∃ v' h', Tryz.l2 222 [v, .int .i64 0, .int .i64 l.length, m, .func 129 []] h = some (v', h') ∧ Gro h' lo 3 v l.length (edgs (isortE [] l)) ∧ Fr (lo ≤ ·) (lo ≤ ·) h h' := by
  obtain ⟨v1, h1, k1, g1, f1⟩ := Tryz.isort (by omega) hlo g
  refine Go.Sh.enG Tryz.kTab_ok (X := Tryz.X2) (kf := Tryz.k222) rfl (by kernel_rfl) 2 Tryz.k222_eq rfl ?_
  have e1 : IntKind.i64.wrap ((l.length : Int) - 0) = (l.length : Int) := by rw [wrapI64 (by omega) (by omega)]; omega
  have e1' : IntKind.i64.wrap (l.length : Int) = (l.length : Int) := by rw [wrapI64 (by omega) (by omega)]
  have e2 : ltI 12 (l.length : Int) = false := ltIf (by omega)
  simp [↓ kq, kq, ↓ ku, ku, ↓ ko, ko, ↓ kt, ↓ kz, kb, kv, kt, kx, e1, e1', e2, k1, gets_some, -bO_of, -bB_true, -bB_false, -H.next_push, -Int.natCast_add]
  refine gets_leave ?_
  rw [loop_succ]
  generalize (fun t h => cLoop Tryz.l222_0 _ Tryz.l2 t h) = L
  unfold Tryz.l222_0
  simp [↓ kq, kq, ↓ ku, ku, ↓ ko, ko, ↓ kt, ↓ kz, kb, kv, kt, kx, e1, e1', e2, k1, gets_some, kc, oneS, -bO_of, -bB_true, -bB_false, -H.next_push, -Int.natCast_add]
  exact ⟨g1, f1⟩
end
end Go.Proofs
end
section
/- Edges by place: slices.SortFunc, of twelve at most. -/
namespace Go.Proofs
open Go.Sh
set_option maxRecDepth 100000
attribute [local instance] powHeld
noncomputable section
theorem Tryz.len_of (n : Nat) (hn : n ≤ 12) (h : H) : ∃ m, Tryz.l2 35 [.int .u64 n] h = some (m, h) := by
  have go : ∀ m (n : Int), kcall Tryz.kTab.get Tryz.X2 50 35 [.int .u64 n] h = some (m, h) → Tryz.l2 35 [.int .u64 n] h = some (m, h) := fun m n e => kcall_ok Tryz.kTab_ok 50 _ _ _ _ e
  have cs : n = 0 ∨ n = 1 ∨ n = 2 ∨ n = 3 ∨ n = 4 ∨ n = 5 ∨ n = 6 ∨ n = 7 ∨ n = 8 ∨ n = 9 ∨ n = 10 ∨ n = 11 ∨ n = 12 := by omega
  rcases cs with rfl | rfl | rfl | rfl | rfl | rfl | rfl | rfl | rfl | rfl | rfl | rfl | rfl
  · exact ⟨.int .i64 0, go _ _ (by kernel_rfl)⟩
  · exact ⟨.int .i64 1, go _ _ (by kernel_rfl)⟩
  · exact ⟨.int .i64 2, go _ _ (by kernel_rfl)⟩
  · exact ⟨.int .i64 2, go _ _ (by kernel_rfl)⟩
  · exact ⟨.int .i64 3, go _ _ (by kernel_rfl)⟩
  · exact ⟨.int .i64 3, go _ _ (by kernel_rfl)⟩
  · exact ⟨.int .i64 3, go _ _ (by kernel_rfl)⟩
  · exact ⟨.int .i64 3, go _ _ (by kernel_rfl)⟩
  · exact ⟨.int .i64 4, go _ _ (by kernel_rfl)⟩
  · exact ⟨.int .i64 4, go _ _ (by kernel_rfl)⟩
  · exact ⟨.int .i64 4, go _ _ (by kernel_rfl)⟩
  · exact ⟨.int .i64 4, go _ _ (by kernel_rfl)⟩
  · exact ⟨.int .i64 4, go _ _ (by kernel_rfl)⟩
theorem Tryz.sortFunc {lo : Nat} {v : SV} {l : List Edg} {h : H} (hN : l.length ≤ 12) (hlo : lo ≤ h.next) (g : Gro h lo 3 v l.length (edgs l)) :
    ∃ v' h', Tryz.l2 187 [v, .func 129 []] h = some (v', h') ∧ Gro h' lo 3 v l.length (edgs (isortE [] l)) ∧ Fr (lo ≤ ·) (lo ≤ ·) h h' := by
  obtain ⟨m, k1⟩ := Tryz.len_of l.length hN h
  obtain ⟨v1, h1, k2, g1, f1⟩ := Tryz.pdq (m := m) hN hlo g
  refine Go.Sh.enG Tryz.kTab_ok (X := Tryz.X2) (kf := Tryz.k187) rfl (by kernel_rfl) 2 Tryz.k187_eq rfl ?_
  have lv := g.view.length
  have e1 : IntKind.u64.wrap (l.length : Int) = (l.length : Int) := by rw [wrapU64]; omega
  simp [↓ kq, kq, ↓ ku, ku, ↓ ko, ko, ↓ kt, ↓ kz, kb, kv, kt, kx, lv, e1, k1, k2, gets_some, kc, oneS, -bO_of, -bB_true, -bB_false, -H.next_push, -Int.natCast_add]
  exact ⟨g1, f1⟩
end
end Go.Proofs
end
