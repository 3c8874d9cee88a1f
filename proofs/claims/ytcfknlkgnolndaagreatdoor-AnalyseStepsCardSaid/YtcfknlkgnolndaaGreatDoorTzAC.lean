/- AnalyseTexts: the document's numeral; awake as an oracle. -/
import Derived.Test.YtcfknlkgnolndaaGreatDoorTzAB
set_option linter.unusedVariables false
set_option linter.unusedSimpArgs false
set_option linter.unusedSectionVars false
namespace Go.Proofs
open Go.Sh
set_option linter.unusedVariables false
set_option maxRecDepth 100000
attribute [local instance] powHeld
noncomputable section
abbrev Tryz.lc : CF := (lim Tryz.prog Tryz.X).call
theorem Tryz.enG {f : FuncId} {kf : KF} (hk : Tryz.kTab.get f = some kf) {n : Nat} {args : List SV} {h : H} {Q : SV → H → Prop} {sl : List Pth} {b : Cd} {rs : List RF} (he : kf = ⟨sl, b, rs⟩) {t : T} (ha : argsP sl args .leaf = some t)
    (g : Gets (b n Tryz.lc t h) fun fl t h => (fl = .normal ∨ fl = .ret) ∧ ∃ vs, kresL t h rs = some vs ∧ Q (oneS vs) h) (hX : Tryz.X f = none := by rfl) : ∃ v h', Tryz.lc f args h = some (v, h') ∧ Q v h' :=
  Go.Sh.enG Tryz.kTab_ok hX hk n he ha g
theorem Tryz.dec_exit {h : H} {v : SV} {bs : List UInt8} (w : View h 1 v bs.length (u8s bs)) (hb : bs ≠ []) (c : CF) (k : Nat) (t : T) (h3 : getP (way 3) t = some (.int .u64 0)) (h5 : getP (way 5) t = some v) :
    cLoop Tryz.l25_0 (k + 1) c t h = some (.exit 0, setP (way 18) (.bool false) t, h) := by
  rw [loop_succ]
  generalize (fun t h => cLoop Tryz.l25_0 k c t h) = L
  unfold Tryz.l25_0
  have hl := w.length
  have e1 : ltI 0 0 = false := rfl
  have e2 : eqI (bs.length : Int) 0 = false := eqIf (by
    have := List.length_pos_iff.2 hb; omega)
  generalize bs.length = n at *
  simp [↓ kq, kq, ↓ ko, ko, ↓ kt, ↓ kz, kb, kv, kt, kx, h3, h5, hl, e1, e2, -bO_of, -bB_true, -bB_false, -H.next_push, -Int.natCast_add]
theorem Tryz.dec_step {h : H} {v : SV} {bs : List UInt8} {u : Nat} (hu : u < 18446744073709551616) (hn : 0 < u ∨ bs = []) (hb : bs.length ≤ 1000) (w : View h 1 v bs.length (u8s bs)) (c : CF) (k : Nat) (t : T) (h3 : getP (way 3) t = some (.int .u64 u)) (h5 : getP (way 5) t = some v) :
    ∃ v' h', cLoop Tryz.l25_0 (k + 1) c t h = cLoop Tryz.l25_0 k c (setP (way 3) (.int .u64 ((u / 10 : Nat) : Int)) (setP (way 5) v' (setP (way 18) (.bool true) t))) h' ∧ View h' 1 v' (bs.length + 1) (u8s (UInt8.ofNat (48 + u % 10) :: bs)) ∧ Calms h h' := by
  obtain ⟨r, hr⟩ : ∃ r, r = u % 10 := ⟨_, rfl⟩
  obtain ⟨q, hq⟩ : ∃ q, q = u / 10 := ⟨_, rfl⟩
  obtain ⟨D, hD⟩ : ∃ D, D = 48 + r := ⟨_, rfl⟩
  rw [← hr, ← hq, ← hD]
  have er : arithInt .rem .u64 (u : Int) 10 = some (r : Int) := by
    show (if (10 : Int) = 0 then none else some ((u : Int).tmod 10)) = _
    rw [if_neg (by decide), Int.tmod_eq_emod_of_nonneg (by omega)]; congr 1; omega
  have eq : arithInt .quo .u64 (u : Int) 10 = some (q : Int) := by
    show (if (10 : Int) = 0 then none else some (IntKind.u64.wrap ((u : Int).tdiv 10))) = _
    rw [if_neg (by decide), Int.tdiv_eq_ediv_of_nonneg (by omega), wrapU64]; congr 1; omega
  have ew : IntKind.u64.wrap (48 + (r : Int)) = (D : Int) := by rw [wrapU64]; omega
  have e8 : IntKind.u8.wrap (D : Int) = (D : Int) := by rw [wrapU8]; omega
  generalize hh1 : h.push (.cells [.int .u8 D] .fixed) = h1
  have f1 := calm_push hh1
  obtain ⟨v', h2, a1, a2, a3, a4⟩ := full_append (bytes := 1) (es := 1) (n := 1) (get_pushed hh1) rfl bs.length (u8s bs) (by simp [u8s]) (by omega)
  have ap := append_V (w.keep f1 fun _ _ k => k) a1
  have cell : u8s (UInt8.ofNat D :: bs) = [SV.int .u8 (D : Int)] ++ u8s bs := by
    have : (UInt8.ofNat D).toNat = D := by simp; omega
    show SV.int .u8 ((UInt8.ofNat D).toNat : Int) :: u8s bs = _
    rw [this]; rfl
  refine ⟨v', h2, ?_, by rw [cell, Nat.add_comm]; exact a2, f1.trans a3⟩
  rw [loop_succ]
  generalize hL : (fun t h => cLoop Tryz.l25_0 k c t h) = L
  have hL' : ∀ t h, cLoop Tryz.l25_0 k c t h = L t h := fun t h => by rw [← hL]
  rw [hL']
  unfold Tryz.l25_0
  by_cases hu0 : 0 < u
  · have e1 : ltI 0 (u : Int) = true := ltIt (by omega)
    simp [↓ kq, kq, ↓ ko, ko, ↓ kt, ↓ kz, kb, kv, kt, kx, h3, h5, e1, er, eq, ew, e8, hh1, ap, -bO_of, -bB_true, -bB_false, -H.next_push, -Int.natCast_add]
  · have hbs : bs = [] := by rcases hn with h | h; exact absurd h hu0; exact h
    have e1 : ltI 0 (u : Int) = false := ltIf (by omega)
    have e2 : eqI ((bs.length : Nat) : Int) 0 = true := eqIt (by simp [hbs])
    have hl := w.length
    generalize bs.length = n at *
    simp [↓ kq, kq, ↓ ko, ko, ↓ kt, ↓ kz, kb, kv, kt, kx, h3, h5, hl, e1, e2, er, eq, ew, e8, hh1, ap, -bO_of, -bB_true, -bB_false, -H.next_push, -Int.natCast_add]
theorem Tryz.dec_loop (c : CF) : ∀ (m k u : Nat) (bs : List UInt8) (v : SV) (t : T) (h : H), u < 10 ^ (m + 1) → u < 18446744073709551616 → m + 2 ≤ k → (0 < u ∨ bs = []) → bs.length + m ≤ 100 → View h 1 v bs.length (u8s bs) → getP (way 3) t = some (.int .u64 u) → getP (way 5) t = some v →
    Gets (cLoop Tryz.l25_0 k c t h) fun fl t' h' => fl = .exit 0 ∧ getP (way 4) t' = getP (way 4) t ∧ ∃ v', getP (way 5) t' = some v' ∧ View h' 1 v' (digs (m + 1) u bs).length (u8s (digs (m + 1) u bs)) ∧ Calms h h' := by
  intro m
  induction m with
  | zero =>
    intro k u bs v t h hu hu' hk hn hb w t3 t5
    obtain ⟨k, rfl⟩ : ∃ m, k = m + 2 := ⟨k - 2, by omega⟩
    have hu : u < 10 := by simpa using hu
    obtain ⟨v', h', e, w', f⟩ := Tryz.dec_step hu' hn (by omega) w c (k + 1) t t3 t5
    rw [e, Tryz.dec_exit w' (by simp) c k _ (by simp [kq]; omega) (by simp [kq, kb]), gets_some]
    have ed : digs 1 u bs = UInt8.ofNat (48 + u % 10) :: bs := by
      unfold digs; rw [show Nat.blt u 10 = true from Nat.ble_eq_true_of_le hu, Nat.mod_eq_of_lt hu]; rfl
    rw [ed]
    exact ⟨rfl, by simp [kq, kb], v', by simp [kq, kb], w', f⟩
  | succ m ih =>
    intro k u bs v t h hu hu' hk hn hb w t3 t5
    obtain ⟨k, rfl⟩ : ∃ m, k = m + 2 := ⟨k - 2, by omega⟩
    obtain ⟨v', h', e, w', f⟩ := Tryz.dec_step hu' hn (by omega) w c (k + 1) t t3 t5
    rw [e]
    by_cases h10 : u < 10
    · rw [Tryz.dec_exit w' (by simp) c k _ (by simp [kq, kb]; omega) (by simp [kq, kb]), gets_some]
      have ed : digs (m + 1 + 1) u bs = UInt8.ofNat (48 + u % 10) :: bs := by
        unfold digs; rw [show Nat.blt u 10 = true from Nat.ble_eq_true_of_le h10, Nat.mod_eq_of_lt h10]; rfl
      rw [ed]
      exact ⟨rfl, by simp [kq, kb], v', by simp [kq, kb], w', f⟩
    · have ed : digs (m + 1 + 1) u bs = digs (m + 1) (u / 10) (UInt8.ofNat (48 + u % 10) :: bs) := by
        rw [digs, show Nat.blt u 10 = false from by
          cases e : Nat.blt u 10
          · rfl
          · exact absurd (Nat.le_of_ble_eq_true e) h10]; rfl
      rw [ed]
      refine Gets.mono (ih (k + 1) (u / 10) (UInt8.ofNat (48 + u % 10) :: bs) v' _ h' (by rw [Nat.pow_succ] at hu; omega) (by omega) (by omega) (.inl (by omega)) (by simp; omega) w' (by simp [kq, kb]) (by simp [kq, kb])) fun fl t' h'' ⟨b1, b2, v2, b3, b4, b5⟩ => ?_
      exact ⟨b1, b2.trans (by simp [kq, kb]), v2, b3, b4, f.trans b5⟩
theorem Tryz.decimal (n : Int) (n0 : -9223372036854775808 ≤ n) (n1 : n ≤ 9223372036854775807) (h : H) : ∃ r h', Tryz.lc 25 [.int .i64 n] h = some (r, h') ∧ TextRes h (itoaS n) r h' := by
  refine Tryz.enG (n := 22) (kf := Tryz.k25) (by kernel_rfl) Tryz.k25_eq rfl ?_
  have p20 : (10 : Nat) ^ 20 = 100000000000000000000 := by decide
  have w0 : View h 1 .nilslice 0 (u8s []) := ⟨rfl, .inl ⟨rfl, rfl⟩⟩
  rcases Int.lt_or_le n 0 with hn | hn
  rotate_left
  · obtain ⟨u, rfl⟩ : ∃ u : Nat, n = u := ⟨n.toNat, by omega⟩
    have e1 : ltI (u : Int) 0 = false := ltIf (by omega)
    have ew : IntKind.u64.wrap (u : Int) = (u : Int) := by rw [wrapU64]; omega
    have hk : ∀ h', Calms h h' → TextRes h (itoaS u) (.str (digs 20 u [])) h' := fun h' f => ⟨rfl, f⟩
    generalize hK : TextRes h (itoaS u) = K at *
    simp [↓ kq, kq, ↓ ko, ko, ↓ kt, ↓ kz, kb, kv, kt, kx, e1, ew, -bO_of, -bB_true, -bB_false, -H.next_push, -Int.natCast_add]
    refine gets_next (gets_leave (Gets.mono (Tryz.dec_loop _ 19 22 u [] .nilslice _ h (by omega) (by omega) (by omega) (.inr rfl) (by simp) w0 (by simp [kq, kb]) (by simp [kq, kb])) fun fl t' h' ⟨b1, b2, v2, b3, b4, b5⟩ => ?_))
    subst b1
    have b2 : getP (way 4) t' = some (.str []) := b2.trans (by simp [kq, kb])
    have b6 := b4.text
    have l1 := digs_len 20 u []
    have b7 : strOp .add [] (digs (19 + 1) u []) = some (.str (digs 20 u [])) := strAdd (by simp at l1 ⊢; omega)
    generalize digs (19 + 1) u [] = D at *
    simp only [if_true]
    simp [↓ kq, kq, ↓ ko, ko, ↓ kt, ↓ kz, kb, kv, kt, kx, b2, b3, b6, b7, gets_some, kc, oneS, -bO_of, -bB_true, -bB_false, -H.next_push, -Int.natCast_add]
    exact hk _ b5
  · obtain ⟨y, hy⟩ : ∃ y, y = n.natAbs := ⟨_, rfl⟩
    have e1 : ltI n 0 = true := ltIt hn
    obtain ⟨Y, hY⟩ : ∃ Y, Y = 18446744073709551616 - y := ⟨_, rfl⟩
    have ew : IntKind.u64.wrap n = (Y : Int) := by rw [wrapU64]; omega
    have en : ∀ k, unS .neg (.int k (Y : Int)) = some (.int k (k.wrap (0 - (Y : Int)))) := fun _ => rfl
    have ew2 : IntKind.u64.wrap (-(Y : Int)) = (y : Int) := by rw [wrapU64]; omega
    have ez : itoaS n = 45 :: digs 20 y [] := by rw [hy]; exact itoaS_neg hn
    have hk : ∀ h', Calms h h' → TextRes h (itoaS n) (.str (45 :: digs 20 y [])) h' := fun h' f => ⟨by rw [ez], f⟩
    generalize hK : TextRes h (itoaS n) = K at *
    simp [↓ kq, kq, ↓ ko, ko, ↓ kt, ↓ kz, kb, kv, kt, kx, e1, ew, en, ew2, -bO_of, -bB_true, -bB_false, -H.next_push, -Int.natCast_add]
    refine gets_next (gets_leave (Gets.mono (Tryz.dec_loop _ 19 22 y [] .nilslice _ h (by omega) (by omega) (by omega) (.inr rfl) (by simp) w0 (by simp [kq, kb]) (by simp [kq, kb])) fun fl t' h' ⟨b1, b2, v2, b3, b4, b5⟩ => ?_))
    subst b1
    have b2 : getP (way 4) t' = some (.str [45]) := b2.trans (by simp [kq, kb])
    have b6 := b4.text
    have l1 := digs_len 20 y []
    have b7 : strOp .add [45] (digs (19 + 1) y []) = some (.str (45 :: digs 20 y [])) := strAdd (by simp at l1 ⊢; omega)
    generalize digs (19 + 1) y [] = D at *
    simp only [if_true]
    simp [↓ kq, kq, ↓ ko, ko, ↓ kt, ↓ kz, kb, kv, kt, kx, b2, b3, b6, b7, gets_some, kc, oneS, -bO_of, -bB_true, -bB_false, -H.next_push, -Int.natCast_add]
    exact hk _ b5

theorem gDec_ok : ∀ args v, gDec args = some v → args.all plain1 = true ∧ plainV v = true ∧ ∃ h', Tryz.lc 25 args H.empty = some (v, h') := by
  intro args v e
  unfold gDec at e
  split at e
  · rename_i n
    obtain ⟨a, b, rfl⟩ := int_range e
    obtain ⟨r, h', k1, rfl, _⟩ := Tryz.decimal n a b .empty
    exact ⟨rfl, rfl, h', k1⟩
  · cases e
theorem Tryz.awake_or : OrOK Tryz.prog (24, xBool true) := by
  have h1 := Tryz.awake24
  cases h2 : kcall Tryz.kTab.get Tryz.X 100000 24 [] .empty with
  | none => rw [h2] at h1; cases h1
  | some r =>
    rw [h2] at h1
    obtain ⟨v, h'⟩ := r
    cases h1
    exact xBool_ok Tryz.good Tryz.X_ok (kcall_ok Tryz.kTab_ok 100000 _ _ _ _ h2) Tryz.func24 (body_of (by kernel_rfl)) held_up
theorem Tryz.pureOr {f : FuncId} {g : List SV → Option SV} (hg : ∀ args v, g args = some v → args.all plain1 = true ∧ plainV v = true ∧ ∃ h', Tryz.lc f args H.empty = some (v, h')) {fn : Func} {c : Code} (hf : Tryz.prog.funcs[f]? = some fn) (hb : fn.body = some c) : OrOK Tryz.prog (f, xPure g) :=
  xPure_ok Tryz.good Tryz.X_ok hg hf hb held_up
def Tryz.OL2 : OrL := [(24, xBool true), (25, xPure gDec)]
def Tryz.X2 : FuncId → Option (List SV → H → Option (SV × H)) := orGet Tryz.X Tryz.OL2
theorem Tryz.X2_ok : OracleOK Tryz.prog Tryz.X2 := orGet_ok Tryz.X_ok (l := Tryz.OL2) ⟨Tryz.awake_or, Tryz.pureOr gDec_ok Tryz.func25 (body_of (by kernel_rfl)), trivial⟩
abbrev Tryz.l2 : CF := (lim Tryz.prog Tryz.X2).call
theorem Tryz.dec2 {n : Int} (hn : I64 n) (h : H) : Tryz.l2 25 [.int .i64 n] h = some (.str (itoaS n), h) := by
  rw [show Tryz.l2 25 [.int .i64 n] h = xPure gDec [.int .i64 n] h from lc_or (g := xPure gDec) rfl _ _]
  exact xItoa_in hn h
theorem Tryz.itoa2 {n : Int} (hn : I64 n) (h : H) : Tryz.l2 64 [.int .i64 n] h = some (.str (itoaS n), h) := by
  rw [show Tryz.l2 64 [.int .i64 n] h = xItoa [.int .i64 n] h from lc_or (g := xItoa) rfl _ _]
  exact xItoa_in hn h
theorem Tryz.awake2 (h : H) : Tryz.l2 24 [] h = some (.bool true, h) := lc_or (g := xBool true) rfl _ _
/-- Why there is none, as a text. -/
def whyText (code file at_ : Int) (m : List UInt8) (pc rule : Int) : List UInt8 :=
  if code = 0 then [111, 107] else if code = 9 then ((((([101, 114, 114, 111, 114, 32] ++ itoaS code) ++ [32]) ++ m) ++ [32]) ++ itoaS pc ++ [32]) ++ itoaS rule
  else ((([101, 114, 114, 111, 114, 32] ++ itoaS code) ++ [32]) ++ itoaS file ++ [32]) ++ itoaS at_
end
end Go.Proofs
