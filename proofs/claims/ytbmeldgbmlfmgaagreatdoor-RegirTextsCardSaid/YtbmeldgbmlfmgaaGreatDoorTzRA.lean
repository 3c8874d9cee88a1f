/- RegirTexts: the library's numerals and joined texts as oracles; the calls of the program. -/
import Derived.Test.YtbmeldgbmlfmgaaGreatDoorTzRL
import Derived.Test.YtbmeldgbmlfmgaaGreatDoorTzRShelf
import Derived.Test.YtbmeldgbmlfmgaaGreatDoorSh11
import Derived.Test.YtbmeldgbmlfmgaaGreatDoorSh16
import Derived.Test.YtbmeldgbmlfmgaaGreatDoorSh17
import Derived.Test.YtbmeldgbmlfmgaaGreatDoorChecked
set_option linter.unusedVariables false
set_option linter.unusedSimpArgs false
set_option linter.unusedSectionVars false
namespace Go.Proofs
open Go.Sh Go.Shelf Go.RowKit
set_option linter.unusedVariables false
noncomputable section
theorem Tryz.good : Go.Sh.Good Tryz.prog := good_of_check Tryz.codeOk (by kernel_rfl) (by kernel_rfl)
@[reducible] def powHeld : Held := ⟨fun w => Lib.TabIs Tryz.prog w "internal/strconv.uint64pow10" .u64 Lib.pow10Tab, 2, fun w w' h1 h2 => by
  unfold Lib.TabIs World.var? at *
  rw [show Tryz.prog.globalNamed "internal/strconv.uint64pow10" = some 1 by kernel_rfl] at *
  simp only [Option.bind_some] at *
  rw [h1 1 (by omega)]
  exact h2⟩
attribute [local instance] powHeld
/-- a number's digits -/
def digs : Nat → Nat → List UInt8 → List UInt8
  | 0, _, acc => acc
  | f + 1, u, acc => bB (Nat.blt u 10) (UInt8.ofNat (48 + u) :: acc) (digs f (u / 10) (UInt8.ofNat (48 + u % 10) :: acc))
theorem digs_eq : ∀ (f u : Nat) (acc : List UInt8), u < 10 ^ (f + 1) → digs (f + 1) u acc = Lib.decDigits u ++ acc
  | 0, u, acc, h => by
    have h : u < 10 := by simpa using h
    unfold digs
    rw [show Nat.blt u 10 = true from Nat.ble_eq_true_of_le h, Lib.decDigits_one h]; rfl
  | f + 1, u, acc, h => by
    unfold digs
    by_cases h1 : u < 10
    · rw [show Nat.blt u 10 = true from Nat.ble_eq_true_of_le h1, Lib.decDigits_one h1]; rfl
    · have hb : Nat.blt u 10 = false := by
        cases e : Nat.blt u 10
        · rfl
        · exact absurd (Nat.le_of_ble_eq_true e) h1
      have h' : u / 10 < 10 ^ (f + 1) := by rw [Nat.pow_succ] at h; omega
      rw [hb]
      show digs (f + 1) (u / 10) _ = _
      rw [digs_eq f (u / 10) _ h', Lib.decDigits.eq_def u, dif_neg h1, List.append_assoc]; rfl
def itoaS : Int → List UInt8
  | .ofNat u => digs 20 u []
  | .negSucc u => 45 :: digs 20 (u + 1) []
theorem itoaS_eq {n : Int} (h0 : -9223372036854775808 ≤ n) (h1 : n ≤ 9223372036854775807) : itoaS n = Lib.itoa n := by
  cases n with
  | ofNat u =>
    have hu : u < 10 ^ 20 := by
      have : (10 : Nat) ^ 20 = 100000000000000000000 := by decide
      have h1 : (u : Int) ≤ 9223372036854775807 := h1
      omega
    show digs 20 u [] = Lib.itoa (u : Int)
    rw [Lib.itoa_nonneg, digs_eq 19 u [] hu, List.append_nil]
  | negSucc u =>
    have hu : u + 1 < 10 ^ 20 := by
      have : (10 : Nat) ^ 20 = 100000000000000000000 := by decide
      have h0 : -9223372036854775808 ≤ -((u + 1 : Nat) : Int) := h0
      omega
    show 45 :: digs 20 (u + 1) [] = Lib.itoa (-((u + 1 : Nat) : Int))
    rw [Lib.itoa_neg _ (by omega), digs_eq 19 (u + 1) [] hu, List.append_nil]
/-- a number's text -/
def xItoa : List SV → H → Option (SV × H)
  | [.int .i64 n], h => bB (ltI n 9223372036854775808) (bB (ltI n (-9223372036854775808)) none (some (.str (itoaS n), h))) none
  | _, _ => none
theorem Tryz.xItoa_ok : ∀ args h v h', xItoa args h = some (v, h') → ∀ B ι w (us : Array Value), St B ι h w → LRel ι args us.toList → Answers Tryz.prog 15 us w fun v' w' => ∃ ι', VRel ι' v v' ∧ Moves B ι h w ι' h' w' := by
  intro args h v h' hx B ι w us hs hl
  unfold xItoa at hx
  split at hx
  · rename_i n
    cases hb : ltI n 9223372036854775808
    · rw [hb] at hx; cases hx
    · cases hc : ltI n (-9223372036854775808)
      · rw [hb, hc] at hx
        cases hx
        rw [ltI_eq] at hb hc
        have hb := of_decide_eq_true hb
        have hc := of_decide_eq_false hc
        have hu : us = #[.int .i64 n] := by
          obtain ⟨y, r, e1, h1, h2⟩ := hl
          have h1 : y = .int .i64 n := h1
          have h2 : r = [] := h2
          subst h1 h2
          exact Array.toList_inj.1 e1
        subst hu
        refine .inl ⟨enters_of Tryz.func15 (by kernel_rfl) rfl _ _, ?_⟩
        refine (Any.strconv_Itoa Tryz.laysItoa n (by omega) (by omega) w hs.held.2).mono fun en w' ⟨e1, k, os, e2⟩ => ?_
        subst e2
        refine ⟨_, e1, ι, ?_, .below hs ⟨rfl, rfl, rfl, ?_, fun b hb => ?_⟩⟩
        · rw [itoaS_eq (by omega) (by omega)]; rfl
        · simp [«Sort».grow]
        · simp [«Sort».grow, Array.getElem?_append_left, hb]
      · rw [hb, hc] at hx; cases hx
  · cases hx
def Tryz.X0 (f : FuncId) : Option (List SV → H → Option (SV × H)) := bB (Nat.beq f 15) (some xItoa) (bB (Nat.beq f 13) (some xJoin) none)
set_option maxRecDepth 100000 in
theorem Tryz.X0_ok : OracleOK Tryz.prog Tryz.X0 := fun f g e => by
  unfold Tryz.X0 at e
  cases h1 : Nat.beq f 15
  · rw [h1] at e
    cases h2 : Nat.beq f 13
    · rw [h2] at e; cases e
    · rw [h2] at e; cases e
      have := Nat.eq_of_beq_eq_true h2; subst this
      exact xJoin_ok Tryz.lays156 Tryz.Builder_Extra_156
  · rw [h1] at e; cases e
    have := Nat.eq_of_beq_eq_true h1; subst this
    exact Tryz.xItoa_ok
set_option maxRecDepth 100000 in
/-- 'awake' answers true. -/
theorem Tryz.awake5 : ((kcall Tryz.kTab.get Tryz.X0 1000 5 [] .empty).map (·.1)) = some (.bool true) := by kernel_rfl
/-- the table of what is known of all instructions -/
def Tryz.tbl : List SV := match kcall Tryz.kTab.get Tryz.X0 100 36 [] .empty with
  | some (.agg cs, _) => cs
  | _ => []
def Tryz.tblF : List SV → Option SV
  | [] => some (.agg Tryz.tbl)
  | _ => none
set_option maxRecDepth 100000 in
theorem Tryz.tbl_ok : (match kcall Tryz.kTab.get Tryz.X0 100 36 [] .empty with
  | some (.agg cs, _) => cs.all plain1
  | _ => false) = true := by kernel_rfl
theorem Tryz.tblF_ok : ∀ args v, Tryz.tblF args = some v → args.all plain1 = true ∧ plainV v = true ∧ ∃ h', (lim Tryz.prog Tryz.X0).call 36 args H.empty = some (v, h') := by
  intro args v e
  unfold Tryz.tblF at e
  split at e
  · cases e
    have h1 := Tryz.tbl_ok
    unfold Tryz.tbl
    cases h2 : kcall Tryz.kTab.get Tryz.X0 100 36 [] .empty with
    | none => rw [h2] at h1; cases h1
    | some r =>
      rw [h2] at h1
      obtain ⟨v, h'⟩ := r
      cases v <;> first | cases h1 | skip
      exact ⟨rfl, h1, h', kcall_ok Tryz.kTab_ok 100 _ _ _ _ h2⟩
  · cases e
def wordN (n : Nat) : List UInt8 := match idxX (n * 8) Tryz.tbl with
  | some (.str s) => s
  | _ => []
set_option maxRecDepth 100000 in
theorem Tryz.tbl_rows : ((List.range 39).all fun n => match kpart (some 8) Tryz.tbl (n * 8) with
  | some (.agg (.str s :: rest)) => Nat.beq rest.length 7 && eqB s (wordN n)
  | _ => false) = true := by kernel_rfl
theorem Tryz.tbl_row {n : Nat} (h : n < 39) : ∃ rest, kpart (some 8) Tryz.tbl (n * 8) = some (.agg (.str (wordN n) :: rest)) ∧ rest.length = 7 := by
  have a := List.all_eq_true.1 Tryz.tbl_rows n (List.mem_range.2 h)
  revert a
  cases e : kpart (some 8) Tryz.tbl (n * 8) with
  | none => intro a; cases a
  | some v =>
    intro a
    split at a
    · rename_i s rest e'
      rw [Bool.and_eq_true, eqB_eq, eqBytes_eq] at a
      obtain ⟨a1, a2⟩ := a
      cases e'
      exact ⟨rest, by rw [eq_of_beq a2], Nat.eq_of_beq_eq_true a1⟩
    · cases a
def Tryz.X (f : FuncId) : Option (List SV → H → Option (SV × H)) := bB (Nat.beq f 15) (some xItoa) (bB (Nat.beq f 13) (some xJoin) (bB (Nat.beq f 5) (some (xBool true)) (bB (Nat.beq f 36) (some (xPure Tryz.tblF)) none)))
set_option maxRecDepth 100000 in
theorem Tryz.awake_call : ∀ args h v h', xBool true args h = some (v, h') → ∀ B ι w (us : Array Value), St B ι h w → LRel ι args us.toList → Answers Tryz.prog 5 us w fun v' w' => ∃ ι', VRel ι' v v' ∧ Moves B ι h w ι' h' w' := by
  have h1 := Tryz.awake5
  cases h2 : kcall Tryz.kTab.get Tryz.X0 1000 5 [] .empty with
  | none => rw [h2] at h1; cases h1
  | some r =>
    rw [h2] at h1
    obtain ⟨v, h'⟩ := r
    cases h1
    obtain ⟨c, hc⟩ : ∃ c, Tryz.f5.body = some c := Option.isSome_iff_exists.1 (by kernel_rfl)
    exact xBool_ok Tryz.good Tryz.X0_ok (kcall_ok Tryz.kTab_ok 1000 _ _ _ _ h2) Tryz.func5 hc (fun B w hb hw hle => ⟨Nat.le_trans hb hle, hw.2⟩)
set_option maxRecDepth 100000 in
theorem Tryz.X_ok : OracleOK Tryz.prog Tryz.X := fun f g e => by
  unfold Tryz.X at e
  cases h1 : Nat.beq f 15
  · rw [h1] at e
    cases h2 : Nat.beq f 13
    · rw [h2] at e
      cases h3 : Nat.beq f 5
      · rw [h3] at e
        cases h4 : Nat.beq f 36
        · rw [h4] at e; cases e
        · rw [h4] at e; cases e
          have := Nat.eq_of_beq_eq_true h4; subst this
          obtain ⟨c, hc⟩ : ∃ c, Tryz.f36.body = some c := Option.isSome_iff_exists.1 (by kernel_rfl)
          exact xPure_ok Tryz.good Tryz.X0_ok Tryz.tblF_ok Tryz.func36 hc (fun B w hb hw hle => ⟨Nat.le_trans hb hle, hw.2⟩)
      · rw [h3] at e; cases e
        have := Nat.eq_of_beq_eq_true h3; subst this
        exact Tryz.awake_call
    · rw [h2] at e; cases e
      have := Nat.eq_of_beq_eq_true h2; subst this
      exact xJoin_ok Tryz.lays156 Tryz.Builder_Extra_156
  · rw [h1] at e; cases e
    have := Nat.eq_of_beq_eq_true h1; subst this
    exact Tryz.xItoa_ok
abbrev Tryz.lc : CF := (lim Tryz.prog Tryz.X).call
theorem Tryz.en {f : FuncId} {kf : KF} (hk : Tryz.kTab.get f = some kf) {n : Nat} {args : List SV} {h : H} {r : SV × H} (e : kenter kf n Tryz.lc args h = some r) (hX : Tryz.X f = none := by rfl) : Tryz.lc f args h = some r := lim_enter Tryz.kTab_ok hX hk e
theorem Tryz.enG {f : FuncId} {kf : KF} (hk : Tryz.kTab.get f = some kf) {n : Nat} {args : List SV} {h : H} {Q : SV → H → Prop} {sl : List Pth} {b : Cd} {rs : List RF} (he : kf = ⟨sl, b, rs⟩) {t : T} (ha : argsP sl args .leaf = some t)
    (g : Gets (b n Tryz.lc t h) fun fl t h => (fl = .normal ∨ fl = .ret) ∧ ∃ vs, kresL t h rs = some vs ∧ Q (oneS vs) h) (hX : Tryz.X f = none := by rfl) : ∃ v h', Tryz.lc f args h = some (v, h') ∧ Q v h' := by
  obtain ⟨v, h', k1, k2⟩ := gets_fin g
  refine ⟨v, h', Tryz.en hk (n := n) ?_ hX, k2⟩
  rw [he, enter_eq, ha]
  exact k1
theorem Tryz.awake (h : H) : Tryz.lc 5 [] h = some (.bool true, h) := by
  show (lim Tryz.prog Tryz.X).call 5 [] h = _
  rw [call_eq]
  rfl
theorem Tryz.itoa (n : Int) (h0 : -9223372036854775808 ≤ n) (h1 : n ≤ 9223372036854775807) (h : H) : Tryz.lc 15 [.int .i64 n] h = some (.str (itoaS n), h) := by
  show (lim Tryz.prog Tryz.X).call 15 _ h = _
  rw [call_eq]
  show xItoa [.int .i64 n] h = _
  unfold xItoa
  simp only
  rw [show ltI n 9223372036854775808 = true by rw [ltI_eq]; exact decide_eq_true (by omega), show ltI n (-9223372036854775808) = false by rw [ltI_eq]; exact decide_eq_false (by omega)]; rfl
theorem Tryz.table (h : H) : Tryz.lc 36 [] h = some (.agg Tryz.tbl, h) := by
  show (lim Tryz.prog Tryz.X).call 36 [] h = _
  rw [call_eq]
  rfl
end
end Go.Proofs
