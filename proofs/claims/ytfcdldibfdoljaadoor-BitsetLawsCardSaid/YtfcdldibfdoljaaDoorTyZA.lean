/- Bitset: the library's count of trailing zeros as an oracle; the calls of the program. -/
import Derived.Test.YtfcdldibfdoljaaDoorTyZL
import Derived.Test.YtfcdldibfdoljaaDoorSh15
import Derived.Test.YtfcdldibfdoljaaDoorSh16
import Derived.Test.YtfcdldibfdoljaaDoorChecked
import Derived.Shelf.Spec.TrailingZeros
set_option linter.unusedVariables false
set_option linter.unusedSimpArgs false
set_option linter.unusedSectionVars false
namespace Go.Proofs
open Go.Sh Go.Shelf Go.RowKit
set_option linter.unusedVariables false
noncomputable section
def Tryd.tzRen : Ren := ⟨fun | 29 => 21 | n => n, fun | 22 => 40 | 25 => 46 | 54 => 45 | n => n, fun | 1 => 0 | n => n⟩
theorem Tryd.good : Go.Sh.Good Tryd.prog := good_of_check Tryd.codeOk (by kernel_rfl) (by kernel_rfl)
@[reducible] def tabHeld : Held := ⟨fun w => TabAt 0 Lib.deBruijn64tab w, 1, fun w w' h1 h2 j hj => by
  have := h2 j hj
  unfold World.cell? at this ⊢
  rw [h1 0 (by omega)]
  exact this⟩
theorem Tryd.tzLay : Lays7.n29 Tryd.prog Tryd.tzRen where
  mixed := by kernel_rfl
  f29 := Tryd.func21.trans (congrArg some (by kernel_rfl))
  t0 := Tryd.underlying0
  a0 := Tryd.isAgg0
  z0 := Tryd.sizeOf0
  v0 := Tryd.zeroValue0
  i0 := by kernel_rfl
  t3 := Tryd.underlying3
  a3 := Tryd.isAgg3
  z3 := Tryd.sizeOf3
  v3 := Tryd.zeroValue3
  i3 := by kernel_rfl
  t4 := Tryd.underlying4
  a4 := Tryd.isAgg4
  z4 := Tryd.sizeOf4
  v4 := Tryd.zeroValue4
  i4 := by kernel_rfl
  t5 := Tryd.underlying5
  a5 := Tryd.isAgg5
  z5 := Tryd.sizeOf5
  v5 := Tryd.zeroValue5
  i5 := by kernel_rfl
  t22 := Tryd.underlying40
  a22 := Tryd.isAgg40
  z22 := Tryd.sizeOf40
  v22 := Tryd.zeroValue40
  i22 := by kernel_rfl
  t25 := Tryd.underlying46
  a25 := Tryd.isAgg46
  z25 := Tryd.sizeOf46
  v25 := Tryd.zeroValue46
  i25 := by kernel_rfl
  t54 := Tryd.underlying45
  a54 := Tryd.isAgg45
  z54 := Tryd.sizeOf45
  g1 := by kernel_rfl
attribute [local instance] tabHeld
/-- how many zeros stand at a number's end -/
def xTz : List SV → H → Option (SV × H)
  | [.int .u64 (.ofNat n)], h => bB (Nat.blt n 18446744073709551616) (some (.int .i64 (Lib.ctz 64 n : Nat), h)) none
  | _, _ => none
theorem Tryd.xTz_ok : ∀ args h v h', xTz args h = some (v, h') → ∀ B ι w (us : Array Value), St B ι h w → LRel ι args us.toList → Answers Tryd.prog 21 us w fun v' w' => ∃ ι', VRel ι' v v' ∧ Moves B ι h w ι' h' w' := by
  intro args h v h' hx B ι w us hs hl
  unfold xTz at hx
  split at hx
  · rename_i n
    cases hb : Nat.blt n 18446744073709551616
    · rw [hb] at hx; cases hx
    · rw [hb] at hx
      cases hx
      have hn : n < 18446744073709551616 := Nat.le_of_ble_eq_true hb
      have hu : us = #[.int .u64 (n : Int)] := by
        obtain ⟨y, r, e1, h1, h2⟩ := hl
        have h1 : y = .int .u64 (Int.ofNat n) := h1
        have h2 : r = [] := h2
        subst h1 h2
        exact Array.toList_inj.1 e1
      subst hu
      refine .inl ⟨enters_of Tryd.func21 (by kernel_rfl) rfl _ _, ?_⟩
      refine (Any7.bits_TrailingZeros64 Tryd.tzLay n hn w fun _ => hs.held.2).mono fun en w' ⟨e1, e2⟩ => ?_
      subst e2
      exact ⟨_, e1, ι, rfl, .refl hs⟩
  · cases hx
def Tryd.X0 (f : FuncId) : Option (List SV → H → Option (SV × H)) := bB (Nat.beq f 21) (some xTz) none
theorem Tryd.X0_ok : OracleOK Tryd.prog Tryd.X0 := fun f g e => by
  unfold Tryd.X0 at e
  cases h1 : Nat.beq f 21
  · rw [h1] at e; cases e
  · rw [h1] at e; cases e
    have := Nat.eq_of_beq_eq_true h1; subst this
    exact Tryd.xTz_ok
set_option maxRecDepth 100000 in
/-- 'awake' answers true. -/
theorem Tryd.awake5 : ((kcall Tryd.kTab.get Tryd.X0 1000 5 [] .empty).map (·.1)) = some (.bool true) := by kernel_rfl
/-- the calls of the program, the count and 'awake' as oracles -/
def Tryd.X (f : FuncId) : Option (List SV → H → Option (SV × H)) := bB (Nat.beq f 21) (some xTz) (bB (Nat.beq f 5) (some (xBool true)) none)
set_option maxRecDepth 100000 in
theorem Tryd.awake_call : ∀ args h v h', xBool true args h = some (v, h') → ∀ B ι w (us : Array Value), St B ι h w → LRel ι args us.toList → Answers Tryd.prog 5 us w fun v' w' => ∃ ι', VRel ι' v v' ∧ Moves B ι h w ι' h' w' := by
  have h1 := Tryd.awake5
  cases h2 : kcall Tryd.kTab.get Tryd.X0 1000 5 [] .empty with
  | none => rw [h2] at h1; cases h1
  | some r =>
    rw [h2] at h1
    obtain ⟨v, h'⟩ := r
    cases h1
    obtain ⟨c, hc⟩ : ∃ c, Tryd.f5.body = some c := Option.isSome_iff_exists.1 (by kernel_rfl)
    exact xBool_ok Tryd.good Tryd.X0_ok (kcall_ok Tryd.kTab_ok 1000 _ _ _ _ h2) Tryd.func5 hc (fun B w hb hw hle => ⟨Nat.le_trans hb hle, hw.2⟩)
theorem Tryd.X_ok : OracleOK Tryd.prog Tryd.X := fun f g e => by
  unfold Tryd.X at e
  cases h1 : Nat.beq f 21
  · rw [h1] at e
    cases h2 : Nat.beq f 5
    · rw [h2] at e; cases e
    · rw [h2] at e; cases e
      have := Nat.eq_of_beq_eq_true h2; subst this
      exact Tryd.awake_call
  · rw [h1] at e; cases e
    have := Nat.eq_of_beq_eq_true h1; subst this
    exact Tryd.xTz_ok
abbrev Tryd.lc : CF := (lim Tryd.prog Tryd.X).call
theorem Tryd.en {f : FuncId} {kf : KF} (hk : Tryd.kTab.get f = some kf) {n : Nat} {args : List SV} {h : H} {r : SV × H} (e : kenter kf n Tryd.lc args h = some r) (hX : Tryd.X f = none := by rfl) : Tryd.lc f args h = some r := lim_enter Tryd.kTab_ok hX hk e
theorem Tryd.enG {f : FuncId} {kf : KF} (hk : Tryd.kTab.get f = some kf) {n : Nat} {args : List SV} {h : H} {Q : SV → H → Prop} {sl : List Pth} {b : Cd} {rs : List RF} (he : kf = ⟨sl, b, rs⟩) {t : T} (ha : argsP sl args .leaf = some t)
    (g : Gets (b n Tryd.lc t h) fun fl t h => (fl = .normal ∨ fl = .ret) ∧ ∃ vs, kresL t h rs = some vs ∧ Q (oneS vs) h) (hX : Tryd.X f = none := by rfl) : ∃ v h', Tryd.lc f args h = some (v, h') ∧ Q v h' := by
  obtain ⟨v, h', k1, k2⟩ := gets_fin g
  refine ⟨v, h', Tryd.en hk (n := n) ?_ hX, k2⟩
  rw [he, enter_eq, ha]
  exact k1
theorem Tryd.awake (h : H) : Tryd.lc 5 [] h = some (.bool true, h) := by
  show (lim Tryd.prog Tryd.X).call 5 [] h = _
  rw [call_eq]
  rfl
theorem Tryd.tz (n : Nat) (hn : n < 18446744073709551616) (h : H) : Tryd.lc 21 [.int .u64 n] h = some (.int .i64 (Lib.ctz 64 n : Nat), h) := by
  show (lim Tryd.prog Tryd.X).call 21 _ h = _
  rw [call_eq]
  show xTz [.int .u64 (.ofNat n)] h = _
  unfold xTz
  simp only
  rw [show Nat.blt n 18446744073709551616 = true from Nat.ble_eq_true_of_le hn]; rfl
end
end Go.Proofs
