/- Bytes: numbers and texts that are read. -/
import Derived.Test.YtfcdldibfdoljaaTyC
set_option linter.unusedVariables false
set_option linter.unusedSimpArgs false
set_option linter.unusedSectionVars false
namespace Go.Sh
theorem intN_nat (i : Nat) : intN (i : Int) = some i := rfl
theorem View.load {h : H} {n : Nat} {v : SV} {cs : List SV} (w : View h 1 v n cs) {i : Nat} (hi : i < n) : ∃ p, atIdx 1 i v = some p ∧ ∀ t, lLoad none (xC p) h.get t = cs[i]? := by
  obtain ⟨h1, ⟨rfl, rfl⟩ | ⟨id, off, cap, all, rfl, h2, h3, h4⟩⟩ := w
  · omega
  · refine ⟨.ptr id (off + i * 1), ?_, fun t => ?_⟩
    · show bB (Nat.blt i n) _ _ = _
      rw [show Nat.blt i n = true from Nat.ble_eq_true_of_le hi]; rfl
    · show bO (rowCells h.get id) (fun cs => idxX (off + i * 1) cs) = _
      rw [h2]
      show idxX (off + i * 1) all = _
      rw [idxX_get]
      unfold takeCells at h3
      split at h3
      · cases h3
        rw [List.getElem?_take_of_lt (by omega), List.getElem?_drop, Nat.mul_one]
      · cases h3
end Go.Sh
namespace Go.Proofs
open Go.Sh
set_option linter.unusedVariables false
attribute [local instance] heldNone
noncomputable section
/-- a byte more -/
def nstep (v z : Int) : Int := IntKind.i64.wrap (BitVec.ofInt 64 (IntKind.i64.wrap (v * 256)) ||| BitVec.ofInt 64 (IntKind.i64.wrap z)).toNat
def u8z (zs : List Int) : List SV := zs.map fun z => .int .u8 z
theorem Try.num_loop {h : H} {v : SV} {m : Nat} {zs : List Int} (w : View h 1 v m (u8z zs)) (hm : m ≤ 1099511627776) (c : CF) : ∀ (j i k : Nat) (acc : Int) (t : T), i + j = m → j < k → getP (way 17) t = some v → getP (way 18) t = some (.int .i64 m) → getP (way 19) t = some (.int .i64 i) → getP (way 4) t = some (.int .i64 acc) →
    Gets (cLoop Try.l32_0 k c t h) fun fl t' h' => fl = .exit 0 ∧ h' = h ∧ getP (way 4) t' = some (.int .i64 ((zs.drop i).foldl nstep acc)) := by
  have hz : zs.length = m := by have := w.1; simpa [u8z] using this
  intro j
  induction j with
  | zero =>
    intro i k acc t hi hk h17 h18 h19 h4
    obtain ⟨k, rfl⟩ : ∃ m, k = m + 1 := ⟨k - 1, by omega⟩
    rw [loop_succ]
    generalize (fun t h => cLoop Try.l32_0 k c t h) = L
    unfold Try.l32_0
    have e1 : ltI (i : Int) m = false := by rw [ltI_eq]; simp; omega
    simp [kr, bO_mk, vLt, i2, kx, h17, h18, h19, h4, e1, gets_some]
    rw [List.drop_eq_nil_of_le (by omega)]
    rfl
  | succ j ih =>
    intro i k acc t hi hk h17 h18 h19 h4
    obtain ⟨k, rfl⟩ : ∃ m, k = m + 1 := ⟨k - 1, by omega⟩
    rw [loop_succ]
    generalize hL : (fun t h => cLoop Try.l32_0 k c t h) = L
    unfold Try.l32_0
    have e1 : ltI (i : Int) m = true := by rw [ltI_eq]; simp; omega
    obtain ⟨p, k1, k2⟩ := w.load (i := i) (by omega)
    obtain ⟨z, hzi⟩ : ∃ z, zs[i]? = some z := ⟨zs[i]'(by omega), List.getElem?_eq_getElem (by omega)⟩
    have k3 : ∀ t, lLoad none (xC p) h.get t = some (.int .u8 z) := fun t => by rw [k2]; simp [u8z, hzi]
    have e2 : IntKind.i64.wrap ((i : Int) + 1) = ((i + 1 : Nat) : Int) := by
      rw [Int.natCast_add]; exact wrap_i64 (by omega) (by omega)
    have e3 : shiftInt .shl .i64 acc 8 = some (IntKind.i64.wrap (acc * 256)) := rfl
    have e4 : arithInt .or .i64 (IntKind.i64.wrap (acc * 256)) (IntKind.i64.wrap z) = some (nstep acc z) := rfl
    simp [kr, bO_mk, vLt, vIdx, vSh, vToI, vAr, vAdd, i2, kx, h17, h18, h19, h4, e1, e2, e3, e4, intN_nat, k1, k3, wrapS_eq, -Int.natCast_add]
    rw [← hL]
    refine Gets.mono (ih (i + 1) k (nstep acc z) _ (by omega) (by omega) ?_ ?_ ?_ ?_) fun fl t' h' ⟨b1, b2, b3⟩ => ⟨b1, b2, ?_⟩
    · simp [kr, h17]
    · simp [kr, h18]
    · simp [kr, -Int.natCast_add]
    · simp [kr]
    · rw [b3, List.drop_eq_getElem_cons (by omega : i < zs.length)]
      rw [List.getElem?_eq_getElem (by omega)] at hzi
      cases hzi
      rfl
theorem Try.num_failed {h : H} {p n a : Nat} {cs : List SV} {b : SV} (r : Rdr h p n cs a true b) (m : Int) : Try.lc 32 [.ptr p 0, .int .i64 m] h = some (.int .i64 0, h) := by
  refine Try.en (n := 2) (kf := Try.k32) (by kernel_rfl) ?_
  rw [Try.k32_eq, enter_eq]
  have e0 : ∀ k, Gets (cLoop Try.l32_0 (k + 1) Try.lc (setP (way 19) (.int .i64 0) (setP (way 18) (.int .i64 0) (setP (way 17) .nilslice (setP (way 5) .nilslice (setP (way 4) (.int .i64 0) (setP (way 1) (.int .i64 m) (setP (way 0) (.ptr p 0) .leaf))))))) h) fun fl t' h' => fl = .exit 0 ∧ h' = h ∧ getP (way 4) t' = some (.int .i64 0) := fun k =>
    Gets.mono (Try.num_loop (v := .nilslice) (m := 0) (zs := []) ⟨rfl, .inl ⟨rfl, rfl⟩⟩ (by omega) Try.lc 0 0 (k + 1) 0 _ rfl (by omega) (by simp [kr]) (by simp [kr]) (by simp [kr]) (by simp [kr])) fun _ _ _ q => q
  simp [argsP, kr, bO_mk, Try.at r, Try.take_failed r, vExtract, vLen, lenV]
  obtain ⟨v, h', k1, rfl, k2⟩ := gets_fin (rs := [.tmp (way 4)]) (Q := fun v h' => v = .int .i64 0 ∧ h' = h) (gets_next (k := cSeq (cOps (oLet (sV (xW 4)) fun v29 => oSet 4 (sV (xC v29)) fun v4 => oEnd)) cRet 2 Try.lc) (gets_leave (id := 0) (Gets.mono (e0 1) fun fl t' h' ⟨b1, b2, b3⟩ => by
    subst b1 b2
    simp [kr, bO_mk, gets_some, b3, kresL, kres, oneS])))
  subst k2
  exact k1
theorem Try.num_short {h : H} {p n a : Nat} {cs : List SV} {b : SV} (r : Rdr h p n cs a false b) (m : Nat) (hm : n < a + m) :
    ∃ h', Try.lc 32 [.ptr p 0, .int .i64 m] h = some (.int .i64 0, h') ∧ Rdr h' p n cs a true b ∧ Fr (· = p) (· = p) h h' := by
  obtain ⟨h', k1, k2, k3⟩ := Try.take_short r m a hm r.here
  refine ⟨h', Try.en (n := 2) (kf := Try.k32) (by kernel_rfl) ?_, k2, k3⟩
  rw [Try.k32_eq, enter_eq]
  have e0 : ∀ k, Gets (cLoop Try.l32_0 (k + 1) Try.lc (setP (way 19) (.int .i64 0) (setP (way 18) (.int .i64 0) (setP (way 17) .nilslice (setP (way 5) .nilslice (setP (way 4) (.int .i64 0) (setP (way 1) (.int .i64 m) (setP (way 0) (.ptr p 0) .leaf))))))) h') fun fl t' h'' => fl = .exit 0 ∧ h'' = h' ∧ getP (way 4) t' = some (.int .i64 0) := fun k =>
    Gets.mono (Try.num_loop (v := .nilslice) (m := 0) (zs := []) ⟨rfl, .inl ⟨rfl, rfl⟩⟩ (by omega) Try.lc 0 0 (k + 1) 0 _ rfl (by omega) (by simp [kr]) (by simp [kr]) (by simp [kr]) (by simp [kr])) fun _ _ _ q => q
  simp [argsP, kr, bO_mk, Try.at r, k1, vExtract, vLen, lenV]
  obtain ⟨v, h'', k1, rfl, k2⟩ := gets_fin (rs := [.tmp (way 4)]) (Q := fun v h'' => v = .int .i64 0 ∧ h'' = h') (gets_next (k := cSeq (cOps (oLet (sV (xW 4)) fun v29 => oSet 4 (sV (xC v29)) fun v4 => oEnd)) cRet 2 Try.lc) (gets_leave (id := 0) (Gets.mono (e0 1) fun fl t' h' ⟨b1, b2, b3⟩ => by
    subst b1 b2
    simp [kr, bO_mk, gets_some, b3, kresL, kres, oneS])))
  subst k2
  exact k1
theorem Try.num_ok {h : H} {p n a : Nat} {zs : List Int} {b : SV} (r : Rdr h p n (u8z zs) a false b) (m : Nat) (hm : a + m ≤ n) :
    ∃ h', Try.lc 32 [.ptr p 0, .int .i64 m] h = some (.int .i64 (((zs.drop a).take m).foldl nstep 0), h') ∧ Rdr h' p n (u8z zs) (a + m) false b ∧ Fr (· = p) (· = p) h h' := by
  obtain ⟨v, h', k1, k2, k3, k4⟩ := Try.take_ok r m a hm
  have k3 : View h' 1 v m (u8z ((zs.drop a).take m)) := by simpa [u8z, List.map_take, List.map_drop] using k3
  have hs := r.small
  refine ⟨h', Try.en (n := m + 2) (kf := Try.k32) (by kernel_rfl) ?_, k2, k4⟩
  rw [Try.k32_eq, enter_eq]
  have e0 : Gets (cLoop Try.l32_0 (m + 2) Try.lc (setP (way 19) (.int .i64 0) (setP (way 18) (.int .i64 m) (setP (way 17) v (setP (way 5) v (setP (way 4) (.int .i64 0) (setP (way 1) (.int .i64 m) (setP (way 0) (.ptr p 0) .leaf))))))) h') fun fl t' h'' => fl = .exit 0 ∧ h'' = h' ∧ getP (way 4) t' = some (.int .i64 (((zs.drop a).take m).foldl nstep 0)) :=
    Gets.mono (Try.num_loop k3 (by omega) Try.lc m 0 (m + 2) 0 _ (by omega) (by omega) (by simp [kr]) (by simp [kr]) (by simp [kr]) (by simp [kr])) fun _ _ _ q => q
  simp [argsP, kr, bO_mk, Try.at r, k1, vExtract, vLen, k3.length]
  obtain ⟨v', h'', q1, rfl, q2⟩ := gets_fin (rs := [.tmp (way 4)]) (Q := fun v h'' => v = .int .i64 (((zs.drop a).take m).foldl nstep 0) ∧ h'' = h') (gets_next (k := cSeq (cOps (oLet (sV (xW 4)) fun v29 => oSet 4 (sV (xC v29)) fun v4 => oEnd)) cRet (m + 2) Try.lc) (gets_leave (id := 0) (Gets.mono e0 fun fl t' h' ⟨b1, b2, b3⟩ => by
    subst b1 b2
    simp [kr, bO_mk, gets_some, b3, kresL, kres, oneS])))
  subst q2
  exact q1
end
end Go.Proofs
