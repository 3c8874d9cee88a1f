/- Bytes: the document's own numbers. -/
import Derived.Test.YtfcdldibfdoljaaTyG
set_option linter.unusedVariables false
set_option linter.unusedSimpArgs false
set_option linter.unusedSectionVars false
namespace Go.Proofs
open Go.Sh
set_option linter.unusedVariables false
attribute [local instance] heldNone
noncomputable section
theorem wrap_shift (x : Int) (k : Nat) (hk : k + 8 ≤ 64) : IntKind.u8.wrap ((IntKind.u64.wrap x).fdiv (2 ^ k)) = IntKind.u8.wrap (x.fdiv (2 ^ k)) := by
  have e1 : IntKind.u64.wrap x = x % 18446744073709551616 := by
    unfold IntKind.wrap; simp [IntKind.bits, IntKind.signed]
  have e2 : ∀ y : Int, IntKind.u8.wrap y = y % 256 := fun y => by
    unfold IntKind.wrap; simp [IntKind.bits, IntKind.signed]
  rw [e1, e2, e2]
  have hp : (0 : Int) < 2 ^ k := Int.pow_pos (by decide)
  rw [Int.fdiv_eq_ediv_of_nonneg _ (Int.le_of_lt hp), Int.fdiv_eq_ediv_of_nonneg _ (Int.le_of_lt hp)]
  have hd : (18446744073709551616 : Int) = 2 ^ k * (256 * 2 ^ (56 - k)) := by
    rw [show (256 : Int) = 2 ^ 8 by decide, ← Int.pow_add, ← Int.pow_add, show k + (8 + (56 - k)) = 64 by omega]; decide
  have h1 : x % 18446744073709551616 = x - 2 ^ k * (256 * 2 ^ (56 - k)) * (x / 18446744073709551616) := by
    rw [Int.emod_def, ← hd]
  rw [h1, show x - 2 ^ k * (256 * 2 ^ (56 - k)) * (x / 18446744073709551616) = x + 2 ^ k * (-((256 * 2 ^ (56 - k)) * (x / 18446744073709551616))) by rw [Int.mul_neg, Int.mul_assoc]; omega]
  rw [Int.add_mul_ediv_left _ _ (Int.ne_of_gt hp)]
  rw [show x / 2 ^ k + -(256 * 2 ^ (56 - k) * (x / 18446744073709551616)) = x / 2 ^ k + 256 * (-(2 ^ (56 - k) * (x / 18446744073709551616))) by rw [Int.mul_neg, Int.mul_assoc]]
  rw [Int.add_mul_emod_self_left]
theorem Try.u_loop {x : Int} {id s : Nat} (hs : s ≤ 8) (c : CF) : ∀ (j i k : Nat) (t : T) (h : H), i + j = s → j < k → getP (way 0) t = some (.int .i64 x) → getP (way 1) t = some (.int .i64 s) → getP (way 5) t = some (.slice id 0 s 1 (some s)) → getP (way 6) t = some (.int .i64 i) →
    h.get id = some (.cells (List.replicate j (SV.int .u8 0) ++ be i x) .fixed) →
    Gets (cLoop Try.l29_0 k c t h) fun fl t' h' => fl = .exit 0 ∧ getP (way 5) t' = some (.slice id 0 s 1 (some s)) ∧ h'.get id = some (.cells (be s x) .fixed) ∧ Fr (· = id) (· = id) h h' := by
  intro j
  induction j with
  | zero =>
    intro i k t h hi hk h0 h1 h5 h6 hg
    obtain ⟨k, rfl⟩ : ∃ m, k = m + 1 := ⟨k - 1, by omega⟩
    obtain rfl : i = s := by omega
    rw [loop_succ]
    generalize (fun t h => cLoop Try.l29_0 k c t h) = L
    unfold Try.l29_0
    have e1 : ltI (i : Int) i = false := by rw [ltI_eq]; simp
    simp [kr, bO_mk, vLt, i2, kx, h0, h1, h5, h6, e1, gets_some]
    exact ⟨by simpa using hg, .refl⟩
  | succ j ih =>
    intro i k t h hi hk h0 h1 h5 h6 hg
    obtain ⟨k, rfl⟩ : ∃ m, k = m + 1 := ⟨k - 1, by omega⟩
    rw [loop_succ]
    generalize hL : (fun t h => cLoop Try.l29_0 k c t h) = L
    unfold Try.l29_0
    have e1 : ltI (i : Int) s = true := by rw [ltI_eq]; simp; omega
    have e2 : IntKind.i64.wrap ((s : Int) - 1) = ((s - 1 : Nat) : Int) := by
      rw [show (s : Int) - 1 = ((s - 1 : Nat) : Int) by omega]; exact wrap_i64 (by omega) (by omega)
    have e3 : IntKind.i64.wrap (((s - 1 : Nat) : Int) - i) = ((j : Nat) : Int) := by
      rw [show ((s - 1 : Nat) : Int) - i = (j : Int) by omega]; exact wrap_i64 (by omega) (by omega)
    have e4 : IntKind.i64.wrap (8 * (i : Int)) = 8 * (i : Int) := wrap_i64 (by omega) (by omega)
    have e5 : shiftInt .shr .u64 (IntKind.u64.wrap x) (8 * (i : Int)) = some ((IntKind.u64.wrap x).fdiv (2 ^ (8 * i))) := by
      unfold shiftInt
      rw [if_neg (by omega)]
      simp only
      have : min (8 * (i : Int)).toNat IntKind.u64.bits = 8 * i := by
        have h64 : IntKind.u64.bits = 64 := rfl
        rw [h64]; omega
      rw [this]
    have e6 : IntKind.i64.wrap ((i : Int) + 1) = ((i + 1 : Nat) : Int) := by
      rw [Int.natCast_add]; exact wrap_i64 (by omega) (by omega)
    have e7 := wrap_shift x (8 * i) (by omega)
    have k1 : atIdx 1 j (.slice id 0 s 1 (some s)) = some (.ptr id j) := by
      show bB (Nat.blt j s) (some (SV.ptr id (0 + j * 1))) none = _
      rw [show Nat.blt j s = true from Nat.ble_eq_true_of_le (by omega), Nat.zero_add, Nat.mul_one]; rfl
    have hset : (List.replicate (j + 1) (SV.int .u8 0) ++ be i x).set j (.int .u8 (IntKind.u8.wrap (x.fdiv (2 ^ (8 * i))))) = List.replicate j (SV.int .u8 0) ++ be (i + 1) x := by
      rw [List.replicate_succ', List.append_assoc, List.set_append_right _ _ (by simp)]
      simp [be, wrapS_eq]
    have hst : ∀ t, tStore 1 (xC (.ptr id j)) (xC (.int .u8 (IntKind.u8.wrap (x.fdiv (2 ^ (8 * i)))))) h t = some (SV.tuple [], h.put id (.cells (List.replicate j (SV.int .u8 0) ++ be (i + 1) x) .fixed)) := fun t => by
      rw [← hset]; exact store_fixed hg j (.int .u8 (IntKind.u8.wrap (x.fdiv (2 ^ (8 * i))))) t (by simp; omega) rfl
    have hgp := get_put_self (o := .cells (List.replicate j (SV.int .u8 0) ++ be (i + 1) x) .fixed) hg
    simp [kr, bO_mk, vLt, vIdx, vSh, vToI, vAdd, vSub, vMul, i2, kx, h0, h1, h5, h6, e1, e2, e3, e4, e5, e6, e7, intN_nat, k1, hst, wrapS_eq, -Int.natCast_add]
    rw [← hL]
    refine Gets.mono (ih (i + 1) k _ _ (by omega) (by omega) ?_ ?_ ?_ ?_ ?_) fun fl t' h' ⟨b1, b2, b3, b4⟩ => ⟨b1, b2, b3, ?_⟩
    · simp [kr, h0]
    · simp [kr, h1]
    · simp [kr, h5]
    · simp [kr, -Int.natCast_add]
    · exact hgp
    · exact (Fr.put (H.get_lt hg)).trans b4
theorem repeat_one (v : SV) : ∀ n, repeatCells [v] n = List.replicate n v
  | 0 => rfl
  | n + 1 => by
    show [v] ++ repeatCells [v] n = _
    rw [repeat_one v n, List.replicate_succ]; rfl
theorem make_row (k : IntKind) (z : Int) (s : Nat) (hs : s ≤ 1099511627776 / 3) (c : CF) (m : Nat) (t : T) (h : H) (K : SV → H → FR) : sN (aMakeSlice 1 1 [.int k z] (xC (.int .i64 s)) (xC (.int .i64 s))) c m t h K = K (.slice h.next 0 s 1 (some s)) (h.push (.cells (List.replicate s (.int k z)) .fixed)) := by
  have e : (Nat.ble s s && Nat.ble (s * (1 + 1 + 1)) 1099511627776) = true := by
    rw [Nat.ble_eq_true_of_le (Nat.le_refl s), Nat.ble_eq_true_of_le (by omega)]; rfl
  show bO (bB (Nat.ble s s && Nat.ble (s * (1 + 1 + 1)) 1099511627776) (some (NR.new (.cells (repeatCells [.int k z] s) .fixed) (.slice · 0 s 1 (some s)))) none) _ = _
  rw [e, repeat_one]; rfl
theorem Try.u (x : Int) (s : Nat) (hs : s ≤ 8) (h : H) : ∃ h', Try.lc 29 [.int .i64 x, .int .i64 s] h = some (.slice h.next 0 s 1 (some s), h') ∧ h'.get h.next = some (.cells (be s x) .fixed) ∧ Fr (fun _ => False) (fun _ => False) h h' := by
  have hl := Try.u_loop (x := x) (id := h.next) hs Try.lc s 0 (s + 1) (setP (way 6) (.int .i64 0) (setP (way 5) (.slice h.next 0 s 1 (some s)) (setP (way 4) .nilslice (setP (way 1) (.int .i64 s) (setP (way 0) (.int .i64 x) .leaf))))) (h.push (.cells (List.replicate s (.int .u8 0)) .fixed)) (by omega) (by omega) (by simp [kr]) (by simp [kr]) (by simp [kr]) (by simp [kr]) (by rw [H.get_push, if_pos rfl]; simp [be])
  have hm := fun c m t K => make_row .u8 0 s (by omega) c m t h K
  obtain ⟨v, h', k1, rfl, k2, k3⟩ := gets_fin (rs := [.tmp (way 4)]) (Q := fun v h' => v = .slice h.next 0 s 1 (some s) ∧ h'.get h.next = some (.cells (be s x) .fixed) ∧ Fr (fun _ => False) (fun _ => False) h h') (gets_next (k := cSeq (cOps (oLet (sV (xW 5)) fun v26 => oSet 4 (sV (xC v26)) fun v4 => oEnd)) cRet (s + 1) Try.lc) (gets_leave (id := 0) (Gets.mono hl fun fl t' h' ⟨b1, b2, b3, b4⟩ => by
    subst b1
    simp [kr, bO_mk, gets_some, b2, kresL, kres, oneS]
    exact ⟨b3, ⟨Nat.le_trans (Nat.le_succ _) b4.next, fun q hq _ => by rw [b4.keep q (Nat.lt_succ_of_lt hq) (Nat.ne_of_lt hq), H.get_push, if_neg (Nat.ne_of_lt hq)], fun m q1 q2 _ => b4.low m q1 (Nat.le_succ_of_le q2) fun q e => by rw [show q = h.next from e]; exact q2⟩⟩)))
  refine ⟨h', Try.en (n := s + 1) (kf := Try.k29) (by kernel_rfl) ?_, k2, k3⟩
  rw [Try.k29_eq, enter_eq]
  simp [argsP, kr, bO_mk, hm]
  exact k1
end
end Go.Proofs
