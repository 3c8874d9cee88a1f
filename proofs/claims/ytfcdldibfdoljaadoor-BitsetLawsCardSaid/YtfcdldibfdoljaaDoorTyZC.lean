/- Bitset: word by word. -/
import Derived.Test.YtfcdldibfdoljaaDoorTyZB
set_option linter.unusedVariables false
set_option linter.unusedSimpArgs false
set_option linter.unusedSectionVars false
namespace Go.Proofs
open Go.Sh
set_option linter.unusedVariables false
attribute [local instance] tabHeld
noncomputable section
def Words (ws : List Nat) : Prop := ∀ w ∈ ws, w < 18446744073709551616
theorem Words.wd {ws : List Nat} (h : Words ws) (i : Nat) : wd ws i < 18446744073709551616 := by
  unfold Go.Proofs.wd
  rw [List.getD_eq_getElem?_getD]
  cases e : ws[i]? with
  | none => simp
  | some w => exact h w (List.mem_of_getElem? e)
theorem wd_over {ws : List Nat} {i : Nat} (h : ws.length ≤ i) : wd ws i = 0 := by
  unfold wd; rw [List.getD_eq_getElem?_getD, List.getElem?_eq_none h]; rfl
theorem wrap_u64 {x : Int} (h : 0 ≤ x) (h' : x < 18446744073709551616) : IntKind.u64.wrap x = x := by
  unfold IntKind.wrap; simp [IntKind.bits, IntKind.signed]; omega
theorem ofNat64 (x : Nat) : BitVec.ofInt 64 (x : Int) = BitVec.ofNat 64 x := BitVec.ofInt_natCast ..
theorem ar_or {x y : Nat} (hx : x < 18446744073709551616) (hy : y < 18446744073709551616) : arithInt .or .u64 (x : Int) (y : Int) = some ((x ||| y : Nat) : Int) := by
  show some (IntKind.u64.wrap ((BitVec.ofInt 64 (x : Int) ||| BitVec.ofInt 64 (y : Int)).toNat : Int)) = _
  rw [ofNat64, ofNat64, BitVec.toNat_or, BitVec.toNat_ofNat, BitVec.toNat_ofNat, Nat.mod_eq_of_lt (by omega), Nat.mod_eq_of_lt (by omega)]
  have : x ||| y < 2 ^ 64 := Nat.or_lt_two_pow (by omega) (by omega)
  rw [wrap_u64 (by omega) (by omega)]
theorem ar_and {x y : Nat} (hx : x < 18446744073709551616) (hy : y < 18446744073709551616) : arithInt .and .u64 (x : Int) (y : Int) = some ((x &&& y : Nat) : Int) := by
  show some (IntKind.u64.wrap ((BitVec.ofInt 64 (x : Int) &&& BitVec.ofInt 64 (y : Int)).toNat : Int)) = _
  rw [ofNat64, ofNat64, BitVec.toNat_and, BitVec.toNat_ofNat, BitVec.toNat_ofNat, Nat.mod_eq_of_lt (by omega), Nat.mod_eq_of_lt (by omega)]
  have : x &&& y < 2 ^ 64 := Nat.and_lt_two_pow _ (by omega)
  rw [wrap_u64 (by omega) (by omega)]
def andNot (x y : Nat) : Nat := x &&& (18446744073709551615 ^^^ y)
theorem ar_not {x y : Nat} (hx : x < 18446744073709551616) (hy : y < 18446744073709551616) : arithInt .andNot .u64 (x : Int) (y : Int) = some ((andNot x y : Nat) : Int) := by
  show some (IntKind.u64.wrap ((BitVec.ofInt 64 (x : Int) &&& ~~~ BitVec.ofInt 64 (y : Int)).toNat : Int)) = _
  rw [ofNat64, ofNat64, BitVec.toNat_and, BitVec.toNat_not, BitVec.toNat_ofNat, BitVec.toNat_ofNat, Nat.mod_eq_of_lt (by omega), Nat.mod_eq_of_lt (by omega)]
  have e : 2 ^ 64 - 1 - y = 18446744073709551615 ^^^ y := by
    apply Nat.eq_of_testBit_eq
    intro i
    rw [show 2 ^ 64 - 1 - y = 2 ^ 64 - (y + 1) by omega, Nat.testBit_two_pow_sub_succ (by omega), Nat.testBit_xor, show (18446744073709551615 : Nat) = 2 ^ 64 - 1 by decide, Nat.testBit_two_pow_sub_one]
    by_cases h : i < 64
    · simp [h]
    · have : y.testBit i = false := Nat.testBit_lt_two_pow (Nat.lt_of_lt_of_le (show y < 2 ^ 64 by omega) (Nat.pow_le_pow_right (by omega) (by omega)))
      simp [h, this]
  rw [e]
  have : andNot x y ≤ x := Nat.and_le_left
  have e2 : x &&& (18446744073709551615 ^^^ y) = andNot x y := rfl
  rw [e2, wrap_u64 (by omega) (by omega)]
theorem Tryd.or {x y : Nat} (hx : x < 18446744073709551616) (hy : y < 18446744073709551616) (h : H) : Tryd.lc 24 [.int .u64 x, .int .u64 y] h = some (.int .u64 ((x ||| y : Nat) : Int), h) := by
  refine Tryd.en (n := 1) (kf := Tryd.k24) (by kernel_rfl) ?_
  rw [Tryd.k24_eq, enter_eq]
  simp [↓ kq, kq, ↓ ko, ko, kb, kv, kt, kx, argsP, ar_or hx hy, kfin, kc, oneS, -bO_of, -bB_true, -bB_false, -H.next_push, -Int.natCast_add]
theorem Tryd.and {x y : Nat} (hx : x < 18446744073709551616) (hy : y < 18446744073709551616) (h : H) : Tryd.lc 26 [.int .u64 x, .int .u64 y] h = some (.int .u64 ((x &&& y : Nat) : Int), h) := by
  refine Tryd.en (n := 1) (kf := Tryd.k26) (by kernel_rfl) ?_
  rw [Tryd.k26_eq, enter_eq]
  simp [↓ kq, kq, ↓ ko, ko, kb, kv, kt, kx, argsP, ar_and hx hy, kfin, kc, oneS, -bO_of, -bB_true, -bB_false, -H.next_push, -Int.natCast_add]
theorem Tryd.minus {x y : Nat} (hx : x < 18446744073709551616) (hy : y < 18446744073709551616) (h : H) : Tryd.lc 25 [.int .u64 x, .int .u64 y] h = some (.int .u64 ((andNot x y : Nat) : Int), h) := by
  refine Tryd.en (n := 1) (kf := Tryd.k25) (by kernel_rfl) ?_
  rw [Tryd.k25_eq, enter_eq]
  simp [↓ kq, kq, ↓ ko, ko, kb, kv, kt, kx, argsP, ar_not hx hy, kfin, kc, oneS, -bO_of, -bB_true, -bB_false, -H.next_push, -Int.natCast_add]
/-- A closure of two words. -/
def Two (F : FuncId) (g : Nat → Nat → Nat) : Prop := ∀ (x y : Nat) (h : H), x < 18446744073709551616 → y < 18446744073709551616 → Tryd.lc F [.int .u64 x, .int .u64 y] h = some (.int .u64 (g x y : Nat), h)
theorem set_mid (A R : List SV) (x y : SV) (n : Nat) (hn : A.length = n) : (A ++ x :: R).set n y = A ++ y :: R := by
  subst hn
  rw [List.set_append_right _ _ (Nat.le_refl _)]; simp
theorem Tryd.over_loop {F : FuncId} {g : Nat → Nat → Nat} (hF : Two F g) {a b : List Nat} (ha : Words a) (hb : Words b) {n id pa pb pr : Nat} {va vb : SV} (hn : n ≤ 1024) (na : pa ≠ id) (nb : pb ≠ id) (ra : ∀ q, isRow va q → q ≠ id) (rb : ∀ q, isRow vb q → q ≠ id) : ∀ (j i k : Nat) (t : T) (h : H), i + j = n → j < k →
    View h 1 va a.length (u64s a) → View h 1 vb b.length (u64s b) → rowCells h.get pa = some [va] → rowCells h.get pb = some [vb] → h.get id = some (.cells (u64s ((List.range i).map fun k => g (wd a k) (wd b k)) ++ List.replicate j (.int .u64 0)) .fixed) →
    getP (way 2) t = some (.func F []) → getP (way 3) t = some (.ptr pa 0) → getP (way 4) t = some (.ptr pb 0) → getP (way 6) t = some (.ptr pr 0) → getP (way 7) t = some (.slice id 0 n 1 (some n)) → getP (way 20) t = some (.int .i64 n) → getP (way 21) t = some (.int .i64 i) →
    Gets (cLoop Tryd.l23_0 k Tryd.lc t h) fun fl t' h' => fl = .exit 0 ∧ getP (way 7) t' = some (.slice id 0 n 1 (some n)) ∧ getP (way 6) t' = some (.ptr pr 0) ∧ h'.get id = some (.cells (u64s ((List.range n).map fun k => g (wd a k) (wd b k))) .fixed) ∧ Fr (· = id) (· = id) h h' := by
  intro j
  induction j with
  | zero =>
    intro i k t h hi hk wa wb ca cb cid t2 t3 t4 t6 t7 t20 t21
    obtain ⟨k, rfl⟩ : ∃ m, k = m + 1 := ⟨k - 1, by omega⟩
    obtain rfl : i = n := by omega
    rw [loop_succ]
    generalize (fun t h => cLoop Tryd.l23_0 k Tryd.lc t h) = L
    unfold Tryd.l23_0
    have e1 : ltI (i : Int) i = false := by rw [ltI_eq]; simp
    simp [↓ kq, kq, ↓ ko, ko, kb, kv, kt, kx, t20, t21, t7, t6, e1, gets_some, -bO_of, -bB_true, -bB_false, -H.next_push, -Int.natCast_add]
    exact ⟨by simpa using cid, .refl⟩
  | succ j ih =>
    intro i k t h hi hk wa wb ca cb cid t2 t3 t4 t6 t7 t20 t21
    obtain ⟨k, rfl⟩ : ∃ m, k = m + 1 := ⟨k - 1, by omega⟩
    rw [loop_succ]
    generalize hL : (fun t h => cLoop Tryd.l23_0 k Tryd.lc t h) = L
    unfold Tryd.l23_0
    have e1 : ltI (i : Int) n = true := by rw [ltI_eq]; exact decide_eq_true (by omega)
    have e2 : IntKind.i64.wrap ((i : Int) + 1) = ((i + 1 : Nat) : Int) := by
      rw [Int.natCast_add]; exact wrap_i64 (by omega) (by omega)
    have la : loadV none h.get (.ptr pa 0) = some va := by rw [loadV_one ca]; rfl
    have lb : loadV none h.get (.ptr pb 0) = some vb := by rw [loadV_one cb]; rfl
    have hf := hF (wd a i) (wd b i) h (ha.wd i) (hb.wd i)
    have x1 : atIdx 1 i (.slice id 0 n 1 (some n)) = some (.ptr id i) := by
      show bB (Nat.blt i n) (some (SV.ptr id (0 + i * 1))) none = _
      rw [show Nat.blt i n = true from Nat.ble_eq_true_of_le (by omega), Nat.zero_add, Nat.mul_one]; rfl
    have st := storeV_one (v := .int .u64 ((g (wd a i) (wd b i) : Nat) : Int)) cid (off := i) (by simp [u64s]) rfl
    have hset : (u64s ((List.range i).map fun k => g (wd a k) (wd b k)) ++ List.replicate (j + 1) (SV.int .u64 0)).set i (.int .u64 ((g (wd a i) (wd b i) : Nat) : Int)) = u64s ((List.range (i + 1)).map fun k => g (wd a k) (wd b k)) ++ List.replicate j (.int .u64 0) := by
      rw [List.replicate_succ, set_mid _ _ _ _ i (by simp [u64s]), List.range_succ]
      simp [u64s]
    rw [hset] at st
    have fr : Fr (· = id) (· = id) h (h.put id (.cells (u64s ((List.range (i + 1)).map fun k => g (wd a k) (wd b k)) ++ List.replicate j (.int .u64 0)) .fixed)) := Fr.put (H.get_lt cid)
    have fin := fun (t' : T) => ih (i + 1) k t' _ (by omega) (by omega) (wa.keep fr ra) (wb.keep fr rb) ((rowCells_keep fr (rowCells_lt ca) na).trans ca) ((rowCells_keep fr (rowCells_lt cb) nb).trans cb) (get_put_self cid)
    have done : ∀ t', getP (way 2) t' = some (.func F []) → getP (way 3) t' = some (.ptr pa 0) → getP (way 4) t' = some (.ptr pb 0) → getP (way 6) t' = some (.ptr pr 0) → getP (way 7) t' = some (.slice id 0 n 1 (some n)) → getP (way 20) t' = some (.int .i64 n) → getP (way 21) t' = some (.int .i64 ((i + 1 : Nat) : Int)) →
        Gets (L t' (h.put id (.cells (u64s ((List.range (i + 1)).map fun k => g (wd a k) (wd b k)) ++ List.replicate j (.int .u64 0)) .fixed))) fun fl t' h' => fl = .exit 0 ∧ getP (way 7) t' = some (.slice id 0 n 1 (some n)) ∧ getP (way 6) t' = some (.ptr pr 0) ∧ h'.get id = some (.cells (u64s ((List.range n).map fun k => g (wd a k) (wd b k))) .fixed) ∧ Fr (· = id) (· = id) h h' := fun t' q1 q2 q3 q4 q5 q6 q7 => by
      rw [← hL]
      exact Gets.mono (fin t' q1 q2 q3 q4 q5 q6 q7) fun fl t' h' ⟨b1, b2, b3, b4, b5⟩ => ⟨b1, b2, b3, b4, fr.trans b5⟩
    by_cases qa : i < a.length
    · have e3 : ltI (i : Int) a.length = true := by rw [ltI_eq]; simp; omega
      obtain ⟨pA, x2, x3⟩ := wa.loadV qa
      rw [u64s_get a i qa] at x3
      by_cases qb : i < b.length
      · have e4 : ltI (i : Int) b.length = true := by rw [ltI_eq]; simp; omega
        obtain ⟨pB, x4, x5⟩ := wb.loadV qb
        rw [u64s_get b i qb] at x5
        simp [↓ kq, kq, ↓ ko, ko, kb, kv, kt, kx, t2, t3, t4, t6, t7, t20, t21, e1, e2, e3, e4, la, lb, wa.length, wb.length, x1, x2, x3, x4, x5, hf, st, -bO_of, -bB_true, -bB_false, -H.next_push, -Int.natCast_add]
        refine done _ ?_ ?_ ?_ ?_ ?_ ?_ ?_ <;> simp [kq, t2, t3, t4, t6, t7, t20, -Int.natCast_add]
      · have e4 : ltI (i : Int) b.length = false := by rw [ltI_eq]; simp; omega
        have z : wd b i = 0 := wd_over (by omega)
        rw [z] at hf st
        have hf : Tryd.lc F [.int .u64 ((wd a i : Nat) : Int), .int .u64 0] h = _ := hf
        simp [↓ kq, kq, ↓ ko, ko, kb, kv, kt, kx, t2, t3, t4, t6, t7, t20, t21, e1, e2, e3, e4, la, lb, wa.length, wb.length, x1, x2, x3, hf, st, -bO_of, -bB_true, -bB_false, -H.next_push, -Int.natCast_add]
        refine done _ ?_ ?_ ?_ ?_ ?_ ?_ ?_ <;> simp [kq, t2, t3, t4, t6, t7, t20, -Int.natCast_add]
    · have e3 : ltI (i : Int) a.length = false := by rw [ltI_eq]; simp; omega
      have za : wd a i = 0 := wd_over (by omega)
      rw [za] at hf st
      by_cases qb : i < b.length
      · have e4 : ltI (i : Int) b.length = true := by rw [ltI_eq]; simp; omega
        obtain ⟨pB, x4, x5⟩ := wb.loadV qb
        rw [u64s_get b i qb] at x5
        have hf : Tryd.lc F [.int .u64 0, .int .u64 ((wd b i : Nat) : Int)] h = _ := hf
        simp [↓ kq, kq, ↓ ko, ko, kb, kv, kt, kx, t2, t3, t4, t6, t7, t20, t21, e1, e2, e3, e4, la, lb, wa.length, wb.length, x1, x4, x5, hf, st, -bO_of, -bB_true, -bB_false, -H.next_push, -Int.natCast_add]
        refine done _ ?_ ?_ ?_ ?_ ?_ ?_ ?_ <;> simp [kq, t2, t3, t4, t6, t7, t20, -Int.natCast_add]
      · have e4 : ltI (i : Int) b.length = false := by rw [ltI_eq]; simp; omega
        have z : wd b i = 0 := wd_over (by omega)
        rw [z] at hf st
        have hf : Tryd.lc F [.int .u64 0, .int .u64 0] h = _ := hf
        simp [↓ kq, kq, ↓ ko, ko, kb, kv, kt, kx, t2, t3, t4, t6, t7, t20, t21, e1, e2, e3, e4, la, lb, wa.length, wb.length, x1, hf, st, -bO_of, -bB_true, -bB_false, -H.next_push, -Int.natCast_add]
        refine done _ ?_ ?_ ?_ ?_ ?_ ?_ ?_ <;> simp [kq, t2, t3, t4, t6, t7, t20, -Int.natCast_add]
end
end Go.Proofs
