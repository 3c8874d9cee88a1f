/- Bitset: how many numbers a set has. -/
import Derived.Test.YtfcdldibfdoljaaDoorTyZI
set_option linter.unusedVariables false
set_option linter.unusedSimpArgs false
set_option linter.unusedSectionVars false
namespace Go.Proofs
open Go.Sh
set_option linter.unusedVariables false
attribute [local instance] tabHeld
noncomputable section
theorem st1_rep : ∀ k w, st1 k w ≤ 255 * rep 1 k
  | 0, w => by simp [st1, rep]
  | k + 1, w => by
    have b1 : g1 (w % 256) < 256 := (byte_one (Nat.mod_lt w (by decide))).2.2.1
    have := st1_rep k (w / 256)
    rw [st1_succ, show rep 1 (k + 1) = 1 + 256 * rep 1 k from rfl]
    omega
theorem st2_rep : ∀ k w, st2 k (st1 k w) ≤ 68 * rep 1 k
  | 0, w => by simp [st2, rep]
  | k + 1, w => by
    have b1 : g2 (g1 (w % 256)) < 69 := (byte_one (Nat.mod_lt w (by decide))).2.2.2.1
    have := st2_rep k (w / 256)
    rw [st21, show rep 1 (k + 1) = 1 + 256 * rep 1 k from rfl]
    omega
theorem st1_le (w : Nat) : st1 8 w < 18446744073709551616 ∧ st2 8 (st1 8 w) < 5000000000000000000 := by
  have h1 : rep 1 8 = 72340172838076673 := by decide
  have := st1_rep 8 w
  have := st2_rep 8 w
  omega
theorem rep85 : rep 85 8 = 6148914691236517205 := by decide
theorem rep51 : rep 51 8 = 3689348814741910323 := by decide
theorem rep15 : rep 15 8 = 1085102592571150095 := by decide
theorem shr_k (w r : Nat) (hr : r < 64) : shiftInt .shr .u64 (w : Int) (r : Int) = some ((w / 2 ^ r : Nat) : Int) := by rw [shr_nat w r hr, Nat.shiftRight_eq_div_pow]
theorem add_u64 {x y : Nat} (h : x + y < 18446744073709551616) : IntKind.u64.wrap ((x : Int) + (y : Int)) = ((x + y : Nat) : Int) := by
  rw [← Int.natCast_add]; exact wrap_u64 (by omega) (by omega)
theorem and127 {x : Nat} (h : x < 9223372036854775808) : arithInt .and .i64 (x : Int) 127 = some ((x % 128 : Nat) : Int) := by
  show some (IntKind.i64.wrap ((BitVec.ofInt 64 (x : Int) &&& BitVec.ofInt 64 ((127 : Nat) : Int)).toNat : Int)) = _
  rw [ofNat64, ofNat64, BitVec.toNat_and, BitVec.toNat_ofNat, BitVec.toNat_ofNat, Nat.mod_eq_of_lt (show x < 2 ^ 64 by omega), Nat.mod_eq_of_lt (show 127 < 2 ^ 64 by decide), Nat.and_two_pow_sub_one_eq_mod x 7]
  rw [wrap_i64 (by omega) (by omega)]
theorem Tryd.ones (w : Nat) (hw : w < 18446744073709551616) (h : H) : Tryd.lc 22 [.int .u64 w] h = some (.int .i64 ((bitsOf w).length : Nat), h) := by
  obtain ⟨l1, l2⟩ := st1_le w
  obtain ⟨y1, y2, y3, c1, c2, c3, c4, c5⟩ := cnt_eight w hw
  have ht : tot 8 w = (st2 8 (st1 8 w) / 16 + st2 8 (st1 8 w)) &&& rep 15 8 := rfl
  have p1 := shr_k w 1 (by decide)
  have p2 : arithInt .and .u64 ((w / 2 ^ 1 : Nat) : Int) 6148914691236517205 = some ((w / 2 ^ 1 &&& rep 85 8 : Nat) : Int) := by rw [rep85]; exact ar_and (by omega) (y := 6148914691236517205) (by decide)
  have p3 : arithInt .and .u64 (w : Int) 6148914691236517205 = some ((w &&& rep 85 8 : Nat) : Int) := by rw [rep85]; exact ar_and hw (y := 6148914691236517205) (by decide)
  have p4 := add_u64 (x := w / 2 ^ 1 &&& rep 85 8) (y := w &&& rep 85 8) l1
  have e4 : (w / 2 ^ 1 &&& rep 85 8) + (w &&& rep 85 8) = st1 8 w := rfl
  rw [e4] at p4
  generalize st1 8 w = s1 at *
  have p5 := shr_k s1 2 (by decide)
  have p6 : arithInt .and .u64 ((s1 / 2 ^ 2 : Nat) : Int) 3689348814741910323 = some ((s1 / 2 ^ 2 &&& rep 51 8 : Nat) : Int) := by rw [rep51]; exact ar_and (by omega) (y := 3689348814741910323) (by decide)
  have p7 : arithInt .and .u64 (s1 : Int) 3689348814741910323 = some ((s1 &&& rep 51 8 : Nat) : Int) := by rw [rep51]; exact ar_and l1 (y := 3689348814741910323) (by decide)
  have p8 := add_u64 (x := s1 / 2 ^ 2 &&& rep 51 8) (y := s1 &&& rep 51 8) (Nat.lt_trans l2 (by decide))
  have e8 : (s1 / 2 ^ 2 &&& rep 51 8) + (s1 &&& rep 51 8) = st2 8 s1 := rfl
  rw [e8] at p8
  generalize st2 8 s1 = s2 at *
  have p9 := shr_k s2 4 (by decide)
  have p10 := add_u64 (x := s2 / 2 ^ 4) (y := s2) (by omega)
  have p11 : arithInt .and .u64 ((s2 / 2 ^ 4 + s2 : Nat) : Int) 1085102592571150095 = some ((tot 8 w : Nat) : Int) := by rw [ht, rep15]; exact ar_and (by omega) (y := 1085102592571150095) (by decide)
  generalize tot 8 w = s3 at *
  have p12 := shr_k s3 8 (by decide)
  have p13 := add_u64 (x := s3) (y := s3 / 2 ^ 8) (by omega)
  rw [show s3 + s3 / 2 ^ 8 = y1 from c1.symm] at p13
  have p14 := shr_k y1 16 (by decide)
  have p15 := add_u64 (x := y1) (y := y1 / 2 ^ 16) (by omega)
  rw [show y1 + y1 / 2 ^ 16 = y2 from c2.symm] at p15
  have p16 := shr_k y2 32 (by decide)
  have p17 := add_u64 (x := y2) (y := y2 / 2 ^ 32) (by omega)
  rw [show y2 + y2 / 2 ^ 32 = y3 from c3.symm] at p17
  have p18 : IntKind.i64.wrap (y3 : Int) = (y3 : Int) := wrap_i64 (by omega) (by omega)
  have p19 := and127 c4
  rw [c5] at p19
  generalize w / 2 ^ 1 &&& rep 85 8 = m1 at *
  generalize w &&& rep 85 8 = m2 at *
  generalize s1 / 2 ^ 2 &&& rep 51 8 = m3 at *
  generalize s1 &&& rep 51 8 = m4 at *
  generalize w / 2 ^ 1 = m5 at *
  generalize s1 / 2 ^ 2 = m6 at *
  generalize hm7 : s2 / 2 ^ 4 + s2 = m7 at *
  generalize s2 / 2 ^ 4 = m8 at *
  generalize s3 / 2 ^ 8 = m9 at *
  generalize y1 / 2 ^ 16 = m10 at *
  generalize y2 / 2 ^ 32 = m11 at *
  clear c1 c2 c3 ht e4 e8
  have q1 : shiftInt .shr .u64 (w : Int) 1 = some (m5 : Int) := p1
  have q5 : shiftInt .shr .u64 (s1 : Int) 2 = some (m6 : Int) := p5
  have q9 : shiftInt .shr .u64 (s2 : Int) 4 = some (m8 : Int) := p9
  have q12 : shiftInt .shr .u64 (s3 : Int) 8 = some (m9 : Int) := p12
  have q14 : shiftInt .shr .u64 (y1 : Int) 16 = some (m10 : Int) := p14
  have q16 : shiftInt .shr .u64 (y2 : Int) 32 = some (m11 : Int) := p16
  refine Tryd.en (n := 1) (kf := Tryd.k22) (by kernel_rfl) ?_
  rw [Tryd.k22_eq, enter_eq]
  simp [↓ kq, kq, ↓ ko, ko, kb, kv, kt, kx, argsP, q1, p2, p3, p4, q5, p6, p7, p8, q9, p10, p11, q12, p13, q14, p15, q16, p17, p18, p19, kfin, kc, oneS, -bO_of, -bB_true, -bB_false, -H.next_push, -Int.natCast_add]
theorem Tryd.len_loop {ws : List Nat} (hws : Words ws) (hl : ws.length ≤ 1024) {v : SV} {h : H} (w : View h 1 v ws.length (u64s ws)) : ∀ (j i k : Nat) (t : T), i + j = ws.length → j < k →
    getP (way 2) t = some (.int .i64 ((numsUpto ws i).length : Nat)) → getP (way 6) t = some v → getP (way 7) t = some (.int .i64 ws.length) → getP (way 8) t = some (.int .i64 i) →
    Gets (cLoop Tryd.l11_0 k Tryd.lc t h) fun fl t' h' => fl = .exit 0 ∧ h' = h ∧ getP (way 2) t' = some (.int .i64 ((nums ws).length : Nat)) := by
  intro j
  induction j with
  | zero =>
    intro i k t hi hk t2 t6 t7 t8
    obtain ⟨k, rfl⟩ : ∃ m, k = m + 1 := ⟨k - 1, by omega⟩
    rw [loop_succ]
    generalize (fun t h => cLoop Tryd.l11_0 k Tryd.lc t h) = L
    unfold Tryd.l11_0
    obtain rfl : i = ws.length := by omega
    have e1 : ltI (ws.length : Int) ws.length = false := by rw [ltI_eq]; exact decide_eq_false (by omega)
    have t2 : getP (way 2) t = some (.int .i64 ((nums ws).length : Nat)) := t2
    simp [↓ kq, kq, ↓ ko, ko, kb, kv, kt, kx, t2, t6, t7, t8, e1, gets_some, -bO_of, -bB_true, -bB_false, -H.next_push, -Int.natCast_add]
  | succ j ih =>
    intro i k t hi hk t2 t6 t7 t8
    obtain ⟨k, rfl⟩ : ∃ m, k = m + 1 := ⟨k - 1, by omega⟩
    rw [loop_succ]
    generalize hL : (fun t h => cLoop Tryd.l11_0 k Tryd.lc t h) = L
    unfold Tryd.l11_0
    have e1 : ltI (i : Int) ws.length = true := by rw [ltI_eq]; exact decide_eq_true (by omega)
    have e2 : IntKind.i64.wrap ((i : Int) + 1) = ((i + 1 : Nat) : Int) := by
      rw [Int.natCast_add]; exact wrap_i64 (by omega) (by omega)
    obtain ⟨pA, x2, x3⟩ := w.loadV (i := i) (by omega)
    rw [u64s_get ws i (by omega)] at x3
    have hbl := bitsOf_len (wd ws i)
    have hnl := numsUpto_len ws i
    have k1 := Tryd.ones (wd ws i) (hws.wd i) h
    have e3 : IntKind.i64.wrap ((((numsUpto ws i).length : Nat) : Int) + (((bitsOf (wd ws i)).length : Nat) : Int)) = (((numsUpto ws (i + 1)).length : Nat) : Int) := by
      rw [numsUpto_succ, List.length_append, List.length_map, ← Int.natCast_add]; exact wrap_i64 (by omega) (by omega)
    generalize (numsUpto ws i).length = n0 at *
    generalize hn1 : (numsUpto ws (i + 1)).length = n1 at *
    generalize (bitsOf (wd ws i)).length = n2 at *
    simp [↓ kq, kq, ↓ ko, ko, kb, kv, kt, kx, t2, t6, t7, t8, e1, x2, x3, k1, e2, e3, -bO_of, -bB_true, -bB_false, -H.next_push, -Int.natCast_add]
    rw [← hL]
    refine ih (i + 1) k _ (by omega) (by omega) ?_ ?_ ?_ ?_
    · rw [hn1]; simp [kq]
    · simp [kq, t6]
    · simp [kq, t7]
    · simp [kq, -Int.natCast_add]
def LenRes (h : H) (n : Nat) (r : SV) (h' : H) : Prop := r = .int .i64 n ∧ Fr (fun _ => False) (fun _ => False) h h'
theorem Tryd.len {h : H} {va : SV} {ws : List Nat} (s : IsSet h va ws) : ∃ r h', Tryd.lc 11 [.agg [va]] h = some (r, h') ∧ LenRes h (nums ws).length r h' := by
  generalize hh1 : h.push (.cells [va] .fixed) = h1
  have f1 : Fr (fun _ => False) (fun _ => False) h h1 := by rw [← hh1]; exact .push
  have ca' : loadV none h1.get (.ptr h.next 0) = some va := by rw [loadV_one (by rw [← hh1]; exact rowCells_push : rowCells h1.get h.next = some [va])]; rfl
  have w1 := (s.calm f1).view
  refine Tryd.enG (n := ws.length + 1) (kf := Tryd.k11) (by kernel_rfl) Tryd.k11_eq rfl ?_
  simp [↓ kq, kq, ↓ ko, ko, kb, kv, kt, kx, hh1, ca', w1.length, -bO_of, -bB_true, -bB_false, -H.next_push, -Int.natCast_add]
  refine gets_next (gets_leave (Gets.mono (Tryd.len_loop s.words s.len w1 ws.length 0 (ws.length + 1) _ (by omega) (by omega) ?_ ?_ ?_ ?_) fun fl t' h2 ⟨b1, b2, t2⟩ => ?_))
  · simp [kq, numsUpto]
  · simp [kq]
  · simp [kq]
  · simp [kq]
  subst b1 b2
  simp [↓ kq, kq, ↓ ko, ko, kb, kv, kt, kx, t2, gets_some, kc, -bO_of, -bB_true, -bB_false, -H.next_push, -Int.natCast_add]
  exact ⟨rfl, f1⟩
end
end Go.Proofs
