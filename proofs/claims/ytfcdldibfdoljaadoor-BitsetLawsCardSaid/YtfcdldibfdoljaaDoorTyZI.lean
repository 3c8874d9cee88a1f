/- Bitset: how many bits a word has. -/
import Derived.Test.YtfcdldibfdoljaaDoorTyZH
set_option linter.unusedVariables false
set_option linter.unusedSimpArgs false
set_option linter.unusedSectionVars false
namespace Go.Proofs
open Go.Sh
set_option linter.unusedVariables false
attribute [local instance] tabHeld
noncomputable section
def rep (c : Nat) : Nat → Nat
  | 0 => 0
  | k + 1 => c + 256 * rep c k
theorem and_split {x a : Nat} (y m : Nat) (hx : x < 256) (ha : a < 256) : (x + 256 * y) &&& (a + 256 * m) = (x &&& a) + 256 * (y &&& m) := by
  have hxa : x &&& a < 256 := Nat.lt_of_le_of_lt Nat.and_le_left hx
  apply Nat.eq_of_testBit_eq
  intro i
  rw [Nat.add_comm x, Nat.add_comm a, Nat.add_comm (x &&& a), show (256 : Nat) = 2 ^ 8 from rfl] at *
  rw [Nat.testBit_and, Nat.testBit_two_pow_mul_add _ hx, Nat.testBit_two_pow_mul_add _ ha, Nat.testBit_two_pow_mul_add _ hxa]
  by_cases h : i < 8
  · simp [h]
  · simp [h]
def g1 (b : Nat) : Nat := (b / 2 &&& 85) + (b &&& 85)
def g2 (b : Nat) : Nat := (b / 4 &&& 51) + (b &&& 51)
def g3 (b : Nat) : Nat := b / 16 + b &&& 15
def st1 (k w : Nat) : Nat := (w / 2 &&& rep 85 k) + (w &&& rep 85 k)
def st2 (k w : Nat) : Nat := (w / 4 &&& rep 51 k) + (w &&& rep 51 k)
def st3 (k w : Nat) : Nat := w / 16 + w &&& rep 15 k
def c8 (b : Nat) : Nat := ((List.range 8).filter b.testBit).length
theorem byte_all : ((List.range 256).all fun b => ((List.range 2).all fun r => Nat.beq ((b / 2 + 128 * r) &&& 85) (b / 2 &&& 85)) && ((List.range 4).all fun r => Nat.beq ((b / 4 + 64 * r) &&& 51) (b / 4 &&& 51)) && Nat.blt (g1 b) 256 && Nat.blt (g2 (g1 b)) 69 && Nat.ble (g2 (g1 b) % 16) 4 && Nat.beq (g3 (g2 (g1 b))) (c8 b) && Nat.ble (c8 b) 8) = true := by kernel_rfl
theorem low_all : ((List.range 69).all fun b => ((List.range 5).all fun r => Nat.beq ((b / 16 + 16 * r + b) &&& 15) (g3 b)) || !Nat.ble (b % 16) 4) = true := by kernel_rfl
theorem byte_one {b : Nat} (h : b < 256) : (∀ r, r < 2 → (b / 2 + 128 * r) &&& 85 = b / 2 &&& 85) ∧ (∀ r, r < 4 → (b / 4 + 64 * r) &&& 51 = b / 4 &&& 51) ∧ g1 b < 256 ∧ g2 (g1 b) < 69 ∧ g2 (g1 b) % 16 ≤ 4 ∧ g3 (g2 (g1 b)) = c8 b ∧ c8 b ≤ 8 := by
  have a := List.all_eq_true.1 byte_all b (List.mem_range.2 h)
  simp only [Bool.and_eq_true] at a
  obtain ⟨⟨⟨⟨⟨⟨a1, a2⟩, a3⟩, a4⟩, a5⟩, a6⟩, a7⟩ := a
  exact ⟨fun r hr => Nat.eq_of_beq_eq_true (List.all_eq_true.1 a1 r (List.mem_range.2 hr)), fun r hr => Nat.eq_of_beq_eq_true (List.all_eq_true.1 a2 r (List.mem_range.2 hr)), Nat.le_of_ble_eq_true a3, Nat.le_of_ble_eq_true a4, Nat.le_of_ble_eq_true a5, Nat.eq_of_beq_eq_true a6, Nat.le_of_ble_eq_true a7⟩
theorem low_one {b r : Nat} (h : b < 69) (h4 : b % 16 ≤ 4) (hr : r ≤ 4) : (b / 16 + 16 * r + b) &&& 15 = g3 b := by
  have a := List.all_eq_true.1 low_all b (List.mem_range.2 h)
  rw [Nat.ble_eq_true_of_le h4, Bool.or_eq_true] at a
  rcases a with a | a
  · exact Nat.eq_of_beq_eq_true (List.all_eq_true.1 a r (List.mem_range.2 (by omega)))
  · exact absurd a (by decide)
theorem st1_succ (k w : Nat) : st1 (k + 1) w = g1 (w % 256) + 256 * st1 k (w / 256) := by
  obtain ⟨a1, _⟩ := byte_one (Nat.mod_lt w (show 0 < 256 by decide))
  have e1 : w / 2 = (w % 256 / 2 + 128 * (w / 256 % 2)) + 256 * (w / 256 / 2) := by omega
  have e2 : w = w % 256 + 256 * (w / 256) := by omega
  have p1 := and_split (w / 256 / 2) (rep 85 k) (show w % 256 / 2 + 128 * (w / 256 % 2) < 256 by omega) (show 85 < 256 by decide)
  have p2 := and_split (w / 256) (rep 85 k) (show w % 256 < 256 by omega) (show 85 < 256 by decide)
  rw [← e1, a1 _ (by omega)] at p1
  rw [← e2] at p2
  unfold st1 g1
  rw [show rep 85 (k + 1) = 85 + 256 * rep 85 k from rfl, p1, p2]
  omega
theorem st2_succ (k w : Nat) : st2 (k + 1) w = g2 (w % 256) + 256 * st2 k (w / 256) := by
  obtain ⟨_, a1, _⟩ := byte_one (Nat.mod_lt w (show 0 < 256 by decide))
  have e1 : w / 4 = (w % 256 / 4 + 64 * (w / 256 % 4)) + 256 * (w / 256 / 4) := by omega
  have e2 : w = w % 256 + 256 * (w / 256) := by omega
  have p1 := and_split (w / 256 / 4) (rep 51 k) (show w % 256 / 4 + 64 * (w / 256 % 4) < 256 by omega) (show 51 < 256 by decide)
  have p2 := and_split (w / 256) (rep 51 k) (show w % 256 < 256 by omega) (show 51 < 256 by decide)
  rw [← e1, a1 _ (by omega)] at p1
  rw [← e2] at p2
  unfold st2 g2
  rw [show rep 51 (k + 1) = 51 + 256 * rep 51 k from rfl, p1, p2]
  omega
theorem st21 (k w : Nat) : st2 (k + 1) (st1 (k + 1) w) = g2 (g1 (w % 256)) + 256 * st2 k (st1 k (w / 256)) := by
  obtain ⟨_, _, a1, _⟩ := byte_one (Nat.mod_lt w (show 0 < 256 by decide))
  rw [st2_succ, st1_succ]
  rw [show (g1 (w % 256) + 256 * st1 k (w / 256)) % 256 = g1 (w % 256) by omega, show (g1 (w % 256) + 256 * st1 k (w / 256)) / 256 = st1 k (w / 256) by omega]
theorem st21_low (k w : Nat) : st2 k (st1 k w) % 16 ≤ 4 := by
  cases k with
  | zero => simp [st2, rep]
  | succ k =>
    obtain ⟨_, _, _, _, a5, _⟩ := byte_one (Nat.mod_lt w (show 0 < 256 by decide))
    rw [st21]; omega
def tot (k w : Nat) : Nat := st3 k (st2 k (st1 k w))
theorem tot_succ (k w : Nat) : tot (k + 1) w = c8 (w % 256) + 256 * tot k (w / 256) := by
  obtain ⟨_, _, _, a4, a5, a6, _⟩ := byte_one (Nat.mod_lt w (show 0 < 256 by decide))
  have hl := st21_low k (w / 256)
  unfold tot
  rw [st21]
  generalize st2 k (st1 k (w / 256)) = y at *
  generalize g2 (g1 (w % 256)) = b at *
  have e : (b + 256 * y) / 16 + (b + 256 * y) = (b / 16 + 16 * (y % 16) + b) + 256 * (y / 16 + y) := by omega
  have p1 := and_split (y / 16 + y) (rep 15 k) (show b / 16 + 16 * (y % 16) + b < 256 by omega) (show 15 < 256 by decide)
  unfold st3
  rw [show rep 15 (k + 1) = 15 + 256 * rep 15 k from rfl, e, p1, low_one a4 a5 hl, a6]
def cnt (k w : Nat) : Nat := ((List.range (8 * k)).filter w.testBit).length
theorem cnt_succ (k w : Nat) : cnt (k + 1) w = c8 (w % 256) + cnt k (w / 256) := by
  unfold cnt c8
  rw [show 8 * (k + 1) = 8 + 8 * k by omega, List.range_add, List.filter_append, List.length_append, List.filter_map, List.length_map]
  congr 2
  · apply List.filter_congr
    intro i hi
    have hi := List.mem_range.1 hi
    rw [show (256 : Nat) = 2 ^ 8 from rfl, Nat.testBit_mod_two_pow]
    simp [hi]
  · apply List.filter_congr
    intro i hi
    show w.testBit (8 + i) = _
    rw [show (256 : Nat) = 2 ^ 8 from rfl, Nat.testBit_div_two_pow, Nat.add_comm]
/-- the last three steps -/
theorem fold_bytes {c0 c1 c2 c3 c4 c5 c6 c7 : Nat} (h0 : c0 ≤ 8) (h1 : c1 ≤ 8) (h2 : c2 ≤ 8) (h3 : c3 ≤ 8) (h4 : c4 ≤ 8) (h5 : c5 ≤ 8) (h6 : c6 ≤ 8) (h7 : c7 ≤ 8) {y y1 y2 y3 : Nat}
    (ey : y = c0 + 256 * (c1 + 256 * (c2 + 256 * (c3 + 256 * (c4 + 256 * (c5 + 256 * (c6 + 256 * c7))))))) (e1 : y1 = y + y / 256) (e2 : y2 = y1 + y1 / 65536) (e3 : y3 = y2 + y2 / 4294967296) :
    y3 < 9223372036854775808 ∧ y3 % 128 = c0 + (c1 + (c2 + (c3 + (c4 + (c5 + (c6 + c7)))))) := by
  have q1 : y / 256 = c1 + 256 * (c2 + 256 * (c3 + 256 * (c4 + 256 * (c5 + 256 * (c6 + 256 * c7))))) := by omega
  have f1 : y1 = (c0 + c1) + 256 * (c1 + c2) + 65536 * ((c2 + c3) + 256 * (c3 + c4) + 65536 * ((c4 + c5) + 256 * (c5 + c6) + 65536 * ((c6 + c7) + 256 * c7))) := by omega
  clear q1 e1 ey
  have q2 : y1 / 65536 = (c2 + c3) + 256 * (c3 + c4) + 65536 * ((c4 + c5) + 256 * (c5 + c6) + 65536 * ((c6 + c7) + 256 * c7)) := by omega
  have f2 : y2 = (c0 + c1 + (c2 + c3)) + 256 * (c1 + c2 + (c3 + c4)) + 65536 * ((c2 + c3 + (c4 + c5)) + 256 * (c3 + c4 + (c5 + c6))) + 4294967296 * ((c4 + c5 + (c6 + c7)) + 256 * (c5 + c6 + c7) + 65536 * ((c6 + c7) + 256 * c7)) := by omega
  clear q2 e2 f1
  have q3 : y2 / 4294967296 = (c4 + c5 + (c6 + c7)) + 256 * (c5 + c6 + c7) + 65536 * ((c6 + c7) + 256 * c7) := by omega
  omega
theorem cnt_eight (w : Nat) (h : w < 18446744073709551616) : ∃ y1 y2 y3, y1 = tot 8 w + tot 8 w / 256 ∧ y2 = y1 + y1 / 65536 ∧ y3 = y2 + y2 / 4294967296 ∧ y3 < 9223372036854775808 ∧ y3 % 128 = (bitsOf w).length := by
  refine ⟨_, _, _, rfl, rfl, rfl, ?_⟩
  have hc : (bitsOf w).length = cnt 8 w := rfl
  rw [hc]
  simp only [tot_succ, cnt_succ]
  have z1 : ∀ w, tot 0 w = 0 := fun w => by simp [tot, st3, rep]
  have z2 : ∀ w, cnt 0 w = 0 := fun w => rfl
  simp only [z1, z2, Nat.mul_zero, Nat.add_zero]
  have c : ∀ b, c8 (b % 256) ≤ 8 := fun b => (byte_one (Nat.mod_lt b (by decide))).2.2.2.2.2.2
  exact fold_bytes (c _) (c _) (c _) (c _) (c _) (c _) (c _) (c _) rfl rfl rfl rfl
end
end Go.Proofs
