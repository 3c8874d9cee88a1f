/- Bitset: sets, by their numbers. -/
import Derived.Test.YtfcdldibfdoljaaDoorTyZN
set_option linter.unusedVariables false
set_option linter.unusedSimpArgs false
set_option linter.unusedSectionVars false
namespace Go.Proofs
open Go.Sh
set_option linter.unusedVariables false
attribute [local instance] tabHeld
noncomputable section
def Trimmed (ws : List Nat) : Prop := ∀ n, ws.length = n + 1 → wd ws n ≠ 0
theorem wd_take (ws : List Nat) (n i : Nat) : wd (ws.take n) i = if i < n then wd ws i else 0 := by
  unfold wd
  rw [List.getD_eq_getElem?_getD, List.getElem?_take, List.getD_eq_getElem?_getD]
  split <;> rfl
theorem wd_trimN (ws : List Nat) : ∀ n, (∀ i, n ≤ i → wd ws i = 0) → ∀ i, wd (trimN ws n) i = wd ws i
  | 0, h, i => by rw [h i (Nat.zero_le _)]; rfl
  | n + 1, h, i => by
    unfold trimN
    split
    · rename_i e
      refine wd_trimN ws n (fun j hj => ?_) i
      rcases Nat.lt_or_ge n j with h1 | h1
      · exact h j h1
      · rw [show j = n by omega]; exact e
    · rw [wd_take]
      split
      · rfl
      · exact (h i (by omega)).symm
theorem wd_trim (ws : List Nat) (i : Nat) : wd (trim ws) i = wd ws i := wd_trimN ws ws.length (fun _ h => wd_over h) i
theorem trimN_trimmed (ws : List Nat) : ∀ n, n ≤ ws.length → Trimmed (trimN ws n)
  | 0, _ => fun m h => by simp [trimN] at h
  | n + 1, hn => by
    unfold trimN
    split
    · exact trimN_trimmed ws n (by omega)
    · rename_i e
      intro m hm
      rw [List.length_take] at hm
      rw [wd_take, if_pos (by omega), show m = n by omega]
      exact e
theorem trim_trimmed (ws : List Nat) : Trimmed (trim ws) := trimN_trimmed ws _ (Nat.le_refl _)
theorem trimmed_ext {a b : List Nat} (ha : Trimmed a) (hb : Trimmed b) (h : ∀ i, wd a i = wd b i) : a = b := by
  have hl : a.length = b.length := by
    rcases Nat.lt_trichotomy a.length b.length with e | e | e
    · exact absurd ((h _).symm.trans (wd_over (by omega))) (hb (b.length - 1) (by omega))
    · exact e
    · exact absurd ((h _).trans (wd_over (by omega))) (ha (a.length - 1) (by omega))
  apply List.ext_getElem hl
  intro i h1 h2
  have := h i
  simpa [wd, List.getD_eq_getElem?_getD, List.getElem?_eq_getElem h1, List.getElem?_eq_getElem h2] using this
theorem testBit_big {w : Nat} (h : w < 18446744073709551616) {j : Nat} (hj : 64 ≤ j) : w.testBit j = false :=
  Nat.testBit_lt_two_pow (Nat.lt_of_lt_of_le (show w < 2 ^ 64 from h) (Nat.pow_le_pow_right (by omega) hj))
theorem mem_at (ws : List Nat) (i j : Nat) (hj : j < 64) : mem ws (64 * i + j) = (wd ws i).testBit j := by
  unfold mem
  rw [show (64 * i + j) / 64 = i by omega, show (64 * i + j) % 64 = j by omega]
theorem words_ext {a b : List Nat} (ha : Words a) (hb : Words b) (h : ∀ k, mem a k = mem b k) (i : Nat) : wd a i = wd b i := by
  apply Nat.eq_of_testBit_eq
  intro j
  by_cases hj : j < 64
  · have := h (64 * i + j); rwa [mem_at _ _ _ hj, mem_at _ _ _ hj] at this
  · rw [testBit_big (ha.wd i) (by omega), testBit_big (hb.wd i) (by omega)]
/-- A set as it ought to be. -/
structure Neat (ws : List Nat) : Prop where
  words : Words ws
  len : ws.length ≤ 1024
  trimmed : Trimmed ws
theorem neat_ext {a b : List Nat} (ha : Neat a) (hb : Neat b) : a = b ↔ ∀ k, mem a k = mem b k :=
  ⟨fun e _ => by rw [e], fun h => trimmed_ext ha.trimmed hb.trimmed (words_ext ha.words hb.words h)⟩
theorem mem_big {ws : List Nat} (h : ws.length ≤ 1024) {k : Nat} (hk : 65536 ≤ k) : mem ws k = false := by
  unfold mem; rw [wd_over (by omega)]; simp
theorem mem_nil (k : Nat) : mem [] k = false := by unfold mem; rw [wd_over (by simp)]; simp
theorem neat_nil : Neat [] := ⟨fun _ h => by simp at h, Nat.zero_le _, fun n h => by simp at h⟩
theorem nums_eq {ws : List Nat} (h : ws.length ≤ 1024) : nums ws = (List.range 65536).filter (mem ws) := by
  unfold nums numsUpto
  rw [show 65536 = 64 * ws.length + (65536 - 64 * ws.length) by omega, List.range_add, List.filter_append]
  have : (List.map (fun x => 64 * ws.length + x) (List.range (65536 - 64 * ws.length))).filter (mem ws) = [] := by
    rw [List.filter_eq_nil_iff]
    intro x hx
    obtain ⟨y, _, rfl⟩ := List.mem_map.1 hx
    unfold mem
    rw [wd_over (by omega)]; simp
  rw [this, List.append_nil]
theorem nums_congr {a b : List Nat} (ha : a.length ≤ 1024) (hb : b.length ≤ 1024) (h : ∀ k, mem a k = mem b k) : nums a = nums b := by
  rw [nums_eq ha, nums_eq hb]; exact List.filter_congr fun k _ => h k
theorem mem_nums {ws : List Nat} (h : ws.length ≤ 1024) {k : Nat} : k ∈ nums ws ↔ mem ws k = true := by
  rw [nums_eq h, List.mem_filter, List.mem_range]
  refine ⟨fun h => h.2, fun e => ⟨?_, e⟩⟩
  rcases Nat.lt_or_ge k 65536 with h1 | h1
  · exact h1
  · rw [mem_big h h1] at e; cases e
theorem nums_mayN {ws : List Nat} (h : ws.length ≤ 1024) {zs : List Int} (e : ∀ k, k < 65536 → (mem ws k = true ↔ (k : Int) ∈ zs)) : nums ws = mayN zs := by
  rw [nums_eq h]
  unfold mayN
  apply List.filter_congr
  intro k hk
  have := e k (List.mem_range.1 hk)
  by_cases hz : (k : Int) ∈ zs
  · rw [this.2 hz, decide_eq_true hz]
  · rw [decide_eq_false hz]
    cases hm : mem ws k
    · rfl
    · exact absurd (this.1 hm) hz
theorem nil_iff {ws : List Nat} (h : Neat ws) : ws = [] ↔ nums ws = [] := by
  constructor
  · rintro rfl; rfl
  · intro e
    rw [neat_ext h neat_nil]
    intro k
    rw [mem_nil]
    cases hm : mem ws k
    · rfl
    · have := (mem_nums h.len).2 hm
      rw [e] at this; simp at this
theorem len_zero {ws : List Nat} (h : Neat ws) : eqI (ws.length : Int) 0 = decide (nums ws = []) := by
  rw [eqI_eq]
  congr 1
  rw [← nil_iff h]
  apply propext
  constructor
  · intro e; exact List.eq_nil_of_length_eq_zero (by omega)
  · rintro rfl; rfl
theorem mem_zip {g : Nat → Nat → Nat} {f : Bool → Bool → Bool} (hg : ∀ x y j, j < 64 → (g x y).testBit j = f (x.testBit j) (y.testBit j)) (h0 : g 0 0 = 0) (a b : List Nat) (k : Nat) : mem (trim (zipG g a b)) k = f (mem a k) (mem b k) := by
  have e : wd (trim (zipG g a b)) (k / 64) = g (wd a (k / 64)) (wd b (k / 64)) := by
    rw [wd_trim]
    unfold zipG
    rw [wd_map]
    split
    · rfl
    · rw [wd_over (show a.length ≤ k / 64 by omega), wd_over (show b.length ≤ k / 64 by omega), h0]
  unfold mem
  rw [e, hg _ _ _ (by omega)]
theorem zip_neat {g : Nat → Nat → Nat} (hg : ∀ x y, x < 18446744073709551616 → y < 18446744073709551616 → g x y < 18446744073709551616) {a b : List Nat} (ha : Neat a) (hb : Neat b) : Neat (trim (zipG g a b)) := by
  refine ⟨fun w hw => ?_, ?_, trim_trimmed _⟩
  · have := trimN_mem _ _ w hw
    obtain ⟨i, _, rfl⟩ := List.mem_map.1 this
    exact hg _ _ (ha.words.wd i) (hb.words.wd i)
  · have := trimN_length (zipG g a b) (zipG g a b).length
    rw [zipG_length] at this
    have := ha.len; have := hb.len
    unfold trim
    rw [zipG_length]
    omega
theorem mem_union (a b : List Nat) (k : Nat) : mem (trim (zipG (· ||| ·) a b)) k = (mem a k || mem b k) := mem_zip (f := fun x y => x || y) (fun x y j _ => Nat.testBit_or ..) rfl a b k
theorem mem_both (a b : List Nat) (k : Nat) : mem (trim (zipG (· &&& ·) a b)) k = (mem a k && mem b k) := mem_zip (f := fun x y => x && y) (fun x y j _ => Nat.testBit_and ..) rfl a b k
theorem mem_take (a b : List Nat) (k : Nat) : mem (trim (zipG andNot a b)) k = (mem a k && !mem b k) := by
  refine mem_zip (f := fun x y => x && !y) (fun x y j hj => ?_) rfl a b k
  unfold andNot
  rw [Nat.testBit_and, Nat.testBit_xor, show (18446744073709551615 : Nat) = 2 ^ 64 - 1 by decide, Nat.testBit_two_pow_sub_one, decide_eq_true hj]
  simp
theorem union_neat {a b : List Nat} (ha : Neat a) (hb : Neat b) : Neat (trim (zipG (· ||| ·) a b)) := zip_neat or_lt ha hb
theorem both_neat {a b : List Nat} (ha : Neat a) (hb : Neat b) : Neat (trim (zipG (· &&& ·) a b)) := zip_neat and_lt ha hb
theorem take_neat {a b : List Nat} (ha : Neat a) (hb : Neat b) : Neat (trim (zipG andNot a b)) := zip_neat minus_lt ha hb
theorem mem_with (a : List Nat) (n : Int) (k : Nat) : mem (withW a n) k = (mem a k || (decide (k < 65536) && decide ((k : Int) = n))) := by
  unfold withW
  split
  · rename_i h
    have : (decide (k < 65536) && decide ((k : Int) = n)) = false := by
      rw [Bool.and_eq_false_iff, decide_eq_false_iff_not, decide_eq_false_iff_not]; omega
    rw [this, Bool.or_false]
  · rename_i h
    obtain ⟨m, rfl⟩ : ∃ m : Nat, n = m := ⟨n.toNat, by omega⟩
    have e1 : (m : Int).toNat = m := by omega
    unfold mem
    rw [e1, wd_map]
    by_cases h1 : k / 64 = m / 64
    · rw [if_pos (by omega), if_pos h1, Nat.testBit_or, Nat.testBit_two_pow]
      have : decide (m % 64 = k % 64) = (decide (k < 65536) && decide ((k : Int) = m)) := by
        by_cases h2 : m % 64 = k % 64
        · have : k = m := by omega
          subst this
          rw [decide_eq_true rfl, decide_eq_true (show k < 65536 by omega)]; simp
        · rw [decide_eq_false h2, decide_eq_false (show ¬ (k : Int) = m by omega), Bool.and_false]
      rw [this]
    · have : (decide (k < 65536) && decide ((k : Int) = m)) = false := by
        rw [Bool.and_eq_false_iff, decide_eq_false_iff_not, decide_eq_false_iff_not]; omega
      rw [this, Bool.or_false]
      split
      · rfl
      · rw [wd_over (by omega)]
theorem with_neat {a : List Nat} (ha : Neat a) (n : Int) : Neat (withW a n) := by
  unfold withW
  split
  · exact ha
  · rename_i h
    have hp : 2 ^ (n.toNat % 64) < 18446744073709551616 := pow_lt64 _ (Nat.mod_lt _ (by decide))
    refine ⟨fun w hw => ?_, ?_, fun m hm => ?_⟩
    · obtain ⟨i, _, rfl⟩ := List.mem_map.1 hw
      skip
      split
      · exact or_lt _ _ (ha.words.wd _) hp
      · exact ha.words.wd _
    · have := ha.len
      simp; omega
    · simp only [List.length_map, List.length_range] at hm
      rw [wd_map, if_pos (by omega)]
      by_cases h1 : m = n.toNat / 64
      · rw [if_pos h1]
        have h0 : 0 < 2 ^ (n.toNat % 64) := Nat.pow_pos (by decide)
        have := Nat.right_le_or (n := wd a m) (m := 2 ^ (n.toNat % 64))
        omega
      · rw [if_neg h1]
        exact ha.trimmed m (by omega)
theorem fold_of (zs : List Int) : ∀ (a : List Nat), Neat a → Neat (zs.foldl withW a) ∧ ∀ k, mem (zs.foldl withW a) k = (mem a k || (decide (k < 65536) && decide ((k : Int) ∈ zs))) := by
  induction zs with
  | nil => intro a ha; exact ⟨ha, fun k => by simp⟩
  | cons z zs ih =>
    intro a ha
    obtain ⟨h1, h2⟩ := ih (withW a z) (with_neat ha z)
    refine ⟨h1, fun k => ?_⟩
    show mem (zs.foldl withW (withW a z)) k = _
    rw [h2, mem_with]
    by_cases q1 : (k : Int) = z
    · by_cases q2 : k < 65536 <;> simp [q1, q2]
    · by_cases q2 : k < 65536 <;> simp [q1, q2]
theorem of_neat (zs : List Int) : Neat (ofW zs) := (fold_of zs [] neat_nil).1
theorem mem_of (zs : List Int) (k : Nat) : mem (ofW zs) k = (decide (k < 65536) && decide ((k : Int) ∈ zs)) := by
  have := (fold_of zs [] neat_nil).2 k
  rw [mem_nil, Bool.false_or] at this
  exact this
theorem nums_of (zs : List Int) : nums (ofW zs) = mayN zs := nums_mayN (of_neat zs).len fun k hk => by rw [mem_of, decide_eq_true hk]; simp
theorem with_of (zs : List Int) (n : Int) : withW (ofW zs) n = ofW (zs ++ [n]) := by unfold ofW; rw [List.foldl_append]; rfl
theorem nums_union (a b : List Int) : nums (trim (zipG (· ||| ·) (ofW a) (ofW b))) = mayN (a ++ b) :=
  nums_mayN (union_neat (of_neat a) (of_neat b)).len fun k hk => by rw [mem_union, mem_of, mem_of, decide_eq_true hk]; simp
theorem nums_take (a b : List Int) : nums (trim (zipG andNot (ofW a) (ofW b))) = (mayN a).filter fun (k : Nat) => !decide (k ∈ mayN b) := by
  rw [nums_eq (take_neat (of_neat a) (of_neat b)).len]
  unfold mayN
  rw [List.filter_filter]
  apply List.filter_congr
  intro k hk
  have hk := List.mem_range.1 hk
  have e : (k ∈ (List.range 65536).filter fun (k : Nat) => decide ((k : Int) ∈ b)) ↔ (k : Int) ∈ b := by
    rw [List.mem_filter, decide_eq_true_iff]; exact ⟨fun h => h.2, fun h => ⟨List.mem_range.2 hk, h⟩⟩
  rw [mem_take, mem_of, mem_of, decide_eq_true hk, Bool.true_and, Bool.true_and, Bool.and_comm, decide_eq_decide.2 e]
theorem nums_both (a b : List Int) : nums (trim (zipG (· &&& ·) (ofW a) (ofW b))) = (mayN a).filter fun (k : Nat) => decide (k ∈ mayN b) := by
  rw [nums_eq (both_neat (of_neat a) (of_neat b)).len]
  unfold mayN
  rw [List.filter_filter]
  apply List.filter_congr
  intro k hk
  have hk := List.mem_range.1 hk
  have e : (k ∈ (List.range 65536).filter fun (k : Nat) => decide ((k : Int) ∈ b)) ↔ (k : Int) ∈ b := by
    rw [List.mem_filter, decide_eq_true_iff]; exact ⟨fun h => h.2, fun h => ⟨List.mem_range.2 hk, h⟩⟩
  rw [mem_both, mem_of, mem_of, decide_eq_true hk, Bool.true_and, Bool.true_and, Bool.and_comm, decide_eq_decide.2 e]
theorem has_of (zs : List Int) (n : Int) : hasI (ofW zs) n = decide (n ∈ (mayN zs).map fun (k : Nat) => (k : Int)) := by
  unfold hasI
  rw [mem_of]
  by_cases h : 0 ≤ n
  · obtain ⟨m, rfl⟩ : ∃ m : Nat, n = m := ⟨n.toNat, by omega⟩
    have e : ((m : Int) ∈ (mayN zs).map fun (k : Nat) => (k : Int)) ↔ m < 65536 ∧ (m : Int) ∈ zs := by
      rw [List.mem_map, ← mem_mayN]
      constructor
      · rintro ⟨k, h1, h2⟩
        rwa [show m = k by omega]
      · intro h1; exact ⟨m, h1, rfl⟩
    rw [decide_eq_true h, Bool.true_and, decide_eq_decide.2 e, show (m : Int).toNat = m by omega, Bool.decide_and]
  · rw [decide_eq_false h, Bool.false_and]
    symm
    rw [decide_eq_false_iff_not, List.mem_map]
    rintro ⟨k, _, rfl⟩
    omega
theorem same_of (a b : List Int) : decide (ofW a = ofW b) = decide (mayN a = mayN b) := by
  apply decide_eq_decide.2
  constructor
  · intro e; rw [← nums_of, ← nums_of, e]
  · intro e
    rw [neat_ext (of_neat a) (of_neat b)]
    intro k
    have h1 := mem_nums (of_neat a).len (k := k)
    have h2 := mem_nums (of_neat b).len (k := k)
    rw [nums_of] at h1 h2
    rw [e] at h1
    rw [Bool.eq_iff_iff, ← h1, ← h2]
end
end Go.Proofs
