/- Bytes: the document's numbers that are read; no reader at all. -/
import Derived.Test.YtfcdldibfdoljaaTyR
set_option linter.unusedVariables false
set_option linter.unusedSimpArgs false
set_option linter.unusedSectionVars false
namespace Go.Sh
theorem View.from {h : H} {es n : Nat} {v : SV} {cs : List SV} (w : View h es v n cs) (l : Nat) (hl : l ≤ n) :
    ∃ v', kslice es v (some (.int .i64 l)) none none = some v' ∧ View h es v' (n - l) (cs.drop (l * es)) ∧ (∀ q, isRow v' q → isRow v q) := by
  obtain ⟨v', h1, h2, h3⟩ := w.slice l n hl (Nat.le_refl _)
  have hlen := w.1
  refine ⟨v', ?_, ?_, h3⟩
  · rw [← h1]
    have hn : ∀ d m : Nat, boundOf d (some (.int .i64 (m : Int))) = some m := fun d m => by simp [boundOf, intNat]
    obtain ⟨_, ⟨rfl, rfl⟩ | ⟨id, off, cap, all, rfl, _, _, _⟩⟩ := w
    · obtain rfl : l = 0 := by omega
      rfl
    · show (if es = es then sliceRow id off n es cap _ _ none else none) = (if es = es then sliceRow id off n es cap _ _ none else none)
      rw [if_pos rfl, if_pos rfl]
      unfold sliceRow
      rw [hn n n]
      rfl
  · rw [List.take_of_length_le (by rw [List.length_drop, hlen, Nat.sub_mul]; omega)] at h2
    exact h2
end Go.Sh
namespace Go.Proofs
open Go.Sh
set_option linter.unusedVariables false
attribute [local instance] heldNone
noncomputable section
def ustep (v z : Int) : Int := IntKind.u64.wrap (BitVec.ofInt 64 (IntKind.u64.wrap (v * 256)) ||| BitVec.ofInt 64 (IntKind.u64.wrap z)).toNat
theorem wrap_u64 {x : Int} (h : 0 ≤ x) (h' : x < 18446744073709551616) : IntKind.u64.wrap x = x := by
  unfold IntKind.wrap; simp [IntKind.bits, IntKind.signed]; omega
theorem ustep_eq {v z : Int} (hv : 0 ≤ v) (hv' : v < 1099511627776) (hz : 0 ≤ z) (hz' : z < 256) : ustep v z = v * 256 + z := by
  obtain ⟨a, rfl⟩ : ∃ a : Nat, v = a := ⟨v.toNat, by omega⟩
  obtain ⟨b, rfl⟩ : ∃ b : Nat, z = b := ⟨z.toNat, by omega⟩
  have w1 : IntKind.u64.wrap ((a : Int) * 256) = ((a * 256 : Nat) : Int) := by rw [Int.natCast_mul]; exact wrap_u64 (by omega) (by omega)
  have w2 : IntKind.u64.wrap (b : Int) = (b : Int) := wrap_u64 (by omega) (by omega)
  unfold ustep
  rw [w1, w2]
  have e : (BitVec.ofInt 64 ((a * 256 : Nat) : Int) ||| BitVec.ofInt 64 (b : Int)).toNat = a * 256 + b := by
    have e1 : ∀ x : Nat, BitVec.ofInt 64 (x : Int) = BitVec.ofNat 64 x := fun x => BitVec.ofInt_natCast ..
    rw [e1, e1, BitVec.toNat_or, BitVec.toNat_ofNat, BitVec.toNat_ofNat, Nat.mod_eq_of_lt (by omega), Nat.mod_eq_of_lt (by omega)]
    have h := Nat.shiftLeft_add_eq_or_of_lt (i := 8) (b := b) (by omega) a
    rw [Nat.shiftLeft_eq] at h
    exact h.symm
  rw [e]
  have := wrap_u64 (x := ((a * 256 + b : Nat) : Int)) (by omega) (by omega)
  rw [this]; omega
/-- A number's bytes, the greatest first. -/
def val (acc : Int) (zs : List Int) : Int := zs.foldl (fun v z => v * 256 + z) acc
def IsBytes (zs : List Int) : Prop := ∀ z ∈ zs, 0 ≤ z ∧ z < 256
theorem fold_val {f : Int → Int → Int} (hf : ∀ v z : Int, 0 ≤ v → v < 1099511627776 → 0 ≤ z → z < 256 → f v z = v * 256 + z) : ∀ (zs : List Int) (acc : Int) (k : Nat), IsBytes zs → 0 ≤ acc → acc < 256 ^ k → k + zs.length ≤ 5 → zs.foldl f acc = val acc zs ∧ 0 ≤ val acc zs ∧ val acc zs < 256 ^ (k + zs.length)
  | [], acc, k, _, h0, h1, _ => ⟨rfl, h0, by simpa [val] using h1⟩
  | z :: zs, acc, k, hz, h0, h1, hk => by
    have hz0 := hz z (List.mem_cons_self ..)
    have hk' : k ≤ 4 := by simp at hk; omega
    have hp : (256 : Int) ^ k ≤ 4294967296 := by
      have : k = 0 ∨ k = 1 ∨ k = 2 ∨ k = 3 ∨ k = 4 := by omega
      rcases this with rfl | rfl | rfl | rfl | rfl <;> decide
    have e := hf acc z h0 (by omega) hz0.1 hz0.2
    have hpow : (256 : Int) ^ (k + 1) = 256 ^ k * 256 := Int.pow_succ ..
    obtain ⟨k1, k2, k3⟩ := fold_val hf zs (acc * 256 + z) (k + 1) (fun y hy => hz y (List.mem_cons_of_mem _ hy)) (by omega) (by rw [hpow]; omega) (by simp at hk; omega)
    refine ⟨by rw [List.foldl_cons, e, k1]; rfl, k2, ?_⟩
    have : k + (z :: zs).length = k + 1 + zs.length := by simp; omega
    rw [this]; exact k3
theorem Try.getU_loop {h : H} {v : SV} {m s : Nat} {zs : List Int} (w : View h 1 v m (u8z zs)) (hs : s ≤ m) (hs4 : s ≤ 4) (c : CF) : ∀ (j i k : Nat) (acc : Int) (t : T), i + j = s → j < k → getP (way 0) t = some v → getP (way 1) t = some (.int .i64 s) → getP (way 6) t = some (.int .i64 i) → getP (way 5) t = some (.int .u64 acc) →
    Gets (cLoop Try.l21_0 k c t h) fun fl t' h' => fl = .exit 0 ∧ h' = h ∧ getP (way 1) t' = some (.int .i64 s) ∧ getP (way 5) t' = some (.int .u64 (((zs.take s).drop i).foldl ustep acc)) := by
  have hz : zs.length = m := by have := w.1; simpa [u8z] using this
  intro j
  induction j with
  | zero =>
    intro i k acc t hi hk h0 h1 h6 h5
    obtain ⟨k, rfl⟩ : ∃ m, k = m + 1 := ⟨k - 1, by omega⟩
    rw [loop_succ]
    generalize (fun t h => cLoop Try.l21_0 k c t h) = L
    unfold Try.l21_0
    have e1 : ltI (i : Int) s = false := by rw [ltI_eq]; simp; omega
    simp [kr, bO_mk, vLt, i2, kx, h0, h1, h6, h5, e1, gets_some]
    rw [List.drop_eq_nil_of_le (by rw [List.length_take]; omega)]
    rfl
  | succ j ih =>
    intro i k acc t hi hk h0 h1 h6 h5
    obtain ⟨k, rfl⟩ : ∃ m, k = m + 1 := ⟨k - 1, by omega⟩
    rw [loop_succ]
    generalize hL : (fun t h => cLoop Try.l21_0 k c t h) = L
    unfold Try.l21_0
    have e1 : ltI (i : Int) s = true := by rw [ltI_eq]; simp; omega
    obtain ⟨p, k1, k2⟩ := w.load (i := i) (by omega)
    obtain ⟨z, hzi⟩ : ∃ z, zs[i]? = some z := ⟨zs[i]'(by omega), List.getElem?_eq_getElem (by omega)⟩
    have k3 : ∀ t, lLoad none (xC p) h.get t = some (.int .u8 z) := fun t => by rw [k2]; simp [u8z, hzi]
    have e2 : IntKind.i64.wrap ((i : Int) + 1) = ((i + 1 : Nat) : Int) := by
      rw [Int.natCast_add]; exact wrap_i64 (by omega) (by omega)
    have e3 : shiftInt .shl .u64 acc 8 = some (IntKind.u64.wrap (acc * 256)) := rfl
    have e4 : arithInt .or .u64 (IntKind.u64.wrap (acc * 256)) (IntKind.u64.wrap z) = some (ustep acc z) := rfl
    simp [kr, bO_mk, vLt, vIdx, vSh, vToI, vAr, vAdd, i2, kx, h0, h1, h6, h5, e1, e2, e3, e4, intN_nat, k1, k3, wrapS_eq, -Int.natCast_add]
    rw [← hL]
    refine Gets.mono (ih (i + 1) k (ustep acc z) _ (by omega) (by omega) ?_ ?_ ?_ ?_) fun fl t' h' ⟨b1, b2, b3, b4⟩ => ⟨b1, b2, b3, ?_⟩
    · simp [kr, h0]
    · simp [kr, h1]
    · simp [kr, -Int.natCast_add]
    · simp [kr]
    · rw [b4]
      have hzt : (zs.take s)[i]? = some z := by rw [List.getElem?_take_of_lt (by omega)]; exact hzi
      have hlt : i < (zs.take s).length := (List.getElem?_eq_some_iff.1 hzt).1
      rw [List.drop_eq_getElem_cons hlt]
      rw [List.getElem?_eq_getElem hlt] at hzt
      cases hzt
      rfl
theorem wrap_u32 (x : Int) : IntKind.i32.wrap (IntKind.u32.wrap x) = IntKind.i32.wrap x := by
  unfold IntKind.wrap
  simp [IntKind.bits, IntKind.signed]
theorem Try.getU {h : H} {v : SV} {m : Nat} {zs : List Int} (w : View h 1 v m (u8z zs)) (hb : IsBytes zs) (s : Nat) (hs : s ≤ m) (hs4 : s ≤ 4) :
    Try.lc 21 [v, .int .i64 s] h = some (.int .i64 (if s = 4 then IntKind.i64.wrap (IntKind.i32.wrap ((zs.take s).foldl nstep 0)) else (zs.take s).foldl nstep 0), h) := by
  have hbt : IsBytes (zs.take s) := fun z hz => hb z (List.mem_of_mem_take hz)
  have hl : (zs.take s).length ≤ 4 := by rw [List.length_take]; omega
  obtain ⟨f1, f2, f3⟩ := fold_val (fun v z => ustep_eq) (zs.take s) 0 0 hbt (by omega) (by simp) (by omega)
  obtain ⟨g1, _, _⟩ := fold_val (fun v z => nstep_eq) (zs.take s) 0 0 hbt (by omega) (by simp) (by omega)
  have f4 : val 0 (zs.take s) < 4294967296 := by
    have hp : (256 : Int) ^ (0 + (zs.take s).length) ≤ 4294967296 := by
      generalize (zs.take s).length = k at hl
      have : k = 0 ∨ k = 1 ∨ k = 2 ∨ k = 3 ∨ k = 4 := by omega
      rcases this with rfl | rfl | rfl | rfl | rfl <;> decide
    omega
  rw [g1]
  have e5 : IntKind.i64.wrap (val 0 (zs.take s)) = val 0 (zs.take s) := wrap_i64 f2 (by omega)
  obtain ⟨v', h', k1, rfl, k2⟩ : ∃ v' h', Try.lc 21 [v, .int .i64 s] h = some (v', h') ∧ (v' = .int .i64 (if s = 4 then IntKind.i64.wrap (IntKind.i32.wrap (val 0 (zs.take s))) else val 0 (zs.take s)) ∧ h' = h) := by
    refine Try.enG (n := s + 1) (kf := Try.k21) (by kernel_rfl) Try.k21_eq rfl ?_
    simp [kr, bO_mk, kx]
    refine gets_next (gets_leave (Gets.mono (Try.getU_loop w hs hs4 Try.lc s 0 (s + 1) 0 _ (by omega) (by omega) ?_ ?_ ?_ ?_) fun fl t' h' ⟨b1, b2, b3, b4⟩ => ?_))
    · simp [kr]
    · simp [kr]
    · simp [kr]
    · simp [kr]
    subst b1 b2
    rw [List.drop_zero, f1] at b4
    by_cases h4 : s = 4
    · subst h4
      simp [kr, bO_mk, kx, b3, b4, vEq, i2, eqI_eq, vToI, wrapS_eq, wrap_u32, gets_some, kresL, kres, oneS]
    · have h4' : ¬ (s : Int) = 4 := by omega
      simp [kr, bO_mk, kx, b3, b4, vEq, i2, eqI_eq, h4, h4', vToI, wrapS_eq, e5, gets_some, kresL, kres, oneS]
  subst k2
  exact k1
theorem Try.at_nil (h : H) : Try.lc 17 [.nilptr] h = some (.int .i64 0, h) := Try.en (n := 1) (kf := Try.k17) (by kernel_rfl) rfl
theorem Try.left_nil (h : H) : Try.lc 18 [.nilptr] h = some (.int .i64 0, h) := Try.en (n := 1) (kf := Try.k18) (by kernel_rfl) rfl
theorem Try.err_nil (h : H) : Try.lc 23 [.nilptr] h = some (.tuple [.int .i64 0, .int .i64 0], h) := Try.en (n := 1) (kf := Try.k23) (by kernel_rfl) rfl
theorem Try.take_nil (h : H) (m g : SV) : Try.lc 34 [.nilptr, m, g] h = some (.tuple [.nilslice, .bool false], h) := by
  refine Try.en (n := 2) (kf := Try.k34) (by kernel_rfl) ?_
  rw [Try.k34_eq, enter_eq]
  simp [argsP, kr, bO_mk, kx, lEq, keq, isB, bB, vPick, scope_succ, kj, behind, kfin, kresL, kres, oneS]
theorem Try.num_nil (h : H) (m : Int) : Try.lc 32 [.nilptr, .int .i64 m] h = some (.int .i64 0, h) := by
  obtain ⟨v', h', k1, rfl, rfl⟩ : ∃ v' h', Try.lc 32 [.nilptr, .int .i64 m] h = some (v', h') ∧ (v' = .int .i64 0 ∧ h' = h) := by
    refine Try.enG (n := 2) (kf := Try.k32) (by kernel_rfl) Try.k32_eq rfl ?_
    simp [kr, bO_mk, Try.at_nil, Try.take_nil, vExtract, vLen, lenV]
    refine gets_next (gets_leave (Gets.mono (Try.num_loop (v := .nilslice) (m := 0) (zs := []) ⟨rfl, .inl ⟨rfl, rfl⟩⟩ (by omega) Try.lc 0 0 2 0 _ rfl (by omega) (by simp [kr]) (by simp [kr]) (by simp [kr]) (by simp [kr])) fun fl t' h' ⟨b1, b2, b3⟩ => ?_))
    subst b1 b2
    simp [kr, bO_mk, gets_some, b3, kresL, kres, oneS]
  exact k1
theorem Try.ru1_nil (h : H) : Try.lc 16 [.nilptr] h = some (.int .i64 0, h) := by
  refine Try.en (n := 1) (kf := Try.k16) (by kernel_rfl) ?_
  rw [Try.k16_eq, enter_eq]
  simp [argsP, kr, bO_mk, Try.num_nil, kfin, kresL, kres, oneS]
theorem Try.ru2_nil (h : H) : Try.lc 15 [.nilptr] h = some (.int .i64 0, h) := by
  refine Try.en (n := 1) (kf := Try.k15) (by kernel_rfl) ?_
  rw [Try.k15_eq, enter_eq]
  simp [argsP, kr, bO_mk, Try.num_nil, kfin, kresL, kres, oneS]
theorem Try.rtext_nil (h : H) : Try.lc 22 [.nilptr] h = some (.str [], h) := by
  refine Try.en (n := 1) (kf := Try.k22) (by kernel_rfl) ?_
  rw [Try.k22_eq, enter_eq]
  simp [argsP, kr, bO_mk, Try.at_nil, Try.ru2_nil, Try.take_nil, vExtract, lToStr, strOf, kfin, kresL, kres, oneS]
end
end Go.Proofs
