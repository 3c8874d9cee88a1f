/- RegirTexts: the document's words and numerals. -/
import Derived.Test.YtbmeldgbmlfmgaaGreatDoorTzRB
set_option linter.unusedVariables false
set_option linter.unusedSimpArgs false
set_option linter.unusedSectionVars false
namespace Go.Proofs
open Go.Sh
set_option linter.unusedVariables false
attribute [local instance] powHeld
noncomputable section
def words16 : List (List UInt8) := [[], [110, 111, 112], [105, 99, 111, 110, 115, 116], [99, 99, 111, 110, 115, 116], [110, 117, 108, 108], [108, 111, 97, 100], [115, 116, 111, 114, 101], [112, 111, 112], [100, 117, 112], [115, 119, 97, 112], [105, 97, 100, 100], [105, 115, 117, 98], [105, 109, 117, 108], [105, 100, 105, 118], [99, 97, 100, 100], [99, 109, 117, 108], [99, 114, 101], [103, 111, 116, 111], [105, 102, 122, 101, 114, 111], [105, 102, 110, 117, 108, 108], [105, 102, 115, 97, 109, 101], [110, 101, 119], [103, 101, 116, 102, 105, 101, 108, 100], [112, 117, 116, 102, 105, 101, 108, 100], [103, 101, 116, 115, 116, 97, 116, 105, 99], [112, 117, 116, 115, 116, 97, 116, 105, 99], [110, 101, 119, 97, 114, 114, 97, 121], [97, 108, 111, 97, 100], [97, 115, 116, 111, 114, 101], [97, 108, 101, 110], [99, 97, 115, 116], [105, 115, 105, 110, 115, 116], [99, 97, 108, 108, 115, 116, 97, 116, 105, 99], [99, 97, 108, 108, 115, 112, 101, 99, 105, 97, 108], [99, 97, 108, 108, 118, 105, 114, 116, 117, 97, 108], [99, 97, 108, 108, 105, 110, 116, 101, 114, 102, 97, 99, 101], [114, 101, 116, 117, 114, 110], [114, 101, 116, 118, 97, 108], [116, 104, 114, 111, 119]]
theorem row16 : kcat [1, 1, 1, 1, 1, 1, 1, 1, 1, 1, 1, 1, 1, 1, 1, 1, 1, 1, 1, 1, 1, 1, 1, 1, 1, 1, 1, 1, 1, 1, 1, 1, 1, 1, 1, 1, 1, 1, 1] [.str [], .str [110, 111, 112], .str [105, 99, 111, 110, 115, 116], .str [99, 99, 111, 110, 115, 116], .str [110, 117, 108, 108], .str [108, 111, 97, 100], .str [115, 116, 111, 114, 101], .str [112, 111, 112], .str [100, 117, 112], .str [115, 119, 97, 112], .str [105, 97, 100, 100], .str [105, 115, 117, 98], .str [105, 109, 117, 108], .str [105, 100, 105, 118], .str [99, 97, 100, 100], .str [99, 109, 117, 108], .str [99, 114, 101], .str [103, 111, 116, 111], .str [105, 102, 122, 101, 114, 111], .str [105, 102, 110, 117, 108, 108], .str [105, 102, 115, 97, 109, 101], .str [110, 101, 119], .str [103, 101, 116, 102, 105, 101, 108, 100], .str [112, 117, 116, 102, 105, 101, 108, 100], .str [103, 101, 116, 115, 116, 97, 116, 105, 99], .str [112, 117, 116, 115, 116, 97, 116, 105, 99], .str [110, 101, 119, 97, 114, 114, 97, 121], .str [97, 108, 111, 97, 100], .str [97, 115, 116, 111, 114, 101], .str [97, 108, 101, 110], .str [99, 97, 115, 116], .str [105, 115, 105, 110, 115, 116], .str [99, 97, 108, 108, 115, 116, 97, 116, 105, 99], .str [99, 97, 108, 108, 115, 112, 101, 99, 105, 97, 108], .str [99, 97, 108, 108, 118, 105, 114, 116, 117, 97, 108], .str [99, 97, 108, 108, 105, 110, 116, 101, 114, 102, 97, 99, 101], .str [114, 101, 116, 117, 114, 110], .str [114, 101, 116, 118, 97, 108], .str [116, 104, 114, 111, 119]] = some (words16.map .str) := rfl
set_option maxRecDepth 100000 in
theorem words_same : ((List.range 38).all fun n => eqB (words16.getD (n + 1) []) (wordN (n + 1))) = true := by kernel_rfl
theorem words_at {n : Nat} (h1 : 1 ≤ n) (h2 : n ≤ 38) : (words16.map SV.str)[n]? = some (.str (wordN n)) := by
  have a := List.all_eq_true.1 words_same (n - 1) (List.mem_range.2 (by omega))
  rw [show n - 1 + 1 = n by omega, eqB_eq, eqBytes_eq] at a
  rw [← eq_of_beq a]
  have hl : words16.length = 39 := rfl
  rw [List.getElem?_map, List.getElem?_eq_getElem (by omega), List.getD, List.getElem?_eq_getElem (by omega)]; rfl
def jmp (op : Int) : Bool := !ltI op 17 && !ltI 20 op
theorem Tryz.jumps (op : Int) (h : H) : Tryz.lc 14 [.int .i64 op] h = some (.bool (jmp op), h) := by
  refine Tryz.en (n := 1) (kf := Tryz.k14) (by kernel_rfl) ?_
  rw [Tryz.k14_eq, enter_eq]
  cases e1 : ltI op 17
  · simp [↓ kq, kq, ↓ ko, ko, ↓ kt, ↓ kz, kb, kv, kt, kx, argsP, e1, kfin, kc, oneS, jmp, -bO_of, -bB_true, -bB_false, -H.next_push, -Int.natCast_add]
  · simp [↓ kq, kq, ↓ ko, ko, ↓ kt, ↓ kz, kb, kv, kt, kx, argsP, e1, kfin, kc, oneS, jmp, -bO_of, -bB_true, -bB_false, -H.next_push, -Int.natCast_add]
theorem Tryz.jumps' (op : Int) (h : H) : Tryz.lc 18 [.int .i64 op] h = some (.bool (jmp op), h) := by
  have ej : jmp op = (eqI op 17 || eqI op 18 || eqI op 19 || eqI op 20) := by
    unfold jmp
    simp only [ltI_eq, eqI_eq]
    rw [Bool.eq_iff_iff]; simp; omega
  rw [ej]
  refine Tryz.en (n := 1) (kf := Tryz.k18) (by kernel_rfl) ?_
  rw [Tryz.k18_eq, enter_eq]
  cases e1 : eqI op 17
  · cases e2 : eqI op 18
    · cases e3 : eqI op 19
      · simp [↓ kq, kq, ↓ ko, ko, ↓ kt, ↓ kz, kb, kv, kt, kx, argsP, e1, e2, e3, kfin, kc, oneS, -bO_of, -bB_true, -bB_false, -H.next_push, -Int.natCast_add]
      · simp [↓ kq, kq, ↓ ko, ko, ↓ kt, ↓ kz, kb, kv, kt, kx, argsP, e1, e2, e3, kfin, kc, oneS, -bO_of, -bB_true, -bB_false, -H.next_push, -Int.natCast_add]
    · simp [↓ kq, kq, ↓ ko, ko, ↓ kt, ↓ kz, kb, kv, kt, kx, argsP, e1, e2, kfin, kc, oneS, -bO_of, -bB_true, -bB_false, -H.next_push, -Int.natCast_add]
  · simp [↓ kq, kq, ↓ ko, ko, ↓ kt, ↓ kz, kb, kv, kt, kx, argsP, e1, kfin, kc, oneS, -bO_of, -bB_true, -bB_false, -H.next_push, -Int.natCast_add]
theorem Tryz.word' (op : Int) (h : H) : ∃ r h', Tryz.lc 16 [.int .i64 op] h = some (r, h') ∧ TextRes h (wordOf op) r h' := by
  generalize hh1 : h.push (.cells (words16.map .str) .fixed) = h1
  have f1 : Calms h h1 := by rw [← hh1]; exact .push
  refine Tryz.enG (n := 1) (kf := Tryz.k16) (by kernel_rfl) Tryz.k16_eq rfl ?_
  by_cases hin : 1 ≤ op ∧ op ≤ 38
  · obtain ⟨n, rfl⟩ : ∃ n : Nat, op = n := ⟨op.toNat, by omega⟩
    have e1 : ltI (n : Int) 1 = false := by rw [ltI_eq]; exact decide_eq_false (by omega)
    have e2 : ltI (n : Int) 39 = true := by rw [ltI_eq]; exact decide_eq_true (by omega)
    have a1 : atIdx 1 n (.slice h.next 0 39 1 (some 39)) = some (.ptr h.next n) := by
      show bB (Nat.blt n 39) (some (SV.ptr h.next (0 + n * 1))) none = _
      rw [show Nat.blt n 39 = true from Nat.ble_eq_true_of_le (by omega), Nat.zero_add, Nat.mul_one]; rfl
    have a2 : loadV none h1.get (.ptr h.next n) = some (.str (wordOf n)) := by
      rw [loadV_one (all := words16.map .str) (by rw [← hh1]; exact rowCells_push), words_at (by omega) (by omega), wordOf_in (by omega) (by omega)]
    have hk : TextRes h (wordOf n) (.str (wordOf n)) h1 := ⟨rfl, f1⟩
    generalize hK : TextRes h (wordOf n) = K at *
    simp [↓ kq, kq, ↓ ko, ko, ↓ kt, ↓ kz, kb, kv, kt, kx, row16, hh1, e1, e2, a1, a2, gets_some, kc, oneS, -bO_of, -bB_true, -bB_false, -H.next_push, -Int.natCast_add]
    exact hk
  · have hk : TextRes h (wordOf op) (.str []) h1 := ⟨by rw [wordOf_out hin], f1⟩
    generalize hK : TextRes h (wordOf op) = K at *
    by_cases h1' : op < 1
    · have e1 : ltI op 1 = true := by rw [ltI_eq]; exact decide_eq_true h1'
      simp [↓ kq, kq, ↓ ko, ko, ↓ kt, ↓ kz, kb, kv, kt, kx, row16, hh1, e1, gets_some, kc, oneS, -bO_of, -bB_true, -bB_false, -H.next_push, -Int.natCast_add]
      exact hk
    · have e1 : ltI op 1 = false := by rw [ltI_eq]; exact decide_eq_false h1'
      have e2 : ltI op 39 = false := by rw [ltI_eq]; exact decide_eq_false (by omega)
      simp [↓ kq, kq, ↓ ko, ko, ↓ kt, ↓ kz, kb, kv, kt, kx, row16, hh1, e1, e2, gets_some, kc, oneS, -bO_of, -bB_true, -bB_false, -H.next_push, -Int.natCast_add]
      exact hk
theorem Tryz.dec_exit {h : H} {v : SV} {bs : List UInt8} (w : View h 1 v bs.length (u8s bs)) (hb : bs ≠ []) (c : CF) (k : Nat) (t : T) (h3 : getP (way 3) t = some (.int .u64 0)) (h5 : getP (way 5) t = some v) :
    cLoop Tryz.l17_0 (k + 1) c t h = some (.exit 0, setP (way 18) (.bool false) t, h) := by
  rw [loop_succ]
  generalize (fun t h => cLoop Tryz.l17_0 k c t h) = L
  unfold Tryz.l17_0
  have hl := w.length
  have e1 : ltI 0 0 = false := rfl
  have e2 : eqI (bs.length : Int) 0 = false := eqIf (by
    have := List.length_pos_iff.2 hb; omega)
  generalize bs.length = n at *
  simp [↓ kq, kq, ↓ ko, ko, ↓ kt, ↓ kz, kb, kv, kt, kx, h3, h5, hl, e1, e2, -bO_of, -bB_true, -bB_false, -H.next_push, -Int.natCast_add]
theorem Tryz.dec_step {h : H} {v : SV} {bs : List UInt8} {u : Nat} (hu : u < 18446744073709551616) (hn : 0 < u ∨ bs = []) (hb : bs.length ≤ 1000) (w : View h 1 v bs.length (u8s bs)) (c : CF) (k : Nat) (t : T) (h3 : getP (way 3) t = some (.int .u64 u)) (h5 : getP (way 5) t = some v) :
    ∃ v' h', cLoop Tryz.l17_0 (k + 1) c t h = cLoop Tryz.l17_0 k c (setP (way 3) (.int .u64 ((u / 10 : Nat) : Int)) (setP (way 5) v' (setP (way 18) (.bool true) t))) h' ∧ View h' 1 v' (bs.length + 1) (u8s (UInt8.ofNat (48 + u % 10) :: bs)) ∧ Calms h h' := by
  obtain ⟨r, hr⟩ : ∃ r, r = u % 10 := ⟨_, rfl⟩
  obtain ⟨q, hq⟩ : ∃ q, q = u / 10 := ⟨_, rfl⟩
  obtain ⟨D, hD⟩ : ∃ D, D = 48 + r := ⟨_, rfl⟩
  rw [← hr, ← hq, ← hD]
  have er : arithInt .rem .u64 (u : Int) 10 = some (r : Int) := by
    show (if (10 : Int) = 0 then none else some ((u : Int).tmod 10)) = _
    rw [if_neg (by decide), Int.tmod_eq_emod_of_nonneg (by omega)]; congr 1; omega
  have eq : arithInt .quo .u64 (u : Int) 10 = some (q : Int) := by
    show (if (10 : Int) = 0 then none else some (IntKind.u64.wrap ((u : Int).tdiv 10))) = _
    rw [if_neg (by decide), Int.tdiv_eq_ediv_of_nonneg (by omega), wrapU64]; congr 1; omega
  have ew : IntKind.u64.wrap (48 + (r : Int)) = (D : Int) := by rw [wrapU64]; omega
  have e8 : IntKind.u8.wrap (D : Int) = (D : Int) := by rw [wrapU8]; omega
  generalize hh1 : h.push (.cells [.int .u8 D] .fixed) = h1
  have f1 := calm_push hh1
  obtain ⟨v', h2, a1, a2, a3, a4⟩ := full_append (bytes := 1) (es := 1) (n := 1) (get_pushed hh1) rfl bs.length (u8s bs) (by simp [u8s]) (by omega)
  have ap := append_V (w.keep f1 fun _ _ k => k) a1
  have cell : u8s (UInt8.ofNat D :: bs) = [SV.int .u8 (D : Int)] ++ u8s bs := by
    have : (UInt8.ofNat D).toNat = D := by simp; omega
    show SV.int .u8 ((UInt8.ofNat D).toNat : Int) :: u8s bs = _
    rw [this]; rfl
  refine ⟨v', h2, ?_, by rw [cell, Nat.add_comm]; exact a2, f1.trans a3⟩
  rw [loop_succ]
  generalize hL : (fun t h => cLoop Tryz.l17_0 k c t h) = L
  have hL' : ∀ t h, cLoop Tryz.l17_0 k c t h = L t h := fun t h => by rw [← hL]
  rw [hL']
  unfold Tryz.l17_0
  by_cases hu0 : 0 < u
  · have e1 : ltI 0 (u : Int) = true := ltIt (by omega)
    simp [↓ kq, kq, ↓ ko, ko, ↓ kt, ↓ kz, kb, kv, kt, kx, h3, h5, e1, er, eq, ew, e8, hh1, ap, -bO_of, -bB_true, -bB_false, -H.next_push, -Int.natCast_add]
  · have hbs : bs = [] := by rcases hn with h | h; exact absurd h hu0; exact h
    have e1 : ltI 0 (u : Int) = false := ltIf (by omega)
    have e2 : eqI ((bs.length : Nat) : Int) 0 = true := eqIt (by simp [hbs])
    have hl := w.length
    generalize bs.length = n at *
    simp [↓ kq, kq, ↓ ko, ko, ↓ kt, ↓ kz, kb, kv, kt, kx, h3, h5, hl, e1, e2, er, eq, ew, e8, hh1, ap, -bO_of, -bB_true, -bB_false, -H.next_push, -Int.natCast_add]
theorem Tryz.dec_loop (c : CF) : ∀ (m k u : Nat) (bs : List UInt8) (v : SV) (t : T) (h : H), u < 10 ^ (m + 1) → u < 18446744073709551616 → m + 2 ≤ k → (0 < u ∨ bs = []) → bs.length + m ≤ 100 → View h 1 v bs.length (u8s bs) → getP (way 3) t = some (.int .u64 u) → getP (way 5) t = some v →
    Gets (cLoop Tryz.l17_0 k c t h) fun fl t' h' => fl = .exit 0 ∧ getP (way 4) t' = getP (way 4) t ∧ ∃ v', getP (way 5) t' = some v' ∧ View h' 1 v' (digs (m + 1) u bs).length (u8s (digs (m + 1) u bs)) ∧ Calms h h' := by
  intro m
  induction m with
  | zero =>
    intro k u bs v t h hu hu' hk hn hb w t3 t5
    obtain ⟨k, rfl⟩ : ∃ m, k = m + 2 := ⟨k - 2, by omega⟩
    have hu : u < 10 := by simpa using hu
    obtain ⟨v', h', e, w', f⟩ := Tryz.dec_step hu' hn (by omega) w c (k + 1) t t3 t5
    rw [e, Tryz.dec_exit w' (by simp) c k _ (by simp [kq]; omega) (by simp [kq, kb]), gets_some]
    have ed : digs 1 u bs = UInt8.ofNat (48 + u % 10) :: bs := by
      unfold digs; rw [show Nat.blt u 10 = true from Nat.ble_eq_true_of_le hu, Nat.mod_eq_of_lt hu]; rfl
    rw [ed]
    exact ⟨rfl, by simp [kq, kb], v', by simp [kq, kb], w', f⟩
  | succ m ih =>
    intro k u bs v t h hu hu' hk hn hb w t3 t5
    obtain ⟨k, rfl⟩ : ∃ m, k = m + 2 := ⟨k - 2, by omega⟩
    obtain ⟨v', h', e, w', f⟩ := Tryz.dec_step hu' hn (by omega) w c (k + 1) t t3 t5
    rw [e]
    by_cases h10 : u < 10
    · rw [Tryz.dec_exit w' (by simp) c k _ (by simp [kq, kb]; omega) (by simp [kq, kb]), gets_some]
      have ed : digs (m + 1 + 1) u bs = UInt8.ofNat (48 + u % 10) :: bs := by
        unfold digs; rw [show Nat.blt u 10 = true from Nat.ble_eq_true_of_le h10, Nat.mod_eq_of_lt h10]; rfl
      rw [ed]
      exact ⟨rfl, by simp [kq, kb], v', by simp [kq, kb], w', f⟩
    · have ed : digs (m + 1 + 1) u bs = digs (m + 1) (u / 10) (UInt8.ofNat (48 + u % 10) :: bs) := by
        rw [digs, show Nat.blt u 10 = false from by
          cases e : Nat.blt u 10
          · rfl
          · exact absurd (Nat.le_of_ble_eq_true e) h10]; rfl
      rw [ed]
      refine Gets.mono (ih (k + 1) (u / 10) (UInt8.ofNat (48 + u % 10) :: bs) v' _ h' (by rw [Nat.pow_succ] at hu; omega) (by omega) (by omega) (.inl (by omega)) (by simp; omega) w' (by simp [kq, kb]) (by simp [kq, kb])) fun fl t' h'' ⟨b1, b2, v2, b3, b4, b5⟩ => ?_
      exact ⟨b1, b2.trans (by simp [kq, kb]), v2, b3, b4, f.trans b5⟩
theorem digs_len : ∀ (f u : Nat) (acc : List UInt8), (digs f u acc).length ≤ f + acc.length
  | 0, u, acc => by simp [digs]
  | f + 1, u, acc => by
    unfold digs
    cases Nat.blt u 10
    · have := digs_len f (u / 10) (UInt8.ofNat (48 + u % 10) :: acc)
      show (digs f (u / 10) _).length ≤ _
      rw [List.length_cons] at this; omega
    · show (UInt8.ofNat (48 + u) :: acc).length ≤ _
      simp; omega
theorem itoaS_len (n : Int) : (itoaS n).length ≤ 21 := by
  cases n with
  | ofNat u => have := digs_len 20 u []; show (digs 20 u []).length ≤ 21; simp at this; omega
  | negSucc u => have := digs_len 20 (u + 1) []; show (45 :: digs 20 (u + 1) []).length ≤ 21; simp at this ⊢; omega
theorem itoaS_neg {n : Int} (h : n < 0) : itoaS n = 45 :: digs 20 n.natAbs [] := by
  cases n with
  | ofNat u => exact absurd h (by simp)
  | negSucc u => rfl
theorem strAdd {a b : List UInt8} (h : a.length + b.length ≤ 1099511627776) : strOp .add a b = some (.str (a ++ b)) := if_pos h
theorem Tryz.decimal (n : Int) (n0 : -9223372036854775808 ≤ n) (n1 : n ≤ 9223372036854775807) (h : H) : ∃ r h', Tryz.lc 17 [.int .i64 n] h = some (r, h') ∧ TextRes h (itoaS n) r h' := by
  refine Tryz.enG (n := 22) (kf := Tryz.k17) (by kernel_rfl) Tryz.k17_eq rfl ?_
  have p20 : (10 : Nat) ^ 20 = 100000000000000000000 := by decide
  have w0 : View h 1 .nilslice 0 (u8s []) := ⟨rfl, .inl ⟨rfl, rfl⟩⟩
  rcases Int.lt_or_le n 0 with hn | hn
  rotate_left
  · obtain ⟨u, rfl⟩ : ∃ u : Nat, n = u := ⟨n.toNat, by omega⟩
    have e1 : ltI (u : Int) 0 = false := ltIf (by omega)
    have ew : IntKind.u64.wrap (u : Int) = (u : Int) := by rw [wrapU64]; omega
    have hk : ∀ h', Calms h h' → TextRes h (itoaS u) (.str (digs 20 u [])) h' := fun h' f => ⟨rfl, f⟩
    generalize hK : TextRes h (itoaS u) = K at *
    simp [↓ kq, kq, ↓ ko, ko, ↓ kt, ↓ kz, kb, kv, kt, kx, e1, ew, -bO_of, -bB_true, -bB_false, -H.next_push, -Int.natCast_add]
    refine gets_next (gets_leave (Gets.mono (Tryz.dec_loop _ 19 22 u [] .nilslice _ h (by omega) (by omega) (by omega) (.inr rfl) (by simp) w0 (by simp [kq, kb]) (by simp [kq, kb])) fun fl t' h' ⟨b1, b2, v2, b3, b4, b5⟩ => ?_))
    subst b1
    have b2 : getP (way 4) t' = some (.str []) := b2.trans (by simp [kq, kb])
    have b6 := b4.text
    have l1 := digs_len 20 u []
    have b7 : strOp .add [] (digs (19 + 1) u []) = some (.str (digs 20 u [])) := strAdd (by simp at l1 ⊢; omega)
    generalize digs (19 + 1) u [] = D at *
    simp only [if_true]
    simp [↓ kq, kq, ↓ ko, ko, ↓ kt, ↓ kz, kb, kv, kt, kx, b2, b3, b6, b7, gets_some, kc, oneS, -bO_of, -bB_true, -bB_false, -H.next_push, -Int.natCast_add]
    exact hk _ b5
  · obtain ⟨y, hy⟩ : ∃ y, y = n.natAbs := ⟨_, rfl⟩
    have e1 : ltI n 0 = true := ltIt hn
    obtain ⟨Y, hY⟩ : ∃ Y, Y = 18446744073709551616 - y := ⟨_, rfl⟩
    have ew : IntKind.u64.wrap n = (Y : Int) := by rw [wrapU64]; omega
    have en : ∀ k, unS .neg (.int k (Y : Int)) = some (.int k (k.wrap (0 - (Y : Int)))) := fun _ => rfl
    have ew2 : IntKind.u64.wrap (-(Y : Int)) = (y : Int) := by rw [wrapU64]; omega
    have ez : itoaS n = 45 :: digs 20 y [] := by rw [hy]; exact itoaS_neg hn
    have hk : ∀ h', Calms h h' → TextRes h (itoaS n) (.str (45 :: digs 20 y [])) h' := fun h' f => ⟨by rw [ez], f⟩
    generalize hK : TextRes h (itoaS n) = K at *
    simp [↓ kq, kq, ↓ ko, ko, ↓ kt, ↓ kz, kb, kv, kt, kx, e1, ew, en, ew2, -bO_of, -bB_true, -bB_false, -H.next_push, -Int.natCast_add]
    refine gets_next (gets_leave (Gets.mono (Tryz.dec_loop _ 19 22 y [] .nilslice _ h (by omega) (by omega) (by omega) (.inr rfl) (by simp) w0 (by simp [kq, kb]) (by simp [kq, kb])) fun fl t' h' ⟨b1, b2, v2, b3, b4, b5⟩ => ?_))
    subst b1
    have b2 : getP (way 4) t' = some (.str [45]) := b2.trans (by simp [kq, kb])
    have b6 := b4.text
    have l1 := digs_len 20 y []
    have b7 : strOp .add [45] (digs (19 + 1) y []) = some (.str (45 :: digs 20 y [])) := strAdd (by simp at l1 ⊢; omega)
    generalize digs (19 + 1) y [] = D at *
    simp only [if_true]
    simp [↓ kq, kq, ↓ ko, ko, ↓ kt, ↓ kz, kb, kv, kt, kx, b2, b3, b6, b7, gets_some, kc, oneS, -bO_of, -bB_true, -bB_false, -H.next_push, -Int.natCast_add]
    exact hk _ b5
theorem Tryz.regText (n : Int) (n0 : -9223372036854775808 ≤ n) (n1 : n ≤ 9223372036854775807) (h : H) : Tryz.lc 12 [.int .i64 n] h = some (.str (114 :: itoaS n), h) := by
  refine Tryz.en (n := 1) (kf := Tryz.k12) (by kernel_rfl) ?_
  rw [Tryz.k12_eq, enter_eq]
  have e1 := Tryz.itoa n n0 n1 h
  have e2 : strOp .add [114] (itoaS n) = some (.str (114 :: itoaS n)) := strAdd (by have := itoaS_len n; simp; omega)
  generalize itoaS n = s at *
  simp [↓ kq, kq, ↓ ko, ko, ↓ kt, ↓ kz, kb, kv, kt, kx, argsP, e1, e2, kfin, kc, oneS, -bO_of, -bB_true, -bB_false, -H.next_push, -Int.natCast_add]
end
end Go.Proofs
