/- Bytes: the loop of what is read. -/
import Derived.Test.YtfcdldibfdoljaaTyT
import Derived.Test.YtfcdldibfdoljaaSh15
set_option linter.unusedVariables false
set_option linter.unusedSimpArgs false
set_option linter.unusedSectionVars false
namespace Go.Proofs
open Go.Sh
set_option linter.unusedVariables false
attribute [local instance] heldNone
noncomputable section
theorem Rdr.left {h : H} {p n a : Nat} {f : Bool} {cs : List SV} {b : SV} (r : Rdr h p n cs a f b) : Try.lc 18 [.ptr p 0] h = some (.int .i64 (if f then 0 else ((n - a : Nat) : Int)), h) := by
  rw [Try.left r]
  have := r.here
  cases f
  · simp; omega
  · rfl
theorem isBytes_drop {zs : List Int} (h : IsBytes zs) (a : Nat) : IsBytes (zs.drop a) := fun z hz => h z (List.mem_of_mem_drop hz)
theorem numAt_lt {zs : List Int} (h : IsBytes zs) (a m : Nat) (hm : m ≤ 2) : 0 ≤ numAt zs a m ∧ numAt zs a m < 65536 := by
  have hb : IsBytes ((zs.drop a).take m) := fun z hz => h z (List.mem_of_mem_drop (List.mem_of_mem_take hz))
  have hl : ((zs.drop a).take m).length ≤ m := by rw [List.length_take]; omega
  obtain ⟨f1, f2, f3⟩ := fold_val (fun v z => nstep_eq) ((zs.drop a).take m) 0 0 hb (by omega) (by simp) (by omega)
  unfold numAt
  rw [f1]
  refine ⟨f2, Int.lt_of_lt_of_le f3 ?_⟩
  generalize ((zs.drop a).take m).length = k at hl
  have : k = 0 ∨ k = 1 ∨ k = 2 := by omega
  rcases this with rfl | rfl | rfl <;> decide
/-- Where the loop of what is read stands. -/
structure RdAt (base p : Nat) (bs hows : SV) (zs xs : List Int) (h : H) (a : Nat) (f : Bool) (b : SV) : Prop where
  bytes : View h 1 bs zs.length (u8z zs)
  bold : ∀ q, isRow bs q → q < base
  hv : View h 1 hows xs.length (i64s xs)
  hold : ∀ q, isRow hows q → q < base
  rdr : Rdr h p zs.length (u8z zs) a f b
  pn : base ≤ p
def RdEnd (base p : Nat) (bs hows : SV) (zs xs : List Int) (t' : T) (h' : H) : Prop := True
theorem row_five (c : CF) (m : Nat) (t : T) (h : H) (K : SV → H → FR) : sN (aRow 5 1 [1, 1, 1, 1, 1] [xC (.int .i64 0), xC (.int .i64 1), xC (.int .i64 2), xC (.int .i64 4), xC (.int .i64 2)]) c m t h K = K (.slice h.next 0 5 1 (some 5)) (h.push (.cells [.int .i64 0, .int .i64 1, .int .i64 2, .int .i64 4, .int .i64 2] .fixed)) := rfl
theorem RdAt.keep {base p : Nat} {bs hows : SV} {zs xs : List Int} {h h' : H} {a a' : Nat} {f f' : Bool} {b b' : SV} (s : RdAt base p bs hows zs xs h a f b) {W : Nat → Prop} (k : Fr (· = p) W h h') (r : Rdr h' p zs.length (u8z zs) a' f' b') : RdAt base p bs hows zs xs h' a' f' b' :=
  ⟨s.bytes.keep k fun q hq e => by have := s.bold q hq; have := s.pn; omega, s.bold, s.hv.keep k fun q hq e => by have := s.hold q hq; have := s.pn; omega, s.hold, r, s.pn⟩
set_option maxHeartbeats 1600000 in
theorem Try.reads_loop {base p : Nat} {bs hows : SV} {zs xs : List Int} (hb : IsBytes zs) (hn : zs.length ≤ 2000) (hm : xs.length ≤ 60) {b : SV} : ∀ (j i k : Nat) (t : T) (h : H) (a : Nat) (f : Bool), i + j = xs.length → j + 8 < k → RdAt base p bs hows zs xs h a f b →
    getP (way 0) t = some bs → getP (way 1) t = some hows → getP (way 5) t = some (.ptr p 0) → getP (way 6) t = some (.int .i64 a) → getP (way 7) t = some (.bool f) → getP (way 8) t = some (.int .i64 i) →
    Gets (cLoop Try.l5_0 k Try.lc t h) fun fl t' h' => fl = .exit 0 := by
  intro j
  induction j with
  | zero =>
    intro i k t h a f hi hk s t0 t1 t5 t6 t7 t8
    obtain ⟨k, rfl⟩ : ∃ m, k = m + 1 := ⟨k - 1, by omega⟩
    rw [loop_succ]
    generalize (fun t h => cLoop Try.l5_0 k Try.lc t h) = L
    unfold Try.l5_0
    have e1 : ltI (i : Int) xs.length = false := by rw [ltI_eq]; simp; omega
    simp [kr, bO_mk, vLt, vLen, s.hv.length, i2, kx, t1, t8, e1, gets_some]
  | succ j ih =>
    intro i k t h a f hi hk s t0 t1 t5 t6 t7 t8
    obtain ⟨k, rfl⟩ : ∃ m, k = m + 1 := ⟨k - 1, by omega⟩
    rw [loop_succ]
    generalize hL : (fun t h => cLoop Try.l5_0 k Try.lc t h) = L
    unfold Try.l5_0
    have e1 : ltI (i : Int) xs.length = true := by rw [ltI_eq]; simp; omega
    have e3 : IntKind.i64.wrap ((i : Int) + 1) = ((i + 1 : Nat) : Int) := by
      rw [Int.natCast_add]; exact wrap_i64 (by omega) (by omega)
    obtain ⟨q, c1, c2⟩ := s.hv.load (i := i) (by omega)
    obtain ⟨x, hx⟩ : ∃ x, xs[i]? = some x := ⟨xs[i]'(by omega), List.getElem?_eq_getElem (by omega)⟩
    have c3 : ∀ t, lLoad none (xC q) h.get t = some (.int .i64 x) := fun t => by rw [c2]; simp [i64s, hx]
    have hround := Try.round x 4 (by omega) h
    obtain ⟨r, hr, hr4⟩ := rnd_lt x 4 (by omega) (by omega)
    have hround : Try.lc 20 [.int .i64 x, .int .i64 4] h = some (.int .i64 r, h) := by rw [← hr]; exact hround
    generalize hh1 : h.push (.cells [.int .i64 0, .int .i64 1, .int .i64 2, .int .i64 4, .int .i64 2] .fixed) = h1
    have f1 : Fr (fun _ => False) (fun _ => False) h h1 := by rw [← hh1]; exact .push
    have hrow : rowCells h1.get h.next = some [.int .i64 0, .int .i64 1, .int .i64 2, .int .i64 4, .int .i64 2] := by
      rw [← hh1]; unfold rowCells; rw [H.get_push, if_pos rfl]
    have hfive : ∀ c m t K, sN (aRow 5 1 [1, 1, 1, 1, 1] [xC (.int .i64 0), xC (.int .i64 1), xC (.int .i64 2), xC (.int .i64 4), xC (.int .i64 2)]) c m t h K = K (.slice h.next 0 5 1 (some 5)) h1 := fun c m t K => by rw [row_five, hh1]
    have s1 : RdAt base p bs hows zs xs h1 a f b := ⟨s.bytes.keep f1 fun _ _ k => k, s.bold, s.hv.keep f1 fun _ _ k => k, s.hold, s.rdr.keep f1 (fun k => k) fun _ _ k => k, s.pn⟩
    have ha := s.rdr.here
    have hul : (u8z zs).length = zs.length := by simp [u8z]
    have d1 := fun t => load_one (o := 1) hrow t
    have d2 := fun t => load_one (o := 2) hrow t
    have d3 := fun t => load_one (o := 3) hrow t
    have d4 := fun t => load_one (o := 4) hrow t
    have x1 : atIdx 1 1 (.slice h.next 0 5 1 (some 5)) = some (.ptr h.next 1) := rfl
    have x2 : atIdx 1 2 (.slice h.next 0 5 1 (some 5)) = some (.ptr h.next 2) := rfl
    have x3 : atIdx 1 3 (.slice h.next 0 5 1 (some 5)) = some (.ptr h.next 3) := rfl
    have x4 : atIdx 1 4 (.slice h.next 0 5 1 (some 5)) = some (.ptr h.next 4) := rfl
    have n1 : intN 1 = some 1 := rfl
    have n2 : intN 2 = some 2 := rfl
    have n3 : intN 3 = some 3 := rfl
    have n4 : intN 4 = some 4 := rfl
    have w1 : IntKind.i64.wrap 1 = 1 := rfl
    have w2 : IntKind.i64.wrap 2 = 2 := rfl
    have w3 : IntKind.i64.wrap 3 = 3 := rfl
    have w4 : IntKind.i64.wrap 4 = 4 := rfl
    have w0 : IntKind.i64.wrap (IntKind.i32.wrap 0) = 0 := rfl
    have e4 : IntKind.i64.wrap ((zs.length : Int) - a) = ((zs.length - a : Nat) : Int) := by
      rw [show (zs.length : Int) - a = ((zs.length - a : Nat) : Int) by omega]; exact wrap_i64 (by omega) (by omega)
    obtain ⟨v, v1, v2, v3⟩ := View.from s1.bytes a ha
    have v2' : View h1 1 v (zs.length - a) (u8z (zs.drop a)) := by simpa [u8z, List.map_drop] using v2
    have hcases : r = 0 ∨ r = 1 ∨ r = 2 ∨ r = 3 := by omega
    have eqBs : ∀ s, eqB s s = true := fun s => by rw [eqB_eq, eqBytes_eq]; simp
    have fin : ∀ (t' : T) (h2 : H) (a2 : Nat) (f2 : Bool), RdAt base p bs hows zs xs h2 a2 f2 b → getP (way 0) t' = some bs → getP (way 1) t' = some hows → getP (way 5) t' = some (.ptr p 0) → getP (way 6) t' = some (.int .i64 a2) → getP (way 7) t' = some (.bool f2) → getP (way 8) t' = some (.int .i64 ((i + 1 : Nat) : Int)) →
        Gets (L t' h2) fun fl t' h' => fl = .exit 0 := fun t' h2 a2 f2 q0 q1 q2 q3 q4 q5 q6 => by
      rw [← hL]
      exact ih (i + 1) k t' h2 a2 f2 (by omega) (by omega) q0 q1 q2 q3 q4 q5 q6
    rcases hcases with rfl | rfl | rfl | rfl
    · obtain ⟨h2, k1, k2, k3⟩ := Try.ru1 s1.rdr
      by_cases hf : fits zs.length a f 1 = true
      · rw [if_pos hf] at k1 k2
        rw [hf] at k2
        obtain ⟨rfl, hfit⟩ : f = false ∧ a + 1 ≤ zs.length := by simpa [fits] using hf
        have g1 := Try.getU v2' (isBytes_drop hb a) 1 (by omega) (by omega)
        have g1 : Try.lc 21 [v, .int .i64 1] h1 = some (.int .i64 (numAt zs a 1), h1) := by simpa [numAt] using g1
        have e5 : ltI ((zs.length - a : Nat) : Int) 1 = false := by rw [ltI_eq]; simp; omega
        have e6 : IntKind.i64.wrap ((a : Int) + 1) = ((a + 1 : Nat) : Int) := by rw [Int.natCast_add]; exact wrap_i64 (by omega) (by omega)
        have e7 : IntKind.i64.wrap ((zs.length : Int) - ((a + 1 : Nat) : Int)) = ((zs.length - (a + 1) : Nat) : Int) := by
          rw [show (zs.length : Int) - ((a + 1 : Nat) : Int) = ((zs.length - (a + 1) : Nat) : Int) by omega]; exact wrap_i64 (by omega) (by omega)
        have m1 := Try.err k2
        have m2 := Try.at k2
        have m3 := Rdr.left k2
        have s2 := s1.keep k3 k2
        simp [kq, bO_mk, kx, vLt, vGe, vLen, vIdx, vAdd, vSub, vUn, unS, vPick, vEq, vNe, eqI_eq, vSNe, vSlice, xL, i2, t0, t1, t5, t6, t7, t8, s.hv.length, s.bytes.length, e1, e3, intN_nat, c1, c3, hround, w1, w2, w3, w4, w0, hfive, n1, n2, n3, n4, x1, x2, x3, x4, d1, d2, d3, d4, e4, e5, e6, e7, v1, g1, k1, m1, m2, m3, vExtract, eqBs, wrapS_eq, -Int.natCast_add]
        refine fin _ _ (a + 1) false s2 ?_ ?_ ?_ ?_ ?_ ?_ <;> simp [kq, t0, t1, t5, t6, t7, -Int.natCast_add]
      · rw [if_neg hf] at k1 k2
        rw [show fits zs.length a f 1 = false by simpa using hf] at k2
        have m1 := Try.err k2
        have m2 := Try.at k2
        have m3 := Rdr.left k2
        have s2 := s1.keep k3 k2
        cases f
        · have e5 : ltI ((zs.length - a : Nat) : Int) 1 = true := by
            have : ¬ a + 1 ≤ zs.length := by simpa [fits] using hf
            rw [ltI_eq]; simp; omega
          simp [kq, bO_mk, kx, vLt, vGe, vLen, vIdx, vAdd, vSub, vUn, unS, vPick, vEq, vNe, eqI_eq, vSNe, vSlice, xL, i2, t0, t1, t5, t6, t7, t8, s.hv.length, s.bytes.length, e1, e3, intN_nat, c1, c3, hround, w1, w2, w3, w4, w0, hfive, n1, n2, n3, n4, x1, x2, x3, x4, d1, d2, d3, d4, e4, e5, k1, m1, m2, m3, vExtract, eqBs, wrapS_eq, -Int.natCast_add]
          refine fin _ _ a true s2 ?_ ?_ ?_ ?_ ?_ ?_ <;> simp [kq, t0, t1, t5, t6, t7, -Int.natCast_add]
        · simp [kq, bO_mk, kx, vLt, vGe, vLen, vIdx, vAdd, vSub, vUn, unS, vPick, vEq, vNe, eqI_eq, vSNe, vSlice, xL, i2, t0, t1, t5, t6, t7, t8, s.hv.length, s.bytes.length, e1, e3, intN_nat, c1, c3, hround, w1, w2, w3, w4, w0, hfive, n1, n2, n3, n4, x1, x2, x3, x4, d1, d2, d3, d4, e4, t0, k1, m1, m2, m3, vExtract, eqBs, wrapS_eq, -Int.natCast_add]
          refine fin _ _ a true s2 ?_ ?_ ?_ ?_ ?_ ?_ <;> simp [kq, t0, t1, t5, t6, t7, -Int.natCast_add]
    · obtain ⟨h2, k1, k2, k3⟩ := Try.ru2 s1.rdr
      by_cases hf : fits zs.length a f 2 = true
      · rw [if_pos hf] at k1 k2
        rw [hf] at k2
        obtain ⟨rfl, hfit⟩ : f = false ∧ a + 2 ≤ zs.length := by simpa [fits] using hf
        have g1 := Try.getU v2' (isBytes_drop hb a) 2 (by omega) (by omega)
        have g1 : Try.lc 21 [v, .int .i64 2] h1 = some (.int .i64 (numAt zs a 2), h1) := by simpa [numAt] using g1
        have e5 : ltI ((zs.length - a : Nat) : Int) 2 = false := by rw [ltI_eq]; simp; omega
        have e6 : IntKind.i64.wrap ((a : Int) + 2) = ((a + 2 : Nat) : Int) := by rw [Int.natCast_add]; exact wrap_i64 (by omega) (by omega)
        have e7 : IntKind.i64.wrap ((zs.length : Int) - ((a + 2 : Nat) : Int)) = ((zs.length - (a + 2) : Nat) : Int) := by
          rw [show (zs.length : Int) - ((a + 2 : Nat) : Int) = ((zs.length - (a + 2) : Nat) : Int) by omega]; exact wrap_i64 (by omega) (by omega)
        have m1 := Try.err k2
        have m2 := Try.at k2
        have m3 := Rdr.left k2
        have s2 := s1.keep k3 k2
        simp [kq, bO_mk, kx, vLt, vGe, vLen, vIdx, vAdd, vSub, vUn, unS, vPick, vEq, vNe, eqI_eq, vSNe, vSlice, xL, i2, t0, t1, t5, t6, t7, t8, s.hv.length, s.bytes.length, e1, e3, intN_nat, c1, c3, hround, w1, w2, w3, w4, w0, hfive, n1, n2, n3, n4, x1, x2, x3, x4, d1, d2, d3, d4, e4, e5, e6, e7, v1, g1, k1, m1, m2, m3, vExtract, eqBs, wrapS_eq, -Int.natCast_add]
        refine fin _ _ (a + 2) false s2 ?_ ?_ ?_ ?_ ?_ ?_ <;> simp [kq, t0, t1, t5, t6, t7, -Int.natCast_add]
      · rw [if_neg hf] at k1 k2
        rw [show fits zs.length a f 2 = false by simpa using hf] at k2
        have m1 := Try.err k2
        have m2 := Try.at k2
        have m3 := Rdr.left k2
        have s2 := s1.keep k3 k2
        cases f
        · have e5 : ltI ((zs.length - a : Nat) : Int) 2 = true := by
            have : ¬ a + 2 ≤ zs.length := by simpa [fits] using hf
            rw [ltI_eq]; simp; omega
          simp [kq, bO_mk, kx, vLt, vGe, vLen, vIdx, vAdd, vSub, vUn, unS, vPick, vEq, vNe, eqI_eq, vSNe, vSlice, xL, i2, t0, t1, t5, t6, t7, t8, s.hv.length, s.bytes.length, e1, e3, intN_nat, c1, c3, hround, w1, w2, w3, w4, w0, hfive, n1, n2, n3, n4, x1, x2, x3, x4, d1, d2, d3, d4, e4, e5, k1, m1, m2, m3, vExtract, eqBs, wrapS_eq, -Int.natCast_add]
          refine fin _ _ a true s2 ?_ ?_ ?_ ?_ ?_ ?_ <;> simp [kq, t0, t1, t5, t6, t7, -Int.natCast_add]
        · simp [kq, bO_mk, kx, vLt, vGe, vLen, vIdx, vAdd, vSub, vUn, unS, vPick, vEq, vNe, eqI_eq, vSNe, vSlice, xL, i2, t0, t1, t5, t6, t7, t8, s.hv.length, s.bytes.length, e1, e3, intN_nat, c1, c3, hround, w1, w2, w3, w4, w0, hfive, n1, n2, n3, n4, x1, x2, x3, x4, d1, d2, d3, d4, e4, t0, k1, m1, m2, m3, vExtract, eqBs, wrapS_eq, -Int.natCast_add]
          refine fin _ _ a true s2 ?_ ?_ ?_ ?_ ?_ ?_ <;> simp [kq, t0, t1, t5, t6, t7, -Int.natCast_add]
    · obtain ⟨h2, k1, k2, k3⟩ := Try.ri4 s1.rdr
      by_cases hf : fits zs.length a f 4 = true
      · rw [if_pos hf] at k1 k2
        rw [hf] at k2
        obtain ⟨rfl, hfit⟩ : f = false ∧ a + 4 ≤ zs.length := by simpa [fits] using hf
        have g1 := Try.getU v2' (isBytes_drop hb a) 4 (by omega) (by omega)
        have g1 : Try.lc 21 [v, .int .i64 4] h1 = some (.int .i64 (IntKind.i64.wrap (IntKind.i32.wrap (numAt zs a 4))), h1) := by simpa [numAt] using g1
        have e5 : ltI ((zs.length - a : Nat) : Int) 4 = false := by rw [ltI_eq]; simp; omega
        have e6 : IntKind.i64.wrap ((a : Int) + 4) = ((a + 4 : Nat) : Int) := by rw [Int.natCast_add]; exact wrap_i64 (by omega) (by omega)
        have e7 : IntKind.i64.wrap ((zs.length : Int) - ((a + 4 : Nat) : Int)) = ((zs.length - (a + 4) : Nat) : Int) := by
          rw [show (zs.length : Int) - ((a + 4 : Nat) : Int) = ((zs.length - (a + 4) : Nat) : Int) by omega]; exact wrap_i64 (by omega) (by omega)
        have m1 := Try.err k2
        have m2 := Try.at k2
        have m3 := Rdr.left k2
        have s2 := s1.keep k3 k2
        simp [kq, bO_mk, kx, vLt, vGe, vLen, vIdx, vAdd, vSub, vUn, unS, vPick, vEq, vNe, eqI_eq, vSNe, vSlice, xL, i2, t0, t1, t5, t6, t7, t8, s.hv.length, s.bytes.length, e1, e3, intN_nat, c1, c3, hround, w1, w2, w3, w4, w0, hfive, n1, n2, n3, n4, x1, x2, x3, x4, d1, d2, d3, d4, e4, e5, e6, e7, v1, g1, k1, m1, m2, m3, vExtract, eqBs, wrapS_eq, -Int.natCast_add]
        refine fin _ _ (a + 4) false s2 ?_ ?_ ?_ ?_ ?_ ?_ <;> simp [kq, t0, t1, t5, t6, t7, -Int.natCast_add]
      · rw [if_neg hf] at k1 k2
        rw [show fits zs.length a f 4 = false by simpa using hf] at k2
        have m1 := Try.err k2
        have m2 := Try.at k2
        have m3 := Rdr.left k2
        have s2 := s1.keep k3 k2
        cases f
        · have e5 : ltI ((zs.length - a : Nat) : Int) 4 = true := by
            have : ¬ a + 4 ≤ zs.length := by simpa [fits] using hf
            rw [ltI_eq]; simp; omega
          simp [kq, bO_mk, kx, vLt, vGe, vLen, vIdx, vAdd, vSub, vUn, unS, vPick, vEq, vNe, eqI_eq, vSNe, vSlice, xL, i2, t0, t1, t5, t6, t7, t8, s.hv.length, s.bytes.length, e1, e3, intN_nat, c1, c3, hround, w1, w2, w3, w4, w0, hfive, n1, n2, n3, n4, x1, x2, x3, x4, d1, d2, d3, d4, e4, e5, k1, m1, m2, m3, vExtract, eqBs, wrapS_eq, -Int.natCast_add]
          refine fin _ _ a true s2 ?_ ?_ ?_ ?_ ?_ ?_ <;> simp [kq, t0, t1, t5, t6, t7, -Int.natCast_add]
        · simp [kq, bO_mk, kx, vLt, vGe, vLen, vIdx, vAdd, vSub, vUn, unS, vPick, vEq, vNe, eqI_eq, vSNe, vSlice, xL, i2, t0, t1, t5, t6, t7, t8, s.hv.length, s.bytes.length, e1, e3, intN_nat, c1, c3, hround, w1, w2, w3, w4, w0, hfive, n1, n2, n3, n4, x1, x2, x3, x4, d1, d2, d3, d4, e4, t0, k1, m1, m2, m3, vExtract, eqBs, wrapS_eq, -Int.natCast_add]
          refine fin _ _ a true s2 ?_ ?_ ?_ ?_ ?_ ?_ <;> simp [kq, t0, t1, t5, t6, t7, -Int.natCast_add]
    · have hnum := numAt_lt hb a 2 (by omega)
      obtain ⟨h2, k1, k2, k3⟩ := Try.rtext s1.rdr hnum.1
      have hlen : numAt zs a 2 = (lenAt zs a : Int) := by unfold lenAt; omega
      by_cases hf : fits zs.length a f 2 = true
      · obtain ⟨rfl, hfit⟩ : f = false ∧ a + 2 ≤ zs.length := by simpa [fits] using hf
        have g1 := Try.getU v2' (isBytes_drop hb a) 2 (by omega) (by omega)
        have g1 : Try.lc 21 [v, .int .i64 2] h1 = some (.int .i64 (lenAt zs a : Int), h1) := by rw [← hlen]; simpa [numAt] using g1
        have e5 : ltI ((zs.length - a : Nat) : Int) 2 = false := by rw [ltI_eq]; simp; omega
        have e8 : IntKind.i64.wrap (((zs.length - a : Nat) : Int) - 2) = ((zs.length - a - 2 : Nat) : Int) := by
          rw [show ((zs.length - a : Nat) : Int) - 2 = ((zs.length - a - 2 : Nat) : Int) by omega]; exact wrap_i64 (by omega) (by omega)
        by_cases hg : a + 2 + lenAt zs a ≤ zs.length
        · have htf : textFits zs zs.length a false = true := by simp [textFits, hf, hg]
          rw [if_pos htf] at k1 k2
          rw [htf] at k2
          have e9 : ltI ((zs.length - a - 2 : Nat) : Int) (lenAt zs a) = false := by rw [ltI_eq]; simp; omega
          have e10 : IntKind.i64.wrap ((a : Int) + 2) = ((a + 2 : Nat) : Int) := by rw [Int.natCast_add]; exact wrap_i64 (by omega) (by omega)
          have e11 : IntKind.i64.wrap (((a + 2 : Nat) : Int) + (lenAt zs a : Int)) = ((a + 2 + lenAt zs a : Nat) : Int) := by rw [Int.natCast_add (a + 2)]; exact wrap_i64 (by omega) (by omega)
          have e12 : IntKind.i64.wrap (2 + (lenAt zs a : Int)) = ((2 + lenAt zs a : Nat) : Int) := by rw [Int.natCast_add]; exact wrap_i64 (by omega) (by omega)
          have e13 : IntKind.i64.wrap ((a : Int) + ((2 + lenAt zs a : Nat) : Int)) = ((a + 2 + lenAt zs a : Nat) : Int) := by
            rw [show (a : Int) + ((2 + lenAt zs a : Nat) : Int) = ((a + 2 + lenAt zs a : Nat) : Int) by omega]; exact wrap_i64 (by omega) (by omega)
          have e14 : IntKind.i64.wrap ((zs.length : Int) - ((a + 2 + lenAt zs a : Nat) : Int)) = ((zs.length - (a + 2 + lenAt zs a) : Nat) : Int) := by
            rw [show (zs.length : Int) - ((a + 2 + lenAt zs a : Nat) : Int) = ((zs.length - (a + 2 + lenAt zs a) : Nat) : Int) by omega]; exact wrap_i64 (by omega) (by omega)
          obtain ⟨u, u1, u2, u3⟩ := s1.bytes.slice (a + 2) (a + 2 + lenAt zs a) (by omega) hg
          have u2' : View h1 1 u (lenAt zs a) (u8z ((zs.drop (a + 2)).take (lenAt zs a))) := by
            rw [show a + 2 + lenAt zs a - (a + 2) = lenAt zs a by omega] at u2
            simpa [u8z, List.map_take, List.map_drop] using u2
          have u4 := View.str u2'
          have m1 := Try.err k2
          have m2 := Try.at k2
          have m3 := Rdr.left k2
          have s2 := s1.keep k3 k2
          simp [kq, bO_mk, kx, vLt, vGe, vLen, vIdx, vAdd, vSub, vUn, unS, vPick, vEq, vNe, eqI_eq, vSNe, vSlice, xL, i2, t0, t1, t5, t6, t7, t8, s.hv.length, s.bytes.length, e1, e3, intN_nat, c1, c3, hround, w1, w2, w3, w4, w0, hfive, n1, n2, n3, n4, x1, x2, x3, x4, d1, d2, d3, d4, e4, e5, e8, e9, e10, e11, e12, e13, e14, v1, g1, u1, u4, lToStr, k1, m1, m2, m3, vExtract, eqBs, wrapS_eq, -Int.natCast_add]
          refine fin _ _ (a + 2 + lenAt zs a) false s2 ?_ ?_ ?_ ?_ ?_ ?_ <;> simp [kq, t0, t1, t5, t6, t7, -Int.natCast_add]
        · have htf : textFits zs zs.length a false = false := by simp [textFits, hg]
          rw [if_neg (by simp [htf])] at k1 k2
          rw [htf] at k2
          have e9 : ltI ((zs.length - a - 2 : Nat) : Int) (lenAt zs a) = true := by rw [ltI_eq]; simp; omega
          have m1 := Try.err k2
          have m2 := Try.at k2
          have m3 := Rdr.left k2
          have s2 := s1.keep k3 k2
          simp [kq, bO_mk, kx, vLt, vGe, vLen, vIdx, vAdd, vSub, vUn, unS, vPick, vEq, vNe, eqI_eq, vSNe, vSlice, xL, i2, t0, t1, t5, t6, t7, t8, s.hv.length, s.bytes.length, e1, e3, intN_nat, c1, c3, hround, w1, w2, w3, w4, w0, hfive, n1, n2, n3, n4, x1, x2, x3, x4, d1, d2, d3, d4, e4, e5, e8, e9, v1, g1, k1, m1, m2, m3, vExtract, eqBs, wrapS_eq, -Int.natCast_add]
          refine fin _ _ a true s2 ?_ ?_ ?_ ?_ ?_ ?_ <;> simp [kq, t0, t1, t5, t6, t7, -Int.natCast_add]
      · have htf : textFits zs zs.length a f = false := by
          unfold textFits
          rw [show fits zs.length a f 2 = false by simpa using hf]; rfl
        rw [if_neg (by simp [htf])] at k1 k2
        rw [htf] at k2
        have m1 := Try.err k2
        have m2 := Try.at k2
        have m3 := Rdr.left k2
        have s2 := s1.keep k3 k2
        cases f
        · have e5 : ltI ((zs.length - a : Nat) : Int) 2 = true := by
            have : ¬ a + 2 ≤ zs.length := by simpa [fits] using hf
            rw [ltI_eq]; simp; omega
          simp [kq, bO_mk, kx, vLt, vGe, vLen, vIdx, vAdd, vSub, vUn, unS, vPick, vEq, vNe, eqI_eq, vSNe, vSlice, xL, i2, t0, t1, t5, t6, t7, t8, s.hv.length, s.bytes.length, e1, e3, intN_nat, c1, c3, hround, w1, w2, w3, w4, w0, hfive, n1, n2, n3, n4, x1, x2, x3, x4, d1, d2, d3, d4, e4, e5, k1, m1, m2, m3, vExtract, eqBs, wrapS_eq, -Int.natCast_add]
          refine fin _ _ a true s2 ?_ ?_ ?_ ?_ ?_ ?_ <;> simp [kq, t0, t1, t5, t6, t7, -Int.natCast_add]
        · simp [kq, bO_mk, kx, vLt, vGe, vLen, vIdx, vAdd, vSub, vUn, unS, vPick, vEq, vNe, eqI_eq, vSNe, vSlice, xL, i2, t0, t1, t5, t6, t7, t8, s.hv.length, s.bytes.length, e1, e3, intN_nat, c1, c3, hround, w1, w2, w3, w4, w0, hfive, n1, n2, n3, n4, x1, x2, x3, x4, d1, d2, d3, d4, e4, t0, k1, m1, m2, m3, vExtract, eqBs, wrapS_eq, -Int.natCast_add]
          refine fin _ _ a true s2 ?_ ?_ ?_ ?_ ?_ ?_ <;> simp [kq, t0, t1, t5, t6, t7, -Int.natCast_add]
end
end Go.Proofs
