/- Bytes: the contracts of the writer and of the reader. -/
import Derived.Test.YtfcdldibfdoljaaTyL
import Derived.Test.YtfcdldibfdoljaaSh14
import Derived.Test.YtfcdldibfdoljaaChecked
set_option linter.unusedVariables false
set_option linter.unusedSimpArgs false
set_option linter.unusedSectionVars false
namespace Go.Proofs
open Go.Sh
set_option linter.unusedVariables false
attribute [local instance] heldNone
noncomputable section
theorem Try.good : Go.Sh.Good Try.prog := good_of_check Try.codeOk (by kernel_rfl) (by kernel_rfl)
def Try.X0 : FuncId → Option (List SV → H → Option (SV × H)) := fun _ => none
theorem Try.X0_ok : OracleOK Try.prog Try.X0 := fun f g e => by cases e
set_option maxRecDepth 100000 in
/-- 'awake' answers true. -/
theorem Try.awake8 : ((kcall Try.kTab.get Try.X0 1000 8 [] .empty).map (·.1)) = some (.bool true) := by kernel_rfl
/-- the calls of the program, 'awake' as an oracle -/
def Try.X (f : FuncId) : Option (List SV → H → Option (SV × H)) := bB (Nat.beq f 8) (some (xBool true)) none
set_option maxRecDepth 100000 in
theorem Try.awake_call : ∀ args h v h', xBool true args h = some (v, h') → ∀ B ι w (us : Array Value), St B ι h w → LRel ι args us.toList → Answers Try.prog 8 us w fun v' w' => ∃ ι', VRel ι' v v' ∧ Moves B ι h w ι' h' w' := by
  have h1 := Try.awake8
  cases h2 : kcall Try.kTab.get Try.X0 1000 8 [] .empty with
  | none => rw [h2] at h1; cases h1
  | some r =>
    rw [h2] at h1
    obtain ⟨v, h'⟩ := r
    cases h1
    obtain ⟨c, hc⟩ : ∃ c, Try.f8.body = some c := Option.isSome_iff_exists.1 (by kernel_rfl)
    exact xBool_ok Try.good Try.X0_ok (kcall_ok Try.kTab_ok 1000 _ _ _ _ h2) Try.func8 hc (fun _ w _ _ _ => heldNone_at _ w)
theorem Try.X_ok : OracleOK Try.prog Try.X := fun f g e => by
  unfold Try.X at e
  cases h1 : Nat.beq f 8
  · rw [h1] at e; cases e
  · rw [h1] at e; cases e
    have := Nat.eq_of_beq_eq_true h1; subst this
    exact Try.awake_call
abbrev Try.lc : CF := (lim Try.prog Try.X).call
theorem Try.en {f : FuncId} {kf : KF} (hk : Try.kTab.get f = some kf) {n : Nat} {args : List SV} {h : H} {r : SV × H} (e : kenter kf n Try.lc args h = some r) (hX : Try.X f = none := by rfl) : Try.lc f args h = some r := lim_enter Try.kTab_ok hX hk e
/-- the bytes of a number, the greatest first -/
def be : Nat → Int → List SV
  | 0, _ => []
  | s + 1, x => .int .u8 (wrapS .u8 (x.fdiv (2 ^ (8 * s)))) :: be s x
theorem be_length : ∀ s x, (be s x).length = s
  | 0, _ => rfl
  | s + 1, x => by simp [be, be_length s x]
theorem Try.put_loop {p : Nat} {x : Int} (c : CF) : ∀ (s k : Nat) (t : T) (h : H) (buf : SV) (n : Nat) (cs : List SV), s < k → s ≤ 8 → (n + s) * 3 ≤ 1099511627776 → getP (way 0) t = some (.ptr p 0) → getP (way 1) t = some (.int .i64 x) → getP (way 2) t = some (.int .i64 s) →
    h.get p = some (.cells [buf, .bool false] .fixed) → Buf h 1 buf n cs → (∀ q, isRow buf q → q ≠ p) →
    Gets (cLoop Try.l33_0 k c t h) fun fl t' h' => fl = .exit 0 ∧ getP (way 0) t' = some (.ptr p 0) ∧ Fr (fun q => q = p ∨ isRow buf q) (· = p) h h' ∧ ∃ buf', h'.get p = some (.cells [buf', .bool false] .fixed) ∧ Buf h' 1 buf' (n + s) (cs ++ be s x) ∧ (∀ q, isRow buf' q → q ≠ p) ∧ (∀ q, isRow buf' q → isRow buf q ∨ h.next ≤ q) := by
  intro s
  induction s with
  | zero =>
    intro k t h buf n cs hk _ _ h0 h1 h2 hw hb hd
    obtain ⟨k, rfl⟩ : ∃ m, k = m + 1 := ⟨k - 1, by omega⟩
    rw [loop_succ]
    generalize (fun t h => cLoop Try.l33_0 k c t h) = L
    unfold Try.l33_0
    have e1 : ltI 0 0 = false := rfl
    have h2 : getP (way 2) t = some (.int .i64 0) := h2
    simp only [kr, bO_mk, h2, vGt, i2, kx, e1, gets_some, h0, Bool.false_eq_true, if_false, if_true]
    refine ⟨trivial, ?_, .refl, buf, hw, by simpa [be] using hb, hd, fun q hq => .inl hq⟩
    simp [h0]
  | succ s ih =>
    intro k t h buf n cs hk hs hmax h0 h1 h2 hw hb hd
    obtain ⟨k, rfl⟩ : ∃ m, k = m + 1 := ⟨k - 1, by omega⟩
    rw [loop_succ]
    generalize hL : (fun t h => cLoop Try.l33_0 k c t h) = L
    unfold Try.l33_0
    have e1 : ltI 0 ((s + 1 : Nat) : Int) = true := by rw [ltI_eq]; simp
    have e2 : wrapS .i64 (((s + 1 : Nat) : Int) - 1) = s := by
      rw [wrapS_eq, show ((s + 1 : Nat) : Int) - 1 = s by omega]; exact wrap_i64 (by omega) (by omega)
    have e3 : wrapS .i64 (8 * (s : Int)) = 8 * (s : Int) := by rw [wrapS_eq]; exact wrap_i64 (by omega) (by omega)
    have e4 : shiftInt .shr .i64 x (8 * (s : Int)) = some (x.fdiv (2 ^ (8 * s))) := by
      unfold shiftInt
      rw [if_neg (by omega)]
      simp only
      have : min (8 * (s : Int)).toNat IntKind.i64.bits = 8 * s := by
        have h64 : IntKind.i64.bits = 64 := rfl
        rw [h64]; omega
      rw [this]
    obtain ⟨buf', h', a1, a2, a3, a4⟩ := (hb.keep (S := fun _ => False) (W := fun _ => False) (Fr.push (o := .cells [.int .u8 (wrapS .u8 (x.fdiv (2 ^ (8 * s))))] .fixed)) (fun q _ k => k)).append (bytes := 1) 1 [.int .u8 (wrapS .u8 (x.fdiv (2 ^ (8 * s))))] (by omega) rfl (by omega)
    have hw' : h'.get p = some (.cells [buf, .bool false] .fixed) := a3.get ((Fr.push (S := fun _ => False) (W := fun _ => False)).get hw fun k => k) fun k => hd p k rfl
    have hc' : buf'.cells? = some [buf'] := by
      obtain ⟨_, ⟨r, _⟩ | ⟨id, par, r, _⟩⟩ := a2 <;> subst r <;> rfl
    simp only [kr, bO_mk, h2, vGt, vSub, vMul, vSh, vToI, i2, kx, gets_some, h0, h1, e1, e2, e3, e4, vNil, nilV, vAddr, lLoad, rowCells, hw, kpart, idxX_get, Nat.reduceEqDiff, if_true, if_false, List.getElem?_cons_zero, List.set_cons_zero, Nat.zero_add, reduceIte, row_one, append_one, a1, store_fixed hw' 0 buf' _ (by simp) hc']
    have hp : p < h'.next := H.get_lt hw'
    have hne : ∀ q, isRow buf' q → q ≠ p := fun q hq e => by
      subst e
      rcases a4 _ hq with k1 | k1
      · exact hd _ k1 rfl
      · exact absurd (H.get_lt hw) (by have : h.next + 1 ≤ q := k1; omega)
    have hb'' : Buf (h'.put p (.cells [buf', .bool false] .fixed)) 1 buf' (n + 1) (cs ++ [.int .u8 (wrapS .u8 (x.fdiv (2 ^ (8 * s))))]) := a2.keep (Fr.put hp) hne
    have f1 : Fr (fun q => q = p ∨ isRow buf q) (· = p) h (h'.put p (.cells [buf', .bool false] .fixed)) :=
      (((Fr.push (o := .cells [.int .u8 (wrapS .u8 (x.fdiv (2 ^ (8 * s))))] .fixed)).mono (fun _ _ k => k) (fun _ k => .inl k)).trans (a3.mono (fun q _ e => .inr e) (fun q e => e.elim))).trans ((Fr.put hp).mono (fun q _ e => .inl e) (fun q e => .inl e))
    rw [← hL]
    refine Gets.mono (ih k _ _ buf' (n + 1) _ (by omega) (by omega) (by omega) (by simp [kr, h0]) (by simp [kr, h1]) (by simp [kr]) (get_put_self hw') hb'' hne) fun fl t' h2 ⟨b1, b2, b3, b', b4, b5, b6, b7⟩ => ?_
    refine ⟨b1, b2, ⟨Nat.le_trans f1.next b3.next, fun q hq hn => ?_, fun m k1 k2 k3 => b3.low m (f1.low m k1 k2 k3) (Nat.le_trans k2 f1.next) k3⟩, b', b4, ?_, b6, fun q hq => ?_⟩
    · rw [b3.keep q (Nat.lt_of_lt_of_le hq f1.next) fun k1 => hn ?_, f1.keep q hq hn]
      rcases k1 with k1 | k1
      · exact .inl k1
      · rcases a4 _ k1 with k2 | k2
        · exact .inr k2
        · exact absurd hq (by have : h.next + 1 ≤ q := k2; omega)
    · rw [show n + (s + 1) = n + 1 + s by omega, show cs ++ be (s + 1) x = cs ++ [.int .u8 (wrapS .u8 (x.fdiv (2 ^ (8 * s))))] ++ be s x by simp [be]]
      exact b5
    · rcases b7 q hq with k1 | k1
      · rcases a4 _ k1 with k2 | k2
        · exact .inl k2
        · exact .inr (by have : h.next + 1 ≤ q := k2; omega)
      · exact .inr (Nat.le_trans f1.next k1)
theorem Try.put_bad {p : Nat} {x lo hi s : Int} (k : Nat) (c : CF) (h : H) (buf : SV) (bad : Bool) (hc : buf.cells? = some [buf]) (hw : h.get p = some (.cells [buf, .bool bad] .fixed)) (hb : (bad || ltI x lo || ltI hi x) = true) :
    kenter Try.k33 k c [.ptr p 0, .int .i64 x, .int .i64 s, .int .i64 lo, .int .i64 hi] h = some (.ptr p 0, h.put p (.cells [buf, .bool true] .fixed)) := by
  have e : argsP Try.k33.slots [.ptr p 0, .int .i64 x, .int .i64 s, .int .i64 lo, .int .i64 hi] .leaf = some (setP (way 4) (.int .i64 hi) (setP (way 3) (.int .i64 lo) (setP (way 2) (.int .i64 s) (setP (way 1) (.int .i64 x) (setP (way 0) (.ptr p 0) .leaf))))) := rfl
  unfold kenter
  rw [e]
  unfold Try.k33
  have hst := fun t => store_fixed hw 1 (.bool true) t (by simp) rfl
  cases bad
  · cases h1 : ltI x lo
    · have h2 : ltI hi x = true := by simpa [h1] using hb
      simp [kr, bO_mk, vLt, vGt, i2, kx, vNil, nilV, vAddr, lLoad, lEq, keq, rowCells, hw, kpart, idxX_get, vPick, bB, isB, h1, h2, hst, get_put_self hw, kfin, kresL, kres, oneS, SV.cells?]
    · simp [kr, bO_mk, vLt, vGt, i2, kx, vNil, nilV, vAddr, lLoad, lEq, keq, rowCells, hw, kpart, idxX_get, vPick, bB, isB, h1, hst, get_put_self hw, kfin, kresL, kres, oneS, SV.cells?]
  · simp [kr, bO_mk, vLt, vGt, i2, kx, vNil, nilV, vAddr, lLoad, lEq, keq, rowCells, hw, kpart, idxX_get, vPick, bB, isB, hst, get_put_self hw, kfin, kresL, kres, oneS, SV.cells?]
theorem Try.put_ok {p : Nat} {x lo hi : Int} (s k : Nat) (c : CF) (h : H) (buf : SV) (n : Nat) (cs : List SV) (hs : s < k) (hs8 : s ≤ 8) (hmax : (n + s) * 3 ≤ 1099511627776) (hw : h.get p = some (.cells [buf, .bool false] .fixed)) (h1 : ltI x lo = false) (h2 : ltI hi x = false)
    (hb : Buf h 1 buf n cs) (hd : ∀ q, isRow buf q → q ≠ p) :
    ∃ v h', kenter Try.k33 k c [.ptr p 0, .int .i64 x, .int .i64 s, .int .i64 lo, .int .i64 hi] h = some (v, h') ∧ v = .ptr p 0 ∧ Fr (fun q => q = p ∨ isRow buf q) (· = p) h h' ∧ ∃ buf', h'.get p = some (.cells [buf', .bool false] .fixed) ∧ Buf h' 1 buf' (n + s) (cs ++ be s x) ∧ (∀ q, isRow buf' q → q ≠ p) ∧ (∀ q, isRow buf' q → isRow buf q ∨ h.next ≤ q) := by
  have e : argsP Try.k33.slots [.ptr p 0, .int .i64 x, .int .i64 s, .int .i64 lo, .int .i64 hi] .leaf = some (setP (way 4) (.int .i64 hi) (setP (way 3) (.int .i64 lo) (setP (way 2) (.int .i64 s) (setP (way 1) (.int .i64 x) (setP (way 0) (.ptr p 0) .leaf))))) := rfl
  unfold kenter
  rw [e]
  refine gets_fin ?_
  rw [Try.k33_eq]
  have hst := fun t => store_fixed hw 1 (.bool false) t (by simp) rfl
  have hg := get_put_self (o := .cells [buf, .bool false] .fixed) hw
  simp [kr, bO_mk, vLt, vGt, i2, kx, vNil, nilV, vAddr, lLoad, lEq, keq, rowCells, hw, kpart, idxX_get, vPick, bB, isB, h1, h2, hst, hg]
  have hb2 := hb.keep (Fr.put (o := .cells [buf, .bool false] .fixed) (H.get_lt hw)) hd
  refine gets_next (gets_leave (Gets.mono (Try.put_loop (x := x) c s k _ _ buf n cs hs hs8 hmax ?_ ?_ ?_ hg hb2 hd) ?_))
  · simp [kr]
  · simp [kr]
  · simp [kr]
  · intro fl t' h' ⟨b1, b2, b3, b4⟩
    subst b1
    simp [kr, bO_mk, gets_some, b2, kresL, kres, oneS]
    exact ⟨(((Fr.put (H.get_lt hw)).mono (fun q _ e => .inl e) (fun q e => .inl e)).trans b3), b4⟩

/-- A writer. -/
def Wr (h : H) (p : Nat) (bad : Bool) (n : Nat) (cs : List SV) : Prop := ∃ buf, h.get p = some (.cells [buf, .bool bad] .fixed) ∧ Buf h 1 buf n cs ∧ ∀ q, isRow buf q → q ≠ p
def wrOwn (h : H) (p q : Nat) : Prop := q = p ∨ ∃ buf bad, h.get p = some (.cells [buf, .bool bad] .fixed) ∧ isRow buf q
theorem Wr.keep {h h' : H} {p n : Nat} {bad : Bool} {cs : List SV} {S W : Nat → Prop} (w : Wr h p bad n cs) (f : Fr S W h h') (hn : ∀ q, wrOwn h p q → ¬ S q) : Wr h' p bad n cs := by
  obtain ⟨buf, h1, h2, h3⟩ := w
  exact ⟨buf, f.get h1 (hn p (.inl rfl)), h2.keep f fun q hq => hn q (.inr ⟨buf, bad, h1, hq⟩), h3⟩
theorem buf_cells {h : H} {es n : Nat} {v : SV} {cs : List SV} (b : Buf h es v n cs) : v.cells? = some [v] := by
  obtain ⟨_, ⟨r, _⟩ | ⟨id, par, r, _⟩⟩ := b <;> subst r <;> rfl
/-- Is a number out of its bounds, or all spoilt? -/
def outOf (bad : Bool) (x lo hi : Int) : Bool := bad || (ltI x lo || ltI hi x)
theorem wrOwn_of {h h' : H} {p : Nat} {buf buf' : SV} {bad bad' : Bool} (h1 : h.get p = some (.cells [buf, .bool bad] .fixed)) (h2 : h'.get p = some (.cells [buf', .bool bad'] .fixed)) (h3 : ∀ q, isRow buf' q → isRow buf q ∨ h.next ≤ q) : ∀ q, wrOwn h' p q → wrOwn h p q ∨ h.next ≤ q := fun q hq => by
  rcases hq with hq | ⟨b, c, h4, h5⟩
  · exact .inl (.inl hq)
  · rw [h2] at h4
    cases h4
    rcases h3 q h5 with k | k
    · exact .inl (.inr ⟨buf, bad, h1, k⟩)
    · exact .inr k
theorem Try.put {p : Nat} {x lo hi : Int} (s : Nat) {h : H} {bad : Bool} {n : Nat} {cs : List SV} (hs8 : s ≤ 8) (hmax : (n + s) * 3 ≤ 1099511627776) (w : Wr h p bad n cs) :
    ∃ h', Try.lc 33 [.ptr p 0, .int .i64 x, .int .i64 s, .int .i64 lo, .int .i64 hi] h = some (.ptr p 0, h') ∧ Fr (wrOwn h p) (· = p) h h' ∧ Wr h' p (outOf bad x lo hi) (if outOf bad x lo hi then n else n + s) (if outOf bad x lo hi then cs else cs ++ be s x) ∧ (∀ q, wrOwn h' p q → wrOwn h p q ∨ h.next ≤ q) := by
  obtain ⟨buf, h1, h2, h3⟩ := w
  cases hb : outOf bad x lo hi
  · simp only [outOf, Bool.or_eq_false_iff] at hb
    obtain ⟨rfl, hb1, hb2⟩ := hb
    obtain ⟨v, h', k1, rfl, k2, buf', k3, k4, k5, k6⟩ := Try.put_ok (x := x) (lo := lo) (hi := hi) s 9 Try.lc h buf n cs (by omega) hs8 hmax h1 hb1 hb2 h2 h3
    refine ⟨h', Try.en (by kernel_rfl) k1, k2.mono (fun q _ k => ?_) (fun q k => .inl k), ⟨buf', k3, by simpa using k4, k5⟩, wrOwn_of h1 k3 k6⟩
    rcases k with k | k
    · exact .inl k
    · exact .inr ⟨buf, false, h1, k⟩
  · have k1 := Try.put_bad (x := x) (lo := lo) (hi := hi) (s := s) 9 Try.lc h buf bad (buf_cells h2) h1 (by simpa [outOf, Bool.or_assoc] using hb)
    refine ⟨_, Try.en (by kernel_rfl) k1, (Fr.put (H.get_lt h1)).mono (fun q _ k => .inl k) (fun q k => .inl k), ⟨buf, get_put_self h1, ?_, h3⟩, wrOwn_of h1 (get_put_self h1) fun q k => .inl k⟩
    simpa using h2.keep (Fr.put (H.get_lt h1)) h3
theorem Try.u1 {p : Nat} {x : Int} {h : H} {bad : Bool} {n : Nat} {cs : List SV} (hmax : (n + 1) * 3 ≤ 1099511627776) (w : Wr h p bad n cs) :
    ∃ h', Try.lc 27 [.ptr p 0, .int .i64 x] h = some (.ptr p 0, h') ∧ Fr (wrOwn h p) (· = p) h h' ∧ Wr h' p (outOf bad x 0 255) (if outOf bad x 0 255 then n else n + 1) (if outOf bad x 0 255 then cs else cs ++ be 1 x) ∧ (∀ q, wrOwn h' p q → wrOwn h p q ∨ h.next ≤ q) := by
  obtain ⟨h', k1, k2⟩ := Try.put (x := x) (lo := 0) (hi := 255) 1 (by omega) hmax w
  refine ⟨h', Try.en (n := 1) (kf := Try.k27) (by kernel_rfl) ?_, k2⟩
  rw [Try.k27_eq, enter_eq]
  have k1 : Try.lc 33 [.ptr p 0, .int .i64 x, .int .i64 1, .int .i64 0, .int .i64 255] h = some (.ptr p 0, h') := k1
  simp [argsP, kr, bO_mk, k1, kfin, kresL, kres, oneS]
theorem Try.u2 {p : Nat} {x : Int} {h : H} {bad : Bool} {n : Nat} {cs : List SV} (hmax : (n + 2) * 3 ≤ 1099511627776) (w : Wr h p bad n cs) :
    ∃ h', Try.lc 26 [.ptr p 0, .int .i64 x] h = some (.ptr p 0, h') ∧ Fr (wrOwn h p) (· = p) h h' ∧ Wr h' p (outOf bad x 0 65535) (if outOf bad x 0 65535 then n else n + 2) (if outOf bad x 0 65535 then cs else cs ++ be 2 x) ∧ (∀ q, wrOwn h' p q → wrOwn h p q ∨ h.next ≤ q) := by
  obtain ⟨h', k1, k2⟩ := Try.put (x := x) (lo := 0) (hi := 65535) 2 (by omega) hmax w
  refine ⟨h', Try.en (n := 1) (kf := Try.k26) (by kernel_rfl) ?_, k2⟩
  rw [Try.k26_eq, enter_eq]
  have k1 : Try.lc 33 [.ptr p 0, .int .i64 x, .int .i64 2, .int .i64 0, .int .i64 65535] h = some (.ptr p 0, h') := k1
  simp [argsP, kr, bO_mk, k1, kfin, kresL, kres, oneS]
theorem Try.i4 {p : Nat} {x : Int} {h : H} {bad : Bool} {n : Nat} {cs : List SV} (hmax : (n + 4) * 3 ≤ 1099511627776) (w : Wr h p bad n cs) :
    ∃ h', Try.lc 19 [.ptr p 0, .int .i64 x] h = some (.ptr p 0, h') ∧ Fr (wrOwn h p) (· = p) h h' ∧ Wr h' p (outOf bad x (-2147483648) 2147483647) (if outOf bad x (-2147483648) 2147483647 then n else n + 4) (if outOf bad x (-2147483648) 2147483647 then cs else cs ++ be 4 x) ∧ (∀ q, wrOwn h' p q → wrOwn h p q ∨ h.next ≤ q) := by
  obtain ⟨h', k1, k2⟩ := Try.put (x := x) (lo := -2147483648) (hi := 2147483647) 4 (by omega) hmax w
  refine ⟨h', Try.en (n := 1) (kf := Try.k19) (by kernel_rfl) ?_, k2⟩
  rw [Try.k19_eq, enter_eq]
  have k1 : Try.lc 33 [.ptr p 0, .int .i64 x, .int .i64 4, .int .i64 (-2147483648), .int .i64 2147483647] h = some (.ptr p 0, h') := k1
  simp [argsP, kr, bO_mk, k1, kfin, kresL, kres, oneS]
theorem Try.bad {p : Nat} {h : H} {bad : Bool} {n : Nat} {cs : List SV} (w : Wr h p bad n cs) : Try.lc 11 [.ptr p 0] h = some (.bool bad, h) := by
  obtain ⟨buf, hw, _, _⟩ := w
  refine Try.en (n := 1) (kf := Try.k11) (by kernel_rfl) ?_
  rw [Try.k11_eq, enter_eq]
  simp [argsP, kr, bO_mk, kx, lEq, keq, vNil, nilV, vAddr, lLoad, rowCells, hw, kpart, idxX_get, vPick, kfin, kresL, kres, oneS, bB, isB]
theorem Try.bad_nil (h : H) : Try.lc 11 [.nilptr] h = some (.bool true, h) := Try.en (n := 1) (kf := Try.k11) (by kernel_rfl) rfl
theorem Try.put_nil (h : H) (a b c d : SV) : Try.lc 33 [.nilptr, a, b, c, d] h = some (.nilptr, h) := by
  refine Try.en (n := 1) (kf := Try.k33) (by kernel_rfl) ?_
  rw [Try.k33_eq, enter_eq]
  simp [argsP, kr, bO_mk, kx, lEq, keq, kfin, kresL, kres, oneS]
theorem Try.u1_nil (h : H) (x : SV) : Try.lc 27 [.nilptr, x] h = some (.nilptr, h) := by
  refine Try.en (n := 1) (kf := Try.k27) (by kernel_rfl) ?_
  rw [Try.k27_eq, enter_eq]
  simp [argsP, kr, bO_mk, Try.put_nil, kfin, kresL, kres, oneS]
theorem Try.u2_nil (h : H) (x : SV) : Try.lc 26 [.nilptr, x] h = some (.nilptr, h) := by
  refine Try.en (n := 1) (kf := Try.k26) (by kernel_rfl) ?_
  rw [Try.k26_eq, enter_eq]
  simp [argsP, kr, bO_mk, Try.put_nil, kfin, kresL, kres, oneS]
theorem Try.i4_nil (h : H) (x : SV) : Try.lc 19 [.nilptr, x] h = some (.nilptr, h) := by
  refine Try.en (n := 1) (kf := Try.k19) (by kernel_rfl) ?_
  rw [Try.k19_eq, enter_eq]
  simp [argsP, kr, bO_mk, Try.put_nil, kfin, kresL, kres, oneS]
theorem Try.clone {h : H} {v : SV} {n : Nat} {cs : List SV} (w : View h 1 v n cs) (hmax : n * 3 ≤ 1099511627776) :
    ∃ v' h', Try.lc 31 [v] h = some (v', h') ∧ View h' 1 v' n cs ∧ Fr (fun _ => False) (fun _ => False) h h' ∧ (∀ q, isRow v' q → h.next ≤ q) := by
  obtain ⟨h1, ⟨rfl, rfl⟩ | ⟨id, off, cap, all, rfl, h2, h3, h4⟩⟩ := w
  · refine ⟨.nilslice, h, Try.en (n := 1) (kf := Try.k31) (by kernel_rfl) rfl, ⟨h1, .inl ⟨rfl, rfl⟩⟩, .refl, fun q hq => hq.elim⟩
  · have hid : id < h.next := by
      unfold rowCells at h2
      split at h2 <;> first | (cases h2; done) | skip
      rename_i e; exact H.get_lt e
    have hrow : rowCells (h.push (.cells [] .fixed)).get h.next = some [] := by
      unfold rowCells; rw [H.get_push, if_pos rfl]
    have w0 : View h 1 (.slice id off n 1 cap) n cs := ⟨h1, .inr ⟨id, off, cap, all, rfl, h2, h3, h4⟩⟩
    have w' := w0.keep (Fr.push (o := .cells [] .fixed) (S := fun _ => False) (W := fun _ => False)) fun q _ k => k
    have run : ∀ v' h', kappend (h.push (.cells [] .fixed)) 1 1 n cs (.slice h.next 0 0 1 (some 0)) = some (v', h') → Try.lc 31 [.slice id off n 1 cap] h = some (v', h') := fun v' h' e => by
      refine Try.en (n := 1) (kf := Try.k31) (by kernel_rfl) ?_
      rw [Try.k31_eq, enter_eq]
      simp [argsP, kr, bO_mk, kx, lEq, keq, sN, aRow, kcat, xL]
      rw [append_view w' e]
      simp [kr, kfin, kresL, kres, oneS, bO_mk]
    by_cases n0 : n = 0
    · subst n0
      have hc : cs = [] := List.eq_nil_of_length_eq_zero (by simpa using h1)
      subst hc
      exact ⟨.slice h.next 0 0 1 (some 0), h.push (.cells [] .fixed), run _ _ rfl, ⟨rfl, .inr ⟨h.next, 0, some 0, [], rfl, hrow, rfl, fun c q => by cases q; exact Nat.le_refl _⟩⟩, .push, fun q hq => by rw [show q = h.next from hq]; exact Nat.le_refl _⟩
    · refine ⟨.slice (h.next + 1) 0 n 1 none, (h.push (.cells [] .fixed)).push (.cells cs (.grown none)), run _ _ ?_, ⟨h1, .inr ⟨h.next + 1, 0, none, cs, rfl, ?_, ?_, fun c q => by cases q⟩⟩, Fr.push.trans .push, fun q hq => by rw [show q = h.next + 1 from hq]; exact Nat.le_succ _⟩
      · have e2 : (Nat.ble ((0 + n) * (1 + 1 + 1)) 1099511627776 && Nat.beq 1 1) = true := by
          rw [Nat.ble_eq_true_of_le (by omega)]; rfl
        show bB _ (appendKnown (h.push (.cells [] .fixed)) h.next 0 0 1 0 n cs) none = _
        rw [e2]
        show appendKnown (h.push (.cells [] .fixed)) h.next 0 0 1 0 n cs = _
        unfold appendKnown
        rw [if_neg (by omega), hrow]
        simp [takeCells]
      · unfold rowCells; rw [H.get_push, if_pos (by simp)]
      · unfold takeCells
        rw [if_pos (by omega), List.drop_zero, ← h1, List.take_length]
theorem Try.bytes_nil (h : H) : Try.lc 12 [.nilptr] h = some (.nilslice, h) := by
  refine Try.en (n := 1) (kf := Try.k12) (by kernel_rfl) ?_
  rw [Try.k12_eq, enter_eq]
  simp [argsP, kr, bO_mk, kx, Try.bad_nil, kfin, kresL, kres, oneS]
/-- all that was written; nothing of what is spoilt -/
theorem Try.bytes {p : Nat} {h : H} {bad : Bool} {n : Nat} {cs : List SV} (w : Wr h p bad n cs) (hmax : n * 3 ≤ 1099511627776) :
    ∃ v' h', Try.lc 12 [.ptr p 0] h = some (v', h') ∧ View h' 1 v' (if bad then 0 else n) (if bad then [] else cs) ∧ Fr (fun _ => False) (fun _ => False) h h' ∧ (∀ q, isRow v' q → h.next ≤ q) := by
  have hbad := Try.bad w
  obtain ⟨buf, hw, hb, _⟩ := w
  cases bad
  · obtain ⟨v', h', k1, k2, k3, k4⟩ := Try.clone hb.view hmax
    refine ⟨v', h', Try.en (n := 1) (kf := Try.k12) (by kernel_rfl) ?_, k2, k3, k4⟩
    rw [Try.k12_eq, enter_eq]
    simp [argsP, kr, bO_mk, kx, hbad, vNil, nilV, vAddr, lLoad, rowCells, hw, kpart, idxX_get, k1, kfin, kresL, kres, oneS]
  · refine ⟨.nilslice, h, Try.en (n := 1) (kf := Try.k12) (by kernel_rfl) ?_, ⟨rfl, .inl ⟨rfl, rfl⟩⟩, .refl, fun q hq => hq.elim⟩
    rw [Try.k12_eq, enter_eq]
    simp [argsP, kr, bO_mk, kx, hbad, kfin, kresL, kres, oneS]
end
end Go.Proofs
