/- Bytes: a text that is written. -/
import Derived.Test.YtfcdldibfdoljaaTyF
set_option linter.unusedVariables false
set_option linter.unusedSimpArgs false
set_option linter.unusedSectionVars false
namespace Go.Proofs
open Go.Sh
set_option linter.unusedVariables false
attribute [local instance] heldNone
noncomputable section
theorem append_str {h h' : H} {bytes : Nat} {s v' : SV} {b : List UInt8} (e : kappend h bytes 1 b.length (u8s b) s = some (v', h')) (t : T) : tAppend bytes 1 (xC s) (xC (.str b)) h t = some (v', h') := by
  have e1 : srcCells h.get 1 b.length (.str b) = some (u8s b) := by
    show (if Nat.beq 1 1 = true then some ((b.take b.length).map fun c => SV.int .u8 c.toNat) else none) = _
    rw [if_pos (by decide), List.take_length]; rfl
  show bO (srcCells h.get 1 b.length (.str b)) (fun new => kappend h bytes 1 b.length new s) = _
  rw [e1]; exact e
theorem Try.wtext_nil (h : H) (s : List UInt8) : Try.lc 28 [.nilptr, .str s] h = some (.nilptr, h) := by
  refine Try.en (n := 1) (kf := Try.k28) (by kernel_rfl) ?_
  rw [Try.k28_eq, enter_eq]
  simp [argsP, kr, bO_mk, kx, vLenS, Try.u2_nil, lNe, keq, isB, bB, vPick, kfin, kresL, kres, oneS]
theorem Try.wtext {p : Nat} {s : List UInt8} {h : H} {bad : Bool} {n : Nat} {cs : List SV} (hmax : (n + 2 + s.length) * 3 ≤ 1099511627776) (w : Wr h p bad n cs) :
    ∃ h', Try.lc 28 [.ptr p 0, .str s] h = some (.ptr p 0, h') ∧ Fr (wrOwn h p) (· = p) h h' ∧ Wr h' p (outOf bad s.length 0 65535) (if outOf bad s.length 0 65535 then n else n + 2 + s.length) (if outOf bad s.length 0 65535 then cs else cs ++ be 2 s.length ++ u8s s) ∧ (∀ q, wrOwn h' p q → wrOwn h p q ∨ h.next ≤ q) := by
  obtain ⟨h1, k1, k2, k3, k4⟩ := Try.u2 (x := (s.length : Int)) (by omega) w
  cases hb : outOf bad s.length 0 65535
  · rw [hb] at k3
    obtain ⟨buf, a1, a2, a3⟩ := k3
    simp only [Bool.false_eq_true, if_false] at a2
    obtain ⟨buf', h2, b1, b2, b3, b4⟩ := a2.append (bytes := 1) s.length (u8s s) (by omega) (by simp [u8s]) (by omega)
    have a1' : h2.get p = some (.cells [buf, .bool false] .fixed) := b3.get a1 fun k => a3 p k rfl
    have hst := fun t => store_fixed a1' 0 buf' t (by simp) (buf_cells b2)
    have hp := H.get_lt a1'
    have hne : ∀ q, isRow buf' q → q ≠ p := fun q hq e => by
      subst e
      rcases b4 _ hq with k | k
      · exact a3 _ k rfl
      · exact absurd (H.get_lt a1) (by omega)
    have fin := get_put_self (o := .cells [buf', .bool false] .fixed) a1'
    have f2 : Fr (wrOwn h p) (· = p) h (h2.put p (.cells [buf', .bool false] .fixed)) := by
      have g : Fr (wrOwn h1 p) (· = p) h1 (h2.put p (.cells [buf', .bool false] .fixed)) := (b3.mono (fun q _ e => .inr ⟨buf, false, a1, e⟩) (fun q e => e.elim)).trans ((Fr.put hp).mono (fun q _ e => .inl e) (fun q e => .inl e))
      refine ⟨Nat.le_trans k2.next g.next, fun q hq hn => ?_, fun m q1 q2 q3 => g.low m (k2.low m q1 q2 q3) (Nat.le_trans q2 k2.next) q3⟩
      rw [g.keep q (Nat.lt_of_lt_of_le hq k2.next) fun k => ?_, k2.keep q hq hn]
      rcases k4 q k with k | k
      · exact hn k
      · omega
    refine ⟨h2.put p (.cells [buf', .bool false] .fixed), Try.en (n := 1) (kf := Try.k28) (by kernel_rfl) ?_, f2, ⟨buf', fin, by simpa using b2.keep (Fr.put hp) hne, hne⟩, fun q hq => ?_⟩
    · rw [Try.k28_eq, enter_eq]
      simp [argsP, kr, bO_mk, kx, vLenS, k1, lNe, keq, isB, bB, vPick, vNil, nilV, vAddr, lLoad, rowCells, a1, kpart, idxX_get, vUn, unS, append_str b1, hst, kfin, kresL, kres, oneS]
    · rcases wrOwn_of a1 fin b4 q hq with k | k
      · exact k4 q k
      · exact .inr (Nat.le_trans k2.next k)
  · rw [hb] at k3
    refine ⟨h1, Try.en (n := 1) (kf := Try.k28) (by kernel_rfl) ?_, k2, by simpa using k3, k4⟩
    obtain ⟨buf, a1, a2, a3⟩ := k3
    rw [Try.k28_eq, enter_eq]
    simp [argsP, kr, bO_mk, kx, vLenS, k1, lNe, keq, isB, bB, vPick, vNil, nilV, vAddr, lLoad, rowCells, a1, kpart, idxX_get, vUn, unS, kfin, kresL, kres, oneS]
end
end Go.Proofs
