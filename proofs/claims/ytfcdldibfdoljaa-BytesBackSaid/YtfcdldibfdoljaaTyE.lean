/- Bytes: the reader's methods. -/
import Derived.Test.YtfcdldibfdoljaaTyD
set_option linter.unusedVariables false
set_option linter.unusedSimpArgs false
set_option linter.unusedSectionVars false
namespace Go.Proofs
open Go.Sh
set_option linter.unusedVariables false
attribute [local instance] heldNone
noncomputable section
theorem nstep_eq {v z : Int} (hv : 0 ≤ v) (hv' : v < 1099511627776) (hz : 0 ≤ z) (hz' : z < 256) : nstep v z = v * 256 + z := by
  obtain ⟨a, rfl⟩ : ∃ a : Nat, v = a := ⟨v.toNat, by omega⟩
  obtain ⟨b, rfl⟩ : ∃ b : Nat, z = b := ⟨z.toNat, by omega⟩
  have w1 : IntKind.i64.wrap ((a : Int) * 256) = ((a * 256 : Nat) : Int) := by rw [Int.natCast_mul]; exact wrap_i64 (by omega) (by omega)
  have w2 : IntKind.i64.wrap (b : Int) = (b : Int) := wrap_i64 (by omega) (by omega)
  unfold nstep
  rw [w1, w2]
  have e : (BitVec.ofInt 64 ((a * 256 : Nat) : Int) ||| BitVec.ofInt 64 (b : Int)).toNat = a * 256 + b := by
    have e1 : ∀ x : Nat, BitVec.ofInt 64 (x : Int) = BitVec.ofNat 64 x := fun x => BitVec.ofInt_natCast ..
    rw [e1, e1, BitVec.toNat_or, BitVec.toNat_ofNat, BitVec.toNat_ofNat, Nat.mod_eq_of_lt (by omega), Nat.mod_eq_of_lt (by omega)]
    have h := Nat.shiftLeft_add_eq_or_of_lt (i := 8) (b := b) (by omega) a
    rw [Nat.shiftLeft_eq] at h
    exact h.symm
  rw [e]
  have := wrap_i64 (x := ((a * 256 + b : Nat) : Int)) (by omega) (by omega)
  rw [this]; omega
/-- a number of so many bytes at a place -/
def numAt (zs : List Int) (a m : Nat) : Int := ((zs.drop a).take m).foldl nstep 0
/-- Is so much there? -/
def fits (n a : Nat) (f : Bool) (m : Nat) : Bool := !f && decide (a + m ≤ n)
theorem Try.num {h : H} {p n a : Nat} {f : Bool} {zs : List Int} {b : SV} (r : Rdr h p n (u8z zs) a f b) (m : Nat) :
    ∃ h', Try.lc 32 [.ptr p 0, .int .i64 m] h = some (.int .i64 (if fits n a f m then numAt zs a m else 0), h') ∧ Rdr h' p n (u8z zs) (if fits n a f m then a + m else a) (!fits n a f m) b ∧ Fr (· = p) (· = p) h h' := by
  cases f
  · by_cases hm : a + m ≤ n
    · obtain ⟨h', k1, k2, k3⟩ := Try.num_ok r m hm
      exact ⟨h', by simpa [fits, hm, numAt] using k1, by simpa [fits, hm] using k2, k3⟩
    · obtain ⟨h', k1, k2, k3⟩ := Try.num_short r m (by omega)
      exact ⟨h', by simpa [fits, hm] using k1, by simpa [fits, hm] using k2, k3⟩
  · exact ⟨h, by simpa [fits] using Try.num_failed r m, by simpa [fits] using r, .refl⟩
theorem Try.ru1 {h : H} {p n a : Nat} {f : Bool} {zs : List Int} {b : SV} (r : Rdr h p n (u8z zs) a f b) :
    ∃ h', Try.lc 16 [.ptr p 0] h = some (.int .i64 (if fits n a f 1 then numAt zs a 1 else 0), h') ∧ Rdr h' p n (u8z zs) (if fits n a f 1 then a + 1 else a) (!fits n a f 1) b ∧ Fr (· = p) (· = p) h h' := by
  obtain ⟨h', k1, k2⟩ := Try.num r 1
  refine ⟨h', Try.en (n := 1) (kf := Try.k16) (by kernel_rfl) ?_, k2⟩
  have k1 : Try.lc 32 [.ptr p 0, .int .i64 1] h = some (.int .i64 (if fits n a f 1 then numAt zs a 1 else 0), h') := k1
  rw [Try.k16_eq, enter_eq]
  simp [argsP, kr, bO_mk, k1, kfin, kresL, kres, oneS]
theorem Try.ru2 {h : H} {p n a : Nat} {f : Bool} {zs : List Int} {b : SV} (r : Rdr h p n (u8z zs) a f b) :
    ∃ h', Try.lc 15 [.ptr p 0] h = some (.int .i64 (if fits n a f 2 then numAt zs a 2 else 0), h') ∧ Rdr h' p n (u8z zs) (if fits n a f 2 then a + 2 else a) (!fits n a f 2) b ∧ Fr (· = p) (· = p) h h' := by
  obtain ⟨h', k1, k2⟩ := Try.num r 2
  refine ⟨h', Try.en (n := 1) (kf := Try.k15) (by kernel_rfl) ?_, k2⟩
  have k1 : Try.lc 32 [.ptr p 0, .int .i64 2] h = some (.int .i64 (if fits n a f 2 then numAt zs a 2 else 0), h') := k1
  rw [Try.k15_eq, enter_eq]
  simp [argsP, kr, bO_mk, k1, kfin, kresL, kres, oneS]
theorem Try.ri4 {h : H} {p n a : Nat} {f : Bool} {zs : List Int} {b : SV} (r : Rdr h p n (u8z zs) a f b) :
    ∃ h', Try.lc 14 [.ptr p 0] h = some (.int .i64 (IntKind.i64.wrap (IntKind.i32.wrap (if fits n a f 4 then numAt zs a 4 else 0))), h') ∧ Rdr h' p n (u8z zs) (if fits n a f 4 then a + 4 else a) (!fits n a f 4) b ∧ Fr (· = p) (· = p) h h' := by
  obtain ⟨h', k1, k2⟩ := Try.num r 4
  refine ⟨h', Try.en (n := 1) (kf := Try.k14) (by kernel_rfl) ?_, k2⟩
  have k1 : Try.lc 32 [.ptr p 0, .int .i64 4] h = some (.int .i64 (if fits n a f 4 then numAt zs a 4 else 0), h') := k1
  rw [Try.k14_eq, enter_eq]
  simp [argsP, kr, bO_mk, kx, k1, vToI, wrapS_eq, kfin, kresL, kres, oneS]
theorem Try.err {h : H} {p n a : Nat} {f : Bool} {cs : List SV} {b : SV} (r : Rdr h p n cs a f b) :
    Try.lc 23 [.ptr p 0] h = some (.tuple [.int .i64 (if f then 2 else 0), .int .i64 (if f then (a : Int) else 0)], h) := by
  refine Try.en (n := 1) (kf := Try.k23) (by kernel_rfl) ?_
  rw [Try.k23_eq, enter_eq]
  cases f
  · simp [argsP, kr, bO_mk, kx, lEq, keq, vNil, nilV, vAddr, lLoad, rowCells, r.row, kpart, idxX_get, isB, bB, vPick, vUn, unS, kfin, kresL, kres, oneS]
  · simp [argsP, kr, bO_mk, kx, lEq, keq, vNil, nilV, vAddr, lLoad, rowCells, r.row, kpart, idxX_get, isB, bB, vPick, vUn, unS, kfin, kresL, kres, oneS]
theorem Try.newReader {h : H} {v : SV} {n : Nat} {cs : List SV} (w : View h 1 v n cs) (hmax : n * 3 ≤ 1099511627776) :
    ∃ p h' b, Try.lc 13 [v] h = some (.ptr p 0, h') ∧ Rdr h' p n cs 0 false b ∧ Fr (fun _ => False) (fun _ => False) h h' ∧ h.next ≤ p ∧ (∀ q, isRow b q → h.next ≤ q) := by
  obtain ⟨b, h1, k1, k2, k3, k4⟩ := Try.clone w hmax
  have hb : ∀ q, isRow b q → q < h1.next := fun q hq => by
    obtain ⟨_, ⟨rfl, _⟩ | ⟨id, off, cap, all, rfl, e, _⟩⟩ := k2
    · exact hq.elim
    · rw [show q = id from hq]; exact rowCells_lt e
  refine ⟨h1.next, h1.push (.cells [b, .int .i64 0, .bool false] .fixed), b, Try.en (n := 1) (kf := Try.k13) (by kernel_rfl) ?_, ⟨by rw [H.get_push, if_pos rfl]; rfl, k2.keep (Fr.push (S := fun _ => False) (W := fun _ => False)) (fun q _ k => k), fun q hq => Nat.ne_of_lt (hb q hq), Nat.zero_le _, by omega⟩, k3.trans .push, k3.next, k4⟩
  have hc : b.cells? = some [b] := by
    obtain ⟨_, ⟨rfl, _⟩ | ⟨id, off, cap, all, rfl, e, _⟩⟩ := k2 <;> rfl
  have e : kfillV [.nilslice, .int .i64 0, .bool false] [(0, 1)] [b] = some [b, .int .i64 0, .bool false] := by
    simp [kfillV, fillS, fillAsc, hc, List.range, List.range.loop]
  rw [Try.k13_eq, enter_eq]
  simp [argsP, kr, bO_mk, kx, k1, vFill, xL, e, sN, aBox, SV.cells?, kfin, kresL, kres, oneS]
end
end Go.Proofs
