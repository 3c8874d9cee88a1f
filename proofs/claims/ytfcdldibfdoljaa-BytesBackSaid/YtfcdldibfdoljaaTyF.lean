/- Bytes: texts. -/
import Derived.Test.YtfcdldibfdoljaaTyE
set_option linter.unusedVariables false
set_option linter.unusedSimpArgs false
set_option linter.unusedSectionVars false
namespace Go.Proofs
open Go.Sh
set_option linter.unusedVariables false
attribute [local instance] heldNone
noncomputable section
def bytesZ (zs : List Int) : List UInt8 := zs.map fun z => UInt8.ofNat z.toNat
theorem bytesOf_u8z : ∀ zs : List Int, bytesOf (u8z zs) = some (bytesZ zs)
  | [] => rfl
  | z :: zs => by
    show (bytesOf (u8z zs)).map (UInt8.ofNat z.toNat :: ·) = _
    rw [bytesOf_u8z zs]; rfl
theorem View.str {h : H} {n : Nat} {v : SV} {zs : List Int} (w : View h 1 v n (u8z zs)) : strOf h.get v = some (.str (bytesZ zs)) := by
  obtain ⟨h1, ⟨rfl, rfl⟩ | ⟨id, off, cap, all, rfl, h2, h3, h4⟩⟩ := w
  · have : zs = [] := List.eq_nil_of_length_eq_zero (by simpa [u8z] using h1)
    subst this; rfl
  · show bO (rowCells h.get id) (fun cs => bO (dropX off cs) fun r => bO (takeX n r) fun l => bO (bytesOf l) fun b => some (SV.str b)) = _
    rw [h2]
    unfold takeCells at h3
    split at h3
    · rename_i hle
      have h3 := Option.some.inj h3
      rw [Nat.mul_one] at h3 hle
      show bO (dropX off all) _ = _
      rw [dropX_eq, if_pos (by omega)]
      show bO (takeX n (all.drop off)) _ = _
      rw [takeX_eq, if_pos (by rw [List.length_drop]; omega), h3]
      show bO (bytesOf (u8z zs)) _ = _
      rw [bytesOf_u8z]; rfl
    · cases h3
/-- the number of a text's bytes -/
def lenAt (zs : List Int) (a : Nat) : Nat := (numAt zs a 2).toNat
def textFits (zs : List Int) (n a : Nat) (f : Bool) : Bool := fits n a f 2 && decide (a + 2 + lenAt zs a ≤ n)
theorem Try.rtext {h : H} {p n a : Nat} {f : Bool} {zs : List Int} {b : SV} (r : Rdr h p n (u8z zs) a f b) (hz : 0 ≤ numAt zs a 2) :
    ∃ h', Try.lc 22 [.ptr p 0] h = some (.str (if textFits zs n a f then bytesZ ((zs.drop (a + 2)).take (lenAt zs a)) else []), h') ∧ Rdr h' p n (u8z zs) (if textFits zs n a f then a + 2 + lenAt zs a else a) (!textFits zs n a f) b ∧ Fr (· = p) (· = p) h h' := by
  obtain ⟨h1, k1, k2, k3⟩ := Try.ru2 r
  have hat := Try.at r
  have run : ∀ v c h2, Try.lc 34 [.ptr p 0, .int .i64 (if fits n a f 2 then numAt zs a 2 else 0), .int .i64 a] h1 = some (.tuple [v, c], h2) → ∀ s, strOf h2.get v = some (.str s) → Try.lc 22 [.ptr p 0] h = some (.str s, h2) := fun v c h2 e s es => by
    refine Try.en (n := 1) (kf := Try.k22) (by kernel_rfl) ?_
    rw [Try.k22_eq, enter_eq]
    simp [argsP, kr, bO_mk, hat, k1, e, vExtract, lToStr, es, kfin, kresL, kres, oneS]
  cases hf : fits n a f 2
  · rw [hf] at k2 run
    refine ⟨h1, by simpa [textFits, hf] using run .nilslice (.bool false) h1 (by simpa using Try.take_failed k2 0 a) [] rfl, by simpa [textFits, hf] using k2, k3⟩
  · rw [hf] at k2 run
    have e : numAt zs a 2 = (lenAt zs a : Int) := by unfold lenAt; omega
    by_cases hm : a + 2 + lenAt zs a ≤ n
    · obtain ⟨v, h2, q1, q2, q3, q4⟩ := Try.take_ok (by simpa using k2) (lenAt zs a) a hm
      have q3 : View h2 1 v (lenAt zs a) (u8z ((zs.drop (a + 2)).take (lenAt zs a))) := by simpa [u8z, List.map_take, List.map_drop] using q3
      refine ⟨h2, by simpa [textFits, hf, hm] using run v (.bool true) h2 (by simpa [e] using q1) _ (View.str q3), by simpa [textFits, hf, hm] using q2, k3.trans q4⟩
    · obtain ⟨h2, q1, q2, q3⟩ := Try.take_short (by simpa using k2) (lenAt zs a) a (by omega) (by have := k2.here; have := r.here; omega)
      refine ⟨h2, by simpa [textFits, hf, hm] using run .nilslice (.bool false) h2 (by simpa [e] using q1) [] rfl, by simpa [textFits, hf, hm] using q2, k3.trans q3⟩
end
end Go.Proofs
