/- The seat's oracles: where a byte stands in a text, texts joined, keys sorted. -/
import Derived.Test.YtkdlbghfcogdaaaGreatDoorTzKT
import Derived.Test.YtkdlbghfcogdaaaGreatDoorTzShelf
import Derived.Test.YtkdlbghfcogdaaaGreatDoorSh12
import Derived.Test.YtkdlbghfcogdaaaGreatDoorSh13
import Derived.Test.YtkdlbghfcogdaaaGreatDoorChecked
set_option linter.unusedVariables false
set_option linter.unusedSimpArgs false
set_option linter.unusedSectionVars false
namespace Go.Proofs
open Go.Sh Go.RowKit Go.Maps Go.Sort Go.Shelf
theorem Tryz.sorts123 (m : Nat) : AnyZ.SortsIn Tryz.prog Tryz.sorted123_ren Fence.wide m :=
  ⟨fun blk off cap ss W hH hblk hsz => callsIn_wide.2 (AnyM.slices_Sort_string Tryz.sort168 blk off cap ss W hH hblk hsz),
   fun p cap W => callsIn_wide.2 (AnyM.slices_Sort_string_none Tryz.sort168 p cap W)⟩
set_option maxHeartbeats 1000000 in
theorem Tryz.sortsKeys : SortsKeys Tryz.prog 123 169 9 where
  key := Tryz.underlying9
  enter := enters_of Tryz.func123 (by kernel_rfl) rfl
  full := fun Bm b nn D0 R w hB hc hown hmax hby => callsIn_wide.1 (AnyZ.sorted_in Tryz.sorted123 Fence.wide 5 trivial trivial trivial trivial rfl (by omega) (Tryz.sorts123 _) (enters_of Tryz.func168 (by kernel_rfl) rfl) 169 #[.pointer (some ⟨Bm, 0, none⟩)] trivial (enters_of Tryz.func169 (by kernel_rfl) rfl) _ _ hmax hby _
    (AnyZ.keys_gives (ρ := Tryz.keys124_ren) { Tryz.keys124 with } Fence.wide _ trivial rfl (by omega) Bm b nn D0 w hB hc hown))
  nilm := fun Bm w hB hc => (callsIn_wide.1 (AnyZ.sorted_in Tryz.sorted123 Fence.wide 5 trivial trivial trivial trivial rfl (by omega) (Tryz.sorts123 _) (enters_of Tryz.func168 (by kernel_rfl) rfl) 169 #[.pointer (some ⟨Bm, 0, none⟩)] trivial (enters_of Tryz.func169 (by kernel_rfl) rfl) _ 0 (Nat.zero_le _) (by omega) _
    (AnyZ.keys_gives_nil (ρ := Tryz.keys124_ren) { Tryz.keys124 with } Fence.wide _ trivial rfl Bm w hB hc))).mono fun e w' ⟨v, ss, h1, h2, h3, h4, h5⟩ => ⟨by rw [h1, h4.2 h2], h5⟩
theorem Tryz.good : Go.Sh.Good Tryz.prog := good_of_check Tryz.codeOk (by kernel_rfl) (by kernel_rfl)
noncomputable def Tryz.X (f : FuncId) : Option (List SV → H → Option (SV × H)) :=
  bB (Nat.beq f 215) (some xIndex) (bB (Nat.beq f 22) (some xJoin) (bB (Nat.beq f 123) (some (xSorted 169)) none))
set_option maxRecDepth 100000 in
theorem Tryz.X_ok [Held] : OracleOK Tryz.prog Tryz.X := fun f g e => by
  unfold Tryz.X at e
  cases h1 : Nat.beq f 215
  · rw [h1] at e
    cases h2 : Nat.beq f 22
    · rw [h2] at e
      cases h3 : Nat.beq f 123
      · rw [h3] at e; cases e
      · rw [h3] at e; cases e
        have := Nat.eq_of_beq_eq_true h3; subst this
        exact xSorted_ok Tryz.sortsKeys
    · rw [h2] at e; cases e
      have := Nat.eq_of_beq_eq_true h2; subst this
      exact xJoin_ok Tryz.lays156 Tryz.Builder_Extra_156
  · rw [h1] at e; cases e
    have := Nat.eq_of_beq_eq_true h1; subst this
    exact xIndex_ok (fn := Tryz.f215) Tryz.func215 (by kernel_rfl) (show ("internal/bytealg.IndexByteString" : String) ≠ "runtime.NumGoroutine" by decide) (by kernel_rfl) (by kernel_rfl)
/-- 'awake' of lanternlaw12 answers true. -/
theorem Tryz.awake16 : ((kcall Tryz.kTab.get Tryz.X 100000 16 [] .empty).map (·.1)) = some (.bool true) := by kernel_rfl
end Go.Proofs
