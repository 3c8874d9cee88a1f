/- The seat's oracles: the shelf's. -/
import Derived.Test.YtflmnikjipdhkaaGreatDoorTzAL
import Derived.Test.YtflmnikjipdhkaaGreatDoorTzAShelf
import Derived.Test.YtflmnikjipdhkaaGreatDoorSh18
import Derived.Test.YtflmnikjipdhkaaGreatDoorSh19
import Derived.Test.YtflmnikjipdhkaaGreatDoorSh21
import Derived.Lib.LaidTab
import Derived.Test.YtflmnikjipdhkaaGreatDoorChecked
set_option linter.unusedVariables false
set_option linter.unusedSimpArgs false
set_option linter.unusedSectionVars false
namespace Go.Proofs
open Go.Sh Go.Shelf Go.RowKit Go.Maps Go.Sort
set_option maxRecDepth 100000
noncomputable section
theorem Tryz.good : Go.Sh.Good Tryz.prog := good_of_check Tryz.codeOk (by kernel_rfl) (by kernel_rfl)
@[reducible] def powHeld : Held := ⟨fun w => Lib.TabIs Tryz.prog w "internal/strconv.uint64pow10" .u64 Lib.pow10Tab, 2, fun w w' h1 h2 => by
  unfold Lib.TabIs World.var? at *
  rw [show Tryz.prog.globalNamed "internal/strconv.uint64pow10" = some 1 by kernel_rfl] at *
  simp only [Option.bind_some] at *
  rw [h1 1 (by omega)]
  exact h2⟩
attribute [local instance] powHeld
theorem held_up : ∀ B w, Held.nb ≤ B → HeldAt B w → B ≤ w.heap.size → HeldAt w.heap.size w := fun B w hb hw hle => ⟨Nat.le_trans hb hle, hw.2⟩
theorem held_below {w w' : World} (h : HeldAt w.heap.size w) (b : RowKit.Below w.heap.size w w') : HeldAt w'.heap.size w' :=
  ⟨Nat.le_trans h.1 b.size, Held.keep w w' (fun k hk => b.block k (Nat.lt_of_lt_of_le hk h.1)) h.2⟩
theorem Tryz.itoa_ok : OrOK Tryz.prog (157, xItoa) := by
  intro args h v h' hx B ι w us hs hl
  have hx : xItoa args h = some (v, h') := hx
  unfold xItoa xPure at hx
  split at hx
  · rename_i v0 e
    cases hx
    unfold gDec at e
    split at e
    · rename_i n
      obtain ⟨n0, n1, rfl⟩ := int_range e
      have hu : us = #[.int .i64 n] := by
        obtain ⟨y, r, e1, h1, h2⟩ := hl
        have h1 : y = .int .i64 n := h1
        have h2 : r = [] := h2
        subst h1 h2
        exact Array.toList_inj.1 e1
      subst hu
      refine .inl ⟨enters_of Tryz.func157 (by kernel_rfl) rfl _ _, ?_⟩
      refine (Any.strconv_Itoa Tryz.laysItoa n n0 n1 w hs.held.2).mono fun en w' ⟨e1, k, os, e2⟩ => ?_
      subst e2
      refine ⟨_, e1, ι, ?_, .below hs ⟨rfl, rfl, rfl, ?_, fun b hb => ?_⟩⟩
      · rw [itoaS_eq n0 n1]; rfl
      · simp [«Sort».grow]
      · simp [«Sort».grow, Array.getElem?_append_left, hb]
    · cases e
  · cases hx
theorem Tryz.sorts105 (m : Nat) : AnyZ.SortsIn Tryz.prog Tryz.sorted105_ren Fence.wide m :=
  ⟨fun blk off cap ss W hH hblk hsz => callsIn_wide.2 (AnyM.slices_Sort_string Tryz.sort150 blk off cap ss W hH hblk hsz),
   fun p cap W => callsIn_wide.2 (AnyM.slices_Sort_string_none Tryz.sort150 p cap W)⟩
theorem Tryz.sorts184 (m : Nat) : AnyZI.SortsIn Tryz.prog Tryz.sorted184_ren Fence.wide m :=
  ⟨fun blk off cap ss W hH hblk hsz => callsIn_wide.2 (AnyM.slices_Sort_int Tryz.sort15 blk off cap ss W hH hblk hsz),
   fun p cap W => callsIn_wide.2 (AnyM.slices_Sort_int_none Tryz.sort15 p cap W)⟩
set_option maxHeartbeats 1000000 in
theorem Tryz.sortsKeys : SortsKeys Tryz.prog 105 151 9 where
  key := Tryz.underlying9
  enter := enters_of Tryz.func105 (by kernel_rfl) rfl
  full := fun Bm b nn D0 R w hB hc hown hmax hby => callsIn_wide.1 (AnyZ.sorted_in Tryz.sorted105 Fence.wide 5 trivial trivial trivial trivial rfl (by omega) (Tryz.sorts105 _) (enters_of Tryz.func150 (by kernel_rfl) rfl) 151 #[.pointer (some ⟨Bm, 0, none⟩)] trivial (enters_of Tryz.func151 (by kernel_rfl) rfl) _ _ hmax hby _
    (AnyZ.keys_gives (ρ := Tryz.keys106_ren) { Tryz.keys106 with } Fence.wide _ trivial rfl (by omega) Bm b nn D0 w hB hc hown))
  nilm := fun Bm w hB hc => (callsIn_wide.1 (AnyZ.sorted_in Tryz.sorted105 Fence.wide 5 trivial trivial trivial trivial rfl (by omega) (Tryz.sorts105 _) (enters_of Tryz.func150 (by kernel_rfl) rfl) 151 #[.pointer (some ⟨Bm, 0, none⟩)] trivial (enters_of Tryz.func151 (by kernel_rfl) rfl) _ 0 (Nat.zero_le _) (by omega) _
    (AnyZ.keys_gives_nil (ρ := Tryz.keys106_ren) { Tryz.keys106 with } Fence.wide _ trivial rfl Bm w hB hc))).mono fun e w' ⟨v, ss, h1, h2, h3, h4, h5⟩ => ⟨by rw [h1, h4.2 h2], h5⟩
set_option maxHeartbeats 1000000 in
theorem Tryz.sortsKeys2 : SortsKeys Tryz.prog 105 183 9 where
  key := Tryz.underlying9
  enter := enters_of Tryz.func105 (by kernel_rfl) rfl
  full := fun Bm b nn D0 R w hB hc hown hmax hby => callsIn_wide.1 (AnyZ.sorted_in Tryz.sorted105 Fence.wide 5 trivial trivial trivial trivial rfl (by omega) (Tryz.sorts105 _) (enters_of Tryz.func150 (by kernel_rfl) rfl) 183 #[.pointer (some ⟨Bm, 0, none⟩)] trivial (enters_of Tryz.func183 (by kernel_rfl) rfl) _ _ hmax hby _
    (AnyZ.keys_gives (ρ := Tryz.keys125_ren) { Tryz.keys125 with } Fence.wide _ trivial rfl (by omega) Bm b nn D0 w hB hc hown))
  nilm := fun Bm w hB hc => (callsIn_wide.1 (AnyZ.sorted_in Tryz.sorted105 Fence.wide 5 trivial trivial trivial trivial rfl (by omega) (Tryz.sorts105 _) (enters_of Tryz.func150 (by kernel_rfl) rfl) 183 #[.pointer (some ⟨Bm, 0, none⟩)] trivial (enters_of Tryz.func183 (by kernel_rfl) rfl) _ 0 (Nat.zero_le _) (by omega) _
    (AnyZ.keys_gives_nil (ρ := Tryz.keys125_ren) { Tryz.keys125 with } Fence.wide _ trivial rfl Bm w hB hc))).mono fun e w' ⟨v, ss, h1, h2, h3, h4, h5⟩ => ⟨by rw [h1, h4.2 h2], h5⟩
set_option maxHeartbeats 1000000 in
theorem Tryz.sortsKeysI : SortsKeysI Tryz.prog 184 220 3 where
  key := Tryz.underlying3
  enter := enters_of Tryz.func184 (by kernel_rfl) rfl
  full := fun Bm b nn D0 R w hB hc hown hmax hby => callsIn_wide.1 (AnyZI.sorted_in Tryz.sorted184 Fence.wide 5 trivial trivial trivial trivial rfl (by omega) (Tryz.sorts184 _) (enters_of Tryz.func15 (by kernel_rfl) rfl) 220 #[.pointer (some ⟨Bm, 0, none⟩)] trivial (enters_of Tryz.func220 (by kernel_rfl) rfl) _ _ hmax hby _
    (AnyZI.keys_gives (ρ := Tryz.keys185_ren) { Tryz.keys185 with } Fence.wide _ trivial rfl (by omega) Bm b nn D0 w hB hc hown))
  nilm := fun Bm w hB hc => (callsIn_wide.1 (AnyZI.sorted_in Tryz.sorted184 Fence.wide 5 trivial trivial trivial trivial rfl (by omega) (Tryz.sorts184 _) (enters_of Tryz.func15 (by kernel_rfl) rfl) 220 #[.pointer (some ⟨Bm, 0, none⟩)] trivial (enters_of Tryz.func220 (by kernel_rfl) rfl) _ 0 (Nat.zero_le _) (by omega) _
    (AnyZI.keys_gives_nil (ρ := Tryz.keys185_ren) { Tryz.keys185 with } Fence.wide _ trivial rfl Bm w hB hc))).mono fun e w' ⟨v, ss, h1, h2, h3, h4, h5⟩ => ⟨by rw [h1, h4.2 h2], h5⟩
def Tryz.Xn (f : FuncId) : Option (List SV → H → Option (SV × H)) := none
theorem Tryz.Xn_ok : OracleOK Tryz.prog Tryz.Xn := fun f g e => by cases e
def Tryz.OL : OrL := [(157, xItoa), (203, xIndex), (105, xOr (xSorted 151) (xSorted 183)), (184, xSortedI 220)]
def Tryz.X2 : FuncId → Option (List SV → H → Option (SV × H)) := orGet Tryz.Xn Tryz.OL
theorem Tryz.X2_ok : OracleOK Tryz.prog Tryz.X2 := orGet_ok Tryz.Xn_ok (l := Tryz.OL) ⟨Tryz.itoa_ok,
  xIndex_ok (fn := Tryz.f203) Tryz.func203 (by kernel_rfl) (show ("internal/bytealg.IndexByteString" : String) ≠ "runtime.NumGoroutine" by decide) (by kernel_rfl) (by kernel_rfl),
  xOr_ok (xSorted_ok Tryz.sortsKeys) (xSorted_ok Tryz.sortsKeys2), xSortedI_ok Tryz.sortsKeysI, trivial⟩
abbrev Tryz.l2 : CF := (lim Tryz.prog Tryz.X2).call
end
end Go.Proofs
