/- The seat's oracles. -/
import Derived.Test.YtknnamdpgiplfaaGreatDoorTzAL
import Derived.Test.YtknnamdpgiplfaaGreatDoorTzAShelf
import Derived.Test.YtknnamdpgiplfaaGreatDoorTzAW
import Derived.Test.YtknnamdpgiplfaaGreatDoorSh18
import Derived.Test.YtknnamdpgiplfaaGreatDoorSh20
import Derived.Lib.LaidTab
set_option linter.unusedVariables false
set_option linter.unusedSimpArgs false
set_option linter.unusedSectionVars false
namespace Go.Proofs
open Go.Sh Go.Shelf Go.RowKit Go.Maps Go.Sort
set_option linter.unusedVariables false
set_option maxRecDepth 100000
noncomputable section
theorem Tryz.good : Go.Sh.Good Tryz.prog := good_of_check Tryz.codeOk (by kernel_rfl) (by kernel_rfl)
@[reducible] def powHeld : Held := heldNone
attribute [local instance] powHeld
theorem held_up : ∀ B w, Held.nb ≤ B → HeldAt B w → B ≤ w.heap.size → HeldAt w.heap.size w := fun B w hb hw hle => ⟨Nat.le_trans hb hle, hw.2⟩
theorem held_below {w w' : World} (h : HeldAt w.heap.size w) (b : RowKit.Below w.heap.size w w') : HeldAt w'.heap.size w' :=
  ⟨Nat.le_trans h.1 b.size, Held.keep w w' (fun k hk => b.block k (Nat.lt_of_lt_of_le hk h.1)) h.2⟩
theorem Tryz.sorts99 (m : Nat) : AnyZ.SortsIn Tryz.prog Tryz.sorted99_ren Fence.wide m :=
  ⟨fun blk off cap ss W hH hblk hsz => callsIn_wide.2 (AnyM.slices_Sort_string Tryz.sort113 blk off cap ss W hH hblk hsz),
   fun p cap W => callsIn_wide.2 (AnyM.slices_Sort_string_none Tryz.sort113 p cap W)⟩
set_option maxHeartbeats 1000000 in
theorem Tryz.sortsKeys : SortsKeys Tryz.prog 99 145 9 where
  key := Tryz.underlying9
  enter := enters_of Tryz.func99 (by kernel_rfl) rfl
  full := fun Bm b nn D0 R w hB hc hown hmax hby => callsIn_wide.1 (AnyZ.sorted_in Tryz.sorted99 Fence.wide 5 trivial trivial trivial trivial rfl (by omega) (Tryz.sorts99 _) (enters_of Tryz.func113 (by kernel_rfl) rfl) 145 #[.pointer (some ⟨Bm, 0, none⟩)] trivial (enters_of Tryz.func145 (by kernel_rfl) rfl) _ _ hmax hby _
    (AnyZ.keys_gives (ρ := Tryz.keys100_ren) { Tryz.keys100 with } Fence.wide _ trivial rfl (by omega) Bm b nn D0 w hB hc hown))
  nilm := fun Bm w hB hc => (callsIn_wide.1 (AnyZ.sorted_in Tryz.sorted99 Fence.wide 5 trivial trivial trivial trivial rfl (by omega) (Tryz.sorts99 _) (enters_of Tryz.func113 (by kernel_rfl) rfl) 145 #[.pointer (some ⟨Bm, 0, none⟩)] trivial (enters_of Tryz.func145 (by kernel_rfl) rfl) _ 0 (Nat.zero_le _) (by omega) _
    (AnyZ.keys_gives_nil (ρ := Tryz.keys100_ren) { Tryz.keys100 with } Fence.wide _ trivial rfl Bm w hB hc))).mono fun e w' ⟨v, ss, h1, h2, h3, h4, h5⟩ => ⟨by rw [h1, h4.2 h2], h5⟩
def Tryz.Xn (f : FuncId) : Option (List SV → H → Option (SV × H)) := none
theorem Tryz.Xn_ok : OracleOK Tryz.prog Tryz.Xn := fun f g e => by cases e
def okB (r : Option (SV × H)) : Bool := match r with
  | some _ => true
  | none => false
theorem okB_some {r : Option (SV × H)} (h : okB r = true) : ∃ v h', r = some (v, h') := by
  cases r with
  | none => cases h
  | some p => exact ⟨p.1, p.2, rfl⟩
theorem Tryz.run178 (c : FuncId) (h : okB (kcall Tryz.kTab.get Tryz.Xn 100 178 [.nilslice, .func c []] .empty) = true) (w : World) (hw : HeldAt w.heap.size w) : Calls Tryz.prog 178 #[.slice none 0 0, .func (.func c) #[] #[]] w fun e w2 => (∃ v, e = .returned v) ∧ RowKit.Below w.heap.size w w2 := by
  obtain ⟨v, h', hr⟩ := okB_some h
  exact (closed_lim Tryz.good Tryz.Xn_ok (kcall_ok Tryz.kTab_ok 100 _ _ _ _ hr) (us := #[.slice none 0 0, .func (.func c) #[] #[]]) ⟨_, _, rfl, rfl, _, _, rfl, ⟨#[], rfl, rfl⟩, rfl⟩ Tryz.func178 (body_of (by kernel_rfl)) w hw).mono fun e w' ⟨v', ι', h1, _, h3⟩ => ⟨⟨_, h1⟩, h3⟩
theorem Tryz.run113 (w : World) (hw : HeldAt w.heap.size w) : Calls Tryz.prog 113 #[.slice none 0 0] w fun e w2 => (∃ v, e = .returned v) ∧ RowKit.Below w.heap.size w w2 := by
  obtain ⟨v, h', hr⟩ := okB_some (show okB (kcall Tryz.kTab.get Tryz.Xn 100 113 [.nilslice] .empty) = true by kernel_rfl)
  exact (closed_lim Tryz.good Tryz.Xn_ok (kcall_ok Tryz.kTab_ok 100 _ _ _ _ hr) (us := #[.slice none 0 0]) ⟨_, _, rfl, rfl, rfl⟩ Tryz.func113 (body_of (by kernel_rfl)) w hw).mono fun e w' ⟨v', ι', h1, _, h3⟩ => ⟨⟨_, h1⟩, h3⟩
theorem Tryz.noVals : NoVals Tryz.prog 153 179 155 where
  enter := enters_of Tryz.func153 (by kernel_rfl) rfl
  full := fun Bm w hB hc hh => Tryz.soE_153_155 179 (enters_of Tryz.func179 (by kernel_rfl) rfl) Bm w
    (fun w' hb => Tryz.seqE_179 Fence.wide 2 trivial rfl Bm w' (Nat.lt_of_lt_of_le hB hb.size) ((hb.cell (p := ⟨Bm, 0, none⟩) hB).trans hc) _)
    (fun w' hb => Tryz.run178 155 (by kernel_rfl) w' (held_below hh hb))
def Tryz.OL : OrL := [(193, xIndex), (99, xSorted 145), (153, xNoVals 179 155)]
def Tryz.X : FuncId → Option (List SV → H → Option (SV × H)) := orGet Tryz.Xn Tryz.OL
theorem Tryz.X_ok : OracleOK Tryz.prog Tryz.X := orGet_ok Tryz.Xn_ok (l := Tryz.OL) ⟨xIndex_ok (fn := Tryz.f193) Tryz.func193 (by kernel_rfl) (show ("internal/bytealg.IndexByteString" : String) ≠ "runtime.NumGoroutine" by decide) (by kernel_rfl) (by kernel_rfl),
  xSorted_ok Tryz.sortsKeys, xNoVals_ok Tryz.noVals held_up, trivial⟩
end
end Go.Proofs
