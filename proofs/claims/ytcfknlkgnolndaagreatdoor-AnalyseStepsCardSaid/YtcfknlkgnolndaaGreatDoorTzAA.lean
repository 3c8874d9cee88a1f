/- The seat's oracles. -/
import Derived.Test.YtcfknlkgnolndaaGreatDoorTzAL
import Derived.Test.YtcfknlkgnolndaaGreatDoorTzAShelf
import Derived.Test.YtcfknlkgnolndaaGreatDoorTzAW
import Derived.Test.YtcfknlkgnolndaaGreatDoorSh18
import Derived.Test.YtcfknlkgnolndaaGreatDoorSh20
import Derived.Lib.LaidTab
set_option linter.unusedVariables false
set_option linter.unusedSimpArgs false
set_option linter.unusedSectionVars false
namespace Go.Proofs
open Go.Sh Go.Shelf Go.RowKit Go.Maps Go.Sort
set_option linter.unusedVariables false
set_option maxRecDepth 100000
noncomputable section
theorem Tryz.good : Go.Sh.Good Tryz.prog := good_of_check Tryz.codeOk (by kernel_rfl) (by kernel_rfl)
@[reducible] def powHeld : Held := ⟨fun w => Lib.TabIs Tryz.prog w "internal/strconv.uint64pow10" .u64 Lib.pow10Tab, 1, fun w w' h1 h2 => by
  unfold Lib.TabIs World.var? at *
  rw [show Tryz.prog.globalNamed "internal/strconv.uint64pow10" = some 0 by kernel_rfl] at *
  simp only [Option.bind_some] at *
  rw [h1 0 (by omega)]
  exact h2⟩
attribute [local instance] powHeld
theorem held_up : ∀ B w, Held.nb ≤ B → HeldAt B w → B ≤ w.heap.size → HeldAt w.heap.size w := fun B w hb hw hle => ⟨Nat.le_trans hb hle, hw.2⟩
theorem held_below {w w' : World} (h : HeldAt w.heap.size w) (b : RowKit.Below w.heap.size w w') : HeldAt w'.heap.size w' :=
  ⟨Nat.le_trans h.1 b.size, Held.keep w w' (fun k hk => b.block k (Nat.lt_of_lt_of_le hk h.1)) h.2⟩
theorem Tryz.itoa_ok : OrOK Tryz.prog (64, xItoa) := by
  intro args h v h' hx B ι w us hs hl
  have hx : xItoa args h = some (v, h') := hx
  unfold xItoa xPure at hx
  split at hx
  · rename_i v0 e
    cases hx
    unfold gDec at e
    split at e
    · rename_i n
      obtain ⟨n0, n1, rfl⟩ := int_range e
      have hu : us = #[.int .i64 n] := by
        obtain ⟨y, r, e1, h1, h2⟩ := hl
        have h1 : y = .int .i64 n := h1
        have h2 : r = [] := h2
        subst h1 h2
        exact Array.toList_inj.1 e1
      subst hu
      refine .inl ⟨enters_of Tryz.func64 (by kernel_rfl) rfl _ _, ?_⟩
      refine (Any.strconv_Itoa Tryz.laysItoa n n0 n1 w hs.held.2).mono fun en w' ⟨e1, k, os, e2⟩ => ?_
      subst e2
      refine ⟨_, e1, ι, ?_, .below hs ⟨rfl, rfl, rfl, ?_, fun b hb => ?_⟩⟩
      · rw [itoaS_eq n0 n1]; rfl
      · simp [«Sort».grow]
      · simp [«Sort».grow, Array.getElem?_append_left, hb]
    · cases e
  · cases hx
theorem Tryz.sorts199 (m : Nat) : AnyZ.SortsIn Tryz.prog Tryz.sorted199_ren Fence.wide m :=
  ⟨fun blk off cap ss W hH hblk hsz => callsIn_wide.2 (AnyM.slices_Sort_string Tryz.sort211 blk off cap ss W hH hblk hsz),
   fun p cap W => callsIn_wide.2 (AnyM.slices_Sort_string_none Tryz.sort211 p cap W)⟩
set_option maxHeartbeats 1000000 in
theorem Tryz.sortsKeys : SortsKeys Tryz.prog 199 262 9 where
  key := Tryz.underlying9
  enter := enters_of Tryz.func199 (by kernel_rfl) rfl
  full := fun Bm b nn D0 R w hB hc hown hmax hby => callsIn_wide.1 (AnyZ.sorted_in Tryz.sorted199 Fence.wide 5 trivial trivial trivial trivial rfl (by omega) (Tryz.sorts199 _) (enters_of Tryz.func211 (by kernel_rfl) rfl) 262 #[.pointer (some ⟨Bm, 0, none⟩)] trivial (enters_of Tryz.func262 (by kernel_rfl) rfl) _ _ hmax hby _
    (AnyZ.keys_gives (ρ := Tryz.keys200_ren) { Tryz.keys200 with } Fence.wide _ trivial rfl (by omega) Bm b nn D0 w hB hc hown))
  nilm := fun Bm w hB hc => (callsIn_wide.1 (AnyZ.sorted_in Tryz.sorted199 Fence.wide 5 trivial trivial trivial trivial rfl (by omega) (Tryz.sorts199 _) (enters_of Tryz.func211 (by kernel_rfl) rfl) 262 #[.pointer (some ⟨Bm, 0, none⟩)] trivial (enters_of Tryz.func262 (by kernel_rfl) rfl) _ 0 (Nat.zero_le _) (by omega) _
    (AnyZ.keys_gives_nil (ρ := Tryz.keys200_ren) { Tryz.keys200 with } Fence.wide _ trivial rfl Bm w hB hc))).mono fun e w' ⟨v, ss, h1, h2, h3, h4, h5⟩ => ⟨by rw [h1, h4.2 h2], h5⟩
def Tryz.Xn (f : FuncId) : Option (List SV → H → Option (SV × H)) := none
theorem Tryz.Xn_ok : OracleOK Tryz.prog Tryz.Xn := fun f g e => by cases e
def okB (r : Option (SV × H)) : Bool := match r with
  | some _ => true
  | none => false
theorem okB_some {r : Option (SV × H)} (h : okB r = true) : ∃ v h', r = some (v, h') := by
  cases r with
  | none => cases h
  | some p => exact ⟨p.1, p.2, rfl⟩
theorem Tryz.run304 (c : FuncId) (h : okB (kcall Tryz.kTab.get Tryz.Xn 100 304 [.nilslice, .func c []] .empty) = true) (w : World) (hw : HeldAt w.heap.size w) : Calls Tryz.prog 304 #[.slice none 0 0, .func (.func c) #[] #[]] w fun e w2 => (∃ v, e = .returned v) ∧ RowKit.Below w.heap.size w w2 := by
  obtain ⟨v, h', hr⟩ := okB_some h
  exact (closed_lim Tryz.good Tryz.Xn_ok (kcall_ok Tryz.kTab_ok 100 _ _ _ _ hr) (us := #[.slice none 0 0, .func (.func c) #[] #[]]) ⟨_, _, rfl, rfl, _, _, rfl, ⟨#[], rfl, rfl⟩, rfl⟩ Tryz.func304 (body_of (by kernel_rfl)) w hw).mono fun e w' ⟨v', ι', h1, _, h3⟩ => ⟨⟨_, h1⟩, h3⟩
theorem Tryz.run211 (w : World) (hw : HeldAt w.heap.size w) : Calls Tryz.prog 211 #[.slice none 0 0] w fun e w2 => (∃ v, e = .returned v) ∧ RowKit.Below w.heap.size w w2 := by
  obtain ⟨v, h', hr⟩ := okB_some (show okB (kcall Tryz.kTab.get Tryz.Xn 100 211 [.nilslice] .empty) = true by kernel_rfl)
  exact (closed_lim Tryz.good Tryz.Xn_ok (kcall_ok Tryz.kTab_ok 100 _ _ _ _ hr) (us := #[.slice none 0 0]) ⟨_, _, rfl, rfl, rfl⟩ Tryz.func211 (body_of (by kernel_rfl)) w hw).mono fun e w' ⟨v', ι', h1, _, h3⟩ => ⟨⟨_, h1⟩, h3⟩
theorem Tryz.noKeys : NoKeys Tryz.prog 266 344 283 where
  enter := enters_of Tryz.func266 (by kernel_rfl) rfl
  full := fun Bm mb w hB hc he hh => Tryz.soE_266_283 344 (enters_of Tryz.func344 (by kernel_rfl) rfl) Bm w
    (fun w' hb => Tryz.seqE_344 Fence.wide 2 trivial rfl Bm mb w' (Nat.lt_of_lt_of_le hB hb.size) ((hb.cell (p := ⟨Bm, 0, none⟩) hB).trans hc) (fun b e => by
      obtain ⟨c, h⟩ := he b e
      exact ⟨c, (hb.block b (Array.getElem?_eq_some_iff.1 h).1).trans h⟩) _)
    (fun w' hb => Tryz.run304 283 (by kernel_rfl) w' (held_below hh hb))
theorem Tryz.noVals : NoVals Tryz.prog 266 305 268 where
  enter := enters_of Tryz.func266 (by kernel_rfl) rfl
  full := fun Bm w hB hc hh => Tryz.soE_266_268 305 (enters_of Tryz.func305 (by kernel_rfl) rfl) Bm w
    (fun w' hb => Tryz.seqE_305 Fence.wide 2 trivial rfl Bm w' (Nat.lt_of_lt_of_le hB hb.size) ((hb.cell (p := ⟨Bm, 0, none⟩) hB).trans hc) _)
    (fun w' hb => Tryz.run304 268 (by kernel_rfl) w' (held_below hh hb))
theorem Tryz.noKeys1 : NoKeys1 Tryz.prog 199 341 where
  enter := enters_of Tryz.func199 (by kernel_rfl) rfl
  full := fun Bm mb w hB hc he hh => Tryz.soE_199 341 (enters_of Tryz.func341 (by kernel_rfl) rfl) Bm w
    (fun w' hb => Tryz.seqE_341 Fence.wide 2 trivial rfl Bm mb w' (Nat.lt_of_lt_of_le hB hb.size) ((hb.cell (p := ⟨Bm, 0, none⟩) hB).trans hc) (fun b e => by
      obtain ⟨c, h⟩ := he b e
      exact ⟨c, (hb.block b (Array.getElem?_eq_some_iff.1 h).1).trans h⟩) _)
    (fun w' hb => Tryz.run211 w' (held_below hh hb))
def Tryz.OL : OrL := [(64, xItoa), (354, xIndex), (199, xOr (xSorted 262) (xNoKeys1 341)), (266, xOr (xNoKeys 344 283) (xNoVals 305 268))]
def Tryz.X : FuncId → Option (List SV → H → Option (SV × H)) := orGet Tryz.Xn Tryz.OL
theorem Tryz.X_ok : OracleOK Tryz.prog Tryz.X := orGet_ok Tryz.Xn_ok (l := Tryz.OL) ⟨Tryz.itoa_ok,
  xIndex_ok (fn := Tryz.f354) Tryz.func354 (by kernel_rfl) (show ("internal/bytealg.IndexByteString" : String) ≠ "runtime.NumGoroutine" by decide) (by kernel_rfl) (by kernel_rfl),
  xOr_ok (xSorted_ok Tryz.sortsKeys) (xNoKeys1_ok Tryz.noKeys1 held_up), xOr_ok (xNoKeys_ok Tryz.noKeys held_up) (xNoVals_ok Tryz.noVals held_up), trivial⟩
end
end Go.Proofs
