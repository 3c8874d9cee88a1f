/- LadderForms: the seat's oracles are sound; awake. -/
import Derived.Test.YtpjpiigachahkaaGreatDoorTwNC
import Derived.Test.YtpjpiigachahkaaGreatDoorTwAShelf
import Derived.Test.YtpjpiigachahkaaGreatDoorTwAW
import Derived.Test.YtpjpiigachahkaaGreatDoorSh20
import Derived.Test.YtpjpiigachahkaaGreatDoorChecked
set_option linter.unusedVariables false
set_option linter.unusedSimpArgs false
set_option linter.unusedSectionVars false
namespace Go.Proofs
open Go.Sh Go.Shelf Go.RowKit Go.Maps Go.Sort
set_option maxRecDepth 100000
attribute [local instance] powHeld
noncomputable section
theorem Tryz.good:Go.Sh.Good Tryz.prog:=good_of_check Tryz.codeOk (by kernel_rfl) (by kernel_rfl)
theorem held_up:∀ B w,Held.nb≤B→HeldAt B w→B≤w.heap.size→HeldAt w.heap.size w:=λ B w hb hw hle=>⟨Nat.le_trans hb hle,hw.2⟩
theorem held_below {w w':World} (h:HeldAt w.heap.size w) (b:RowKit.Below w.heap.size w w'):HeldAt w'.heap.size w':=
  ⟨Nat.le_trans h.1 b.size,Held.keep w w' (λ k hk=>b.block k (Nat.lt_of_lt_of_le hk h.1)) h.2⟩
theorem Tryz.sorts149 (m:Nat):AnyZ.SortsIn Tryz.prog Tryz.sorted149_ren Fence.wide m:=
  ⟨λ blk off cap ss W hH hblk hsz=>callsIn_wide.2 (AnyM.slices_Sort_string Tryz.sort205 blk off cap ss W hH hblk hsz),
   λ p cap W=>callsIn_wide.2 (AnyM.slices_Sort_string_none Tryz.sort205 p cap W)⟩
set_option maxHeartbeats 1000000 in
theorem Tryz.sortsKeys:SortsKeys Tryz.prog 149 206 9 where
  key:=Tryz.underlying9
  enter:=enters_of Tryz.func149 (by kernel_rfl) rfl
  full:=λ Bm b nn D0 R w hB hc hown hmax hby=>callsIn_wide.1 (AnyZ.sorted_in Tryz.sorted149 Fence.wide 5 trivial trivial trivial trivial rfl (by omega) (Tryz.sorts149 _) (enters_of Tryz.func205 (by kernel_rfl) rfl) 206 #[.pointer (some ⟨Bm,0,none⟩)] trivial (enters_of Tryz.func206 (by kernel_rfl) rfl) _ _ hmax hby _
    (AnyZ.keys_gives (ρ:=Tryz.keys150_ren) { Tryz.keys150 with } Fence.wide _ trivial rfl (by omega) Bm b nn D0 w hB hc hown))
  nilm:=λ Bm w hB hc=>(callsIn_wide.1 (AnyZ.sorted_in Tryz.sorted149 Fence.wide 5 trivial trivial trivial trivial rfl (by omega) (Tryz.sorts149 _) (enters_of Tryz.func205 (by kernel_rfl) rfl) 206 #[.pointer (some ⟨Bm,0,none⟩)] trivial (enters_of Tryz.func206 (by kernel_rfl) rfl) _ 0 (Nat.zero_le _) (by omega) _
    (AnyZ.keys_gives_nil (ρ:=Tryz.keys150_ren) { Tryz.keys150 with } Fence.wide _ trivial rfl Bm w hB hc))).mono λ e w' ⟨v,ss,h1,h2,h3,h4,h5⟩=>⟨by rw [h1,h4.2 h2],h5⟩
set_option maxHeartbeats 1000000 in
theorem Tryz.sortsKeys2:SortsKeys Tryz.prog 149 219 9 where
  key:=Tryz.underlying9
  enter:=enters_of Tryz.func149 (by kernel_rfl) rfl
  full:=λ Bm b nn D0 R w hB hc hown hmax hby=>callsIn_wide.1 (AnyZ.sorted_in Tryz.sorted149 Fence.wide 5 trivial trivial trivial trivial rfl (by omega) (Tryz.sorts149 _) (enters_of Tryz.func205 (by kernel_rfl) rfl) 219 #[.pointer (some ⟨Bm,0,none⟩)] trivial (enters_of Tryz.func219 (by kernel_rfl) rfl) _ _ hmax hby _
    (AnyZ.keys_gives (ρ:=Tryz.keys152_ren) { Tryz.keys152 with } Fence.wide _ trivial rfl (by omega) Bm b nn D0 w hB hc hown))
  nilm:=λ Bm w hB hc=>(callsIn_wide.1 (AnyZ.sorted_in Tryz.sorted149 Fence.wide 5 trivial trivial trivial trivial rfl (by omega) (Tryz.sorts149 _) (enters_of Tryz.func205 (by kernel_rfl) rfl) 219 #[.pointer (some ⟨Bm,0,none⟩)] trivial (enters_of Tryz.func219 (by kernel_rfl) rfl) _ 0 (Nat.zero_le _) (by omega) _
    (AnyZ.keys_gives_nil (ρ:=Tryz.keys152_ren) { Tryz.keys152 with } Fence.wide _ trivial rfl Bm w hB hc))).mono λ e w' ⟨v,ss,h1,h2,h3,h4,h5⟩=>⟨by rw [h1,h4.2 h2],h5⟩
theorem Tryz.Xn_ok:OracleOK Tryz.prog Tryz.Xn:=λ f g e=>by cases e
def okB (r:Option (SV × H)):Bool:=match r with
  | some _=>true
  | none=>false
theorem okB_some {r:Option (SV × H)} (h:okB r=true):∃ v h',r=some (v,h'):=by
  cases r with
  | none=>cases h
  | some p=>exact ⟨p.1,p.2,rfl⟩
theorem Tryz.run223 (c:FuncId) (h:okB (kcall Tryz.kTab.get Tryz.Xn 100 223 [.nilslice,.func c []] .empty)=true) (w:World) (hw:HeldAt w.heap.size w):Calls Tryz.prog 223 #[.slice none 0 0,.func (.func c) #[] #[]] w λ e w2=>(∃ v,e=.returned v)∧RowKit.Below w.heap.size w w2:=by
  obtain ⟨v,h',hr⟩:=okB_some h
  exact (closed_lim Tryz.good Tryz.Xn_ok (kcall_ok Tryz.kTab_ok 100 _ _ _ _ hr) (us:=#[.slice none 0 0,.func (.func c) #[] #[]]) ⟨_,_,rfl,rfl,_,_,rfl,⟨#[],rfl,rfl⟩,rfl⟩ Tryz.func223 (body_of (by kernel_rfl)) w hw).mono λ e w' ⟨v',ι',h1,_,h3⟩=>⟨⟨_,h1⟩,h3⟩
theorem Tryz.noKeys:NoKeys Tryz.prog 154 224 156 where
  enter:=enters_of Tryz.func154 (by kernel_rfl) rfl
  full:=λ Bm mb w hB hc he hh=>Tryz.soE_154_156 224 (enters_of Tryz.func224 (by kernel_rfl) rfl) Bm w
    (λ w' hb=>Tryz.seqE_224 Fence.wide 2 trivial rfl Bm mb w' (Nat.lt_of_lt_of_le hB hb.size) ((hb.cell (p:=⟨Bm,0,none⟩) hB).trans hc) (λ b e=>by
      obtain ⟨c,h⟩:=he b e
      exact ⟨c,(hb.block b (Array.getElem?_eq_some_iff.1 h).1).trans h⟩) _)
    (λ w' hb=>Tryz.run223 156 (by kernel_rfl) w' (held_below hh hb))
theorem Tryz.Xa_ok:OracleOK Tryz.prog Tryz.Xa:=orGet_ok Tryz.Xn_ok (l:=Tryz.OLa) ⟨
  xIndex_ok (fn := Tryz.f244) Tryz.func244 (by kernel_rfl) (show ("internal/bytealg.IndexByteString" : String) ≠ "runtime.NumGoroutine" by decide) (by kernel_rfl) (by kernel_rfl),
  xOr_ok (xSorted_ok Tryz.sortsKeys) (xSorted_ok Tryz.sortsKeys2),xNoKeys_ok Tryz.noKeys held_up,trivial⟩
theorem Tryz.awake_or:OrOK Tryz.prog (13,xBool true):=by
  have h1:=Tryz.awakeRun
  cases h2:kcall Tryz.kTab.get Tryz.Xa 200000 13 [] .empty with
  | none=>rw [h2] at h1;cases h1
  | some r=>
    rw [h2] at h1
    obtain ⟨v,h'⟩:=r
    cases h1
    exact xBool_ok Tryz.good Tryz.Xa_ok (kcall_ok Tryz.kTab_ok 200000 _ _ _ _ h2) Tryz.func13 (body_of (by kernel_rfl)) held_up
theorem Tryz.X_ok:OracleOK Tryz.prog Tryz.X:=orGet_ok Tryz.Xn_ok (l:=Tryz.OL) trivial
theorem Tryz.X2_ok:OracleOK Tryz.prog Tryz.X2:=orGet_ok Tryz.X_ok (l:=Tryz.OL2) ⟨Tryz.awake_or,trivial⟩
end
end Go.Proofs
