/- General laws of the proof: a shadow machine of the form, its soundness, and a compiled form of it. -/
import Derived.Test.YtpjpiigachahkaaGreatDoorSh19
import Derived.Test.YtpjpiigachahkaaGreatDoorSh16
set_option linter.unusedVariables false
set_option linter.unusedSimpArgs false
set_option linter.unusedSectionVars false
section
/- The shadow machine: oracles: slices.SortedFunc of the keys of a map that has none, or of the values of nothing. -/
namespace Go.Sh
open Go.Proofs Go.RowKit
section
variable [Held] {P:Program} {fs fk fc:FuncId}
structure NoKeys [Held] (P:Program) (fs fk fc:FuncId):Prop where
 enter:∀ us w,(callFunc fs us).run P w=.ok (.enter fs us) w
 full:∀ (Bm:Nat) (mb:Option Nat) (w:World),Bm < w.heap.size→w.cell? ⟨Bm,0,none⟩=some (.map mb)→(∀ b,mb=some b→∃ c,w.heap[b]?=some (.map #[] c))→HeldAt w.heap.size w →
  Calls P fs #[.func (.func fk) #[] #[.pointer (some ⟨Bm,0,none⟩)],.func (.func fc) #[] #[]] w λ e w'=>e=.returned (.slice none 0 0)∧RowKit.Below w.heap.size w w'
noncomputable def xNoKeys (fk fc:FuncId):List SV→H→Option (SV × H)
 | [.func f [.ptr b 0],.func c []],h=>bB (Nat.beq f fk&&Nat.beq c fc) (match h.get b with
  | some (.cells [.map id] .fixed)=>(match h.get id with
   | some (.map [] _)=>some (.nilslice,h)
   | _=>none)
  | some (.cells [.nilmap] .fixed)=>some (.nilslice,h)
  | _=>none) none
 | _,_=>none
theorem xNoKeys_ok (S:NoKeys P fs fk fc) (hw:∀ B w,Held.nb≤B→HeldAt B w→B≤w.heap.size→HeldAt w.heap.size w) :
  ∀ args h v h',xNoKeys fk fc args h=some (v,h')→∀ B ι w (us:Array Value),St B ι h w→LRel ι args us.toList→Answers P fs us w λ v' w'=>∃ ι',VRel ι' v v'∧Moves B ι h w ι' h' w':=by
 intro args h v h' hx B ι w us hs hl
 unfold xNoKeys at hx
 split at hx
 ·rename_i f b c
  obtain ⟨hf,hx1⟩:=bB_some hx
  clear hx
  have hx:=hx1
  clear hx1
  rw [Bool.and_eq_true] at hf
  have hf1:=Nat.eq_of_beq_eq_true hf.1
  have hf2:=Nat.eq_of_beq_eq_true hf.2
  subst hf1 hf2
  obtain ⟨u,r,e1,⟨vs,hu,x,r',e2,⟨bb,o,s,hb,hxv⟩,e3⟩,u2,r2,e4,⟨vs2,hu2,e5⟩,e6⟩:=hl
  have hvs:vs=#[x]:=by apply Array.ext';rw [e2,e3]
  have hvs2:vs2=#[]:=by apply Array.ext';exact e5
  subst hvs hvs2
  have hus:us=#[u,u2]:=by apply Array.ext';rw [e1,e4,e6]
  subst hus hu hu2 hxv
  have box:∀ c,h.get b=some (.cells [c] .fixed)→∃ y,o=0∧w.cell? ⟨bb,0,none⟩=some y∧VRel ι c y:=by
   intro c hc
   obtain ⟨rc,el,fz,c1,c2,c3,c4,c5,c6,c7⟩:=cells_real hs.sim hb hc (by simp)
   obtain ⟨ho,_,_⟩:=c7 rfl
   subst ho
   obtain ⟨vs,hl',hall,hle',hcell⟩:=row_real hs.sim hb (show rowCells h.get b=some [c] by simp [rowCells,hc])
   obtain ⟨y,r,e,hy,_⟩:=hl'
   refine ⟨y,rfl,?_,hy⟩
   have:=hcell 0 y (by rw [e];rfl)
   simpa using this
  have hbs:=hs.sim.size hb
  have hh:=hw B w hs.held.1 hs.held hs.base
  split at hx
  ·rename_i id hc
   obtain ⟨y,ho,hcell,mb,o2,s2,hid,hy⟩:=box _ hc
   subst ho hy
   split at hx
   ·rename_i cl hm
    cases hx
    obtain ⟨es',hh',her⟩:=map_real hs.sim hid hm
    have:es'=#[]:=by apply Array.ext';exact her
    subst this
    exact .inl ⟨S.enter _ _,(S.full bb (some mb) w hbs hcell (λ b e=>by cases e;exact ⟨_,hh'⟩) hh).mono λ e w' ⟨h1,h2⟩=>⟨_,h1,ι,rfl,.below hs h2⟩⟩
   ·cases hx
  ·rename_i hc
   obtain ⟨y,ho,hcell,hy⟩:=box _ hc
   subst ho
   have hy:y=.map none:=hy
   subst hy
   cases hx
   exact .inl ⟨S.enter _ _,(S.full bb none w hbs hcell (λ b e=>by cases e) hh).mono λ e w' ⟨h1,h2⟩=>⟨_,h1,ι,rfl,.below hs h2⟩⟩
  ·cases hx
 ·cases hx
structure NoVals [Held] (P:Program) (fs fk fc:FuncId):Prop where
 enter:∀ us w,(callFunc fs us).run P w=.ok (.enter fs us) w
 full:∀ (Bm:Nat) (w:World),Bm < w.heap.size→w.cell? ⟨Bm,0,none⟩=some (.slice none 0 0)→HeldAt w.heap.size w →
  Calls P fs #[.func (.func fk) #[] #[.pointer (some ⟨Bm,0,none⟩)],.func (.func fc) #[] #[]] w λ e w'=>e=.returned (.slice none 0 0)∧RowKit.Below w.heap.size w w'
noncomputable def xNoVals (fk fc:FuncId):List SV→H→Option (SV × H)
 | [.func f [.ptr b 0],.func c []],h=>bB (Nat.beq f fk&&Nat.beq c fc) (match h.get b with
  | some (.cells [.nilslice] .fixed)=>some (.nilslice,h)
  | _=>none) none
 | _,_=>none
theorem xNoVals_ok (S:NoVals P fs fk fc) (hw:∀ B w,Held.nb≤B→HeldAt B w→B≤w.heap.size→HeldAt w.heap.size w) :
  ∀ args h v h',xNoVals fk fc args h=some (v,h')→∀ B ι w (us:Array Value),St B ι h w→LRel ι args us.toList→Answers P fs us w λ v' w'=>∃ ι',VRel ι' v v'∧Moves B ι h w ι' h' w':=by
 intro args h v h' hx B ι w us hs hl
 unfold xNoVals at hx
 split at hx
 ·rename_i f b c
  obtain ⟨hf,hx1⟩:=bB_some hx
  clear hx
  have hx:=hx1
  clear hx1
  rw [Bool.and_eq_true] at hf
  have hf1:=Nat.eq_of_beq_eq_true hf.1
  have hf2:=Nat.eq_of_beq_eq_true hf.2
  subst hf1 hf2
  obtain ⟨u,r,e1,⟨vs,hu,x,r',e2,⟨bb,o,s,hb,hxv⟩,e3⟩,u2,r2,e4,⟨vs2,hu2,e5⟩,e6⟩:=hl
  have hvs:vs=#[x]:=by apply Array.ext';rw [e2,e3]
  have hvs2:vs2=#[]:=by apply Array.ext';exact e5
  subst hvs hvs2
  have hus:us=#[u,u2]:=by apply Array.ext';rw [e1,e4,e6]
  subst hus hu hu2 hxv
  have box:∀ c,h.get b=some (.cells [c] .fixed)→∃ y,o=0∧w.cell? ⟨bb,0,none⟩=some y∧VRel ι c y:=by
   intro c hc
   obtain ⟨rc,el,fz,c1,c2,c3,c4,c5,c6,c7⟩:=cells_real hs.sim hb hc (by simp)
   obtain ⟨ho,_,_⟩:=c7 rfl
   subst ho
   obtain ⟨vs,hl',hall,hle',hcell⟩:=row_real hs.sim hb (show rowCells h.get b=some [c] by simp [rowCells,hc])
   obtain ⟨y,r,e,hy,_⟩:=hl'
   refine ⟨y,rfl,?_,hy⟩
   have:=hcell 0 y (by rw [e];rfl)
   simpa using this
  have hbs:=hs.sim.size hb
  have hh:=hw B w hs.held.1 hs.held hs.base
  split at hx
  ·rename_i hc
   obtain ⟨y,ho,hcell,hy⟩:=box _ hc
   subst ho
   have hy:y=.slice none 0 0:=hy
   subst hy
   cases hx
   exact .inl ⟨S.enter _ _,(S.full bb w hbs hcell hh).mono λ e w' ⟨h1,h2⟩=>⟨_,h1,ι,rfl,.below hs h2⟩⟩
  ·cases hx
 ·cases hx
structure NoKeys1 [Held] (P:Program) (fs fk:FuncId):Prop where
 enter:∀ us w,(callFunc fs us).run P w=.ok (.enter fs us) w
 full:∀ (Bm:Nat) (mb:Option Nat) (w:World),Bm < w.heap.size→w.cell? ⟨Bm,0,none⟩=some (.map mb)→(∀ b,mb=some b→∃ c,w.heap[b]?=some (.map #[] c))→HeldAt w.heap.size w →
  Calls P fs #[.func (.func fk) #[] #[.pointer (some ⟨Bm,0,none⟩)]] w λ e w'=>e=.returned (.slice none 0 0)∧RowKit.Below w.heap.size w w'
noncomputable def xNoKeys1 (fk:FuncId):List SV→H→Option (SV × H)
 | [.func f [.ptr b 0]],h=>bB (Nat.beq f fk) (match h.get b with
  | some (.cells [.map id] .fixed)=>(match h.get id with
   | some (.map [] _)=>some (.nilslice,h)
   | _=>none)
  | some (.cells [.nilmap] .fixed)=>some (.nilslice,h)
  | _=>none) none
 | _,_=>none
theorem xNoKeys1_ok (S:NoKeys1 P fs fk) (hw:∀ B w,Held.nb≤B→HeldAt B w→B≤w.heap.size→HeldAt w.heap.size w) :
  ∀ args h v h',xNoKeys1 fk args h=some (v,h')→∀ B ι w (us:Array Value),St B ι h w→LRel ι args us.toList→Answers P fs us w λ v' w'=>∃ ι',VRel ι' v v'∧Moves B ι h w ι' h' w':=by
 intro args h v h' hx B ι w us hs hl
 unfold xNoKeys1 at hx
 split at hx
 ·rename_i f b
  obtain ⟨hf,hx1⟩:=bB_some hx
  clear hx
  have hx:=hx1
  clear hx1
  have hf1:=Nat.eq_of_beq_eq_true hf
  subst hf1
  obtain ⟨u,r,e1,⟨vs,hu,x,r',e2,⟨bb,o,s,hb,hxv⟩,e3⟩,e4⟩:=hl
  have hvs:vs=#[x]:=by apply Array.ext';rw [e2,e3]
  subst hvs
  have hus:us=#[u]:=by apply Array.ext';rw [e1,e4]
  subst hus hu hxv
  have box:∀ c,h.get b=some (.cells [c] .fixed)→∃ y,o=0∧w.cell? ⟨bb,0,none⟩=some y∧VRel ι c y:=by
   intro c hc
   obtain ⟨rc,el,fz,c1,c2,c3,c4,c5,c6,c7⟩:=cells_real hs.sim hb hc (by simp)
   obtain ⟨ho,_,_⟩:=c7 rfl
   subst ho
   obtain ⟨vs,hl',hall,hle',hcell⟩:=row_real hs.sim hb (show rowCells h.get b=some [c] by simp [rowCells,hc])
   obtain ⟨y,r,e,hy,_⟩:=hl'
   refine ⟨y,rfl,?_,hy⟩
   have:=hcell 0 y (by rw [e];rfl)
   simpa using this
  have hbs:=hs.sim.size hb
  have hh:=hw B w hs.held.1 hs.held hs.base
  split at hx
  ·rename_i id hc
   obtain ⟨y,ho,hcell,mb,o2,s2,hid,hy⟩:=box _ hc
   subst ho hy
   split at hx
   ·rename_i cl hm
    cases hx
    obtain ⟨es',hh',her⟩:=map_real hs.sim hid hm
    have:es'=#[]:=by apply Array.ext';exact her
    subst this
    exact .inl ⟨S.enter _ _,(S.full bb (some mb) w hbs hcell (λ b e=>by cases e;exact ⟨_,hh'⟩) hh).mono λ e w' ⟨h1,h2⟩=>⟨_,h1,ι,rfl,.below hs h2⟩⟩
   ·cases hx
  ·rename_i hc
   obtain ⟨y,ho,hcell,hy⟩:=box _ hc
   subst ho
   have hy:y=.map none:=hy
   subst hy
   cases hx
   exact .inl ⟨S.enter _ _,(S.full bb none w hbs hcell (λ b e=>by cases e) hh).mono λ e w' ⟨h1,h2⟩=>⟨_,h1,ι,rfl,.below hs h2⟩⟩
  ·cases hx
 ·cases hx
noncomputable def xOr (g1 g2:List SV→H→Option (SV × H)):List SV→H→Option (SV × H):=λ args h=>match g1 args h with
 | some r=>some r
 | none=>g2 args h
theorem xOr_ok {f:FuncId} {g1 g2:List SV→H→Option (SV × H)} (h1:OrOK P (f,g1)) (h2:OrOK P (f,g2)):OrOK P (f,xOr g1 g2):=λ args h v h' q=>by
 have q:xOr g1 g2 args h=some (v,h'):=q
 unfold xOr at q
 split at q
 ·rename_i r hr
  cases q
  exact h1 args h v h' hr
 ·exact h2 args h v h' q
end
end Go.Sh
end
