/- General laws of the proof: a shadow machine of the form, its soundness, and a compiled form of it. -/
import Derived.Test.YtpjpiigachahkaaGreatDoorSh10
import Derived.Shelf.Strings.OnBuilder
set_option linter.unusedVariables false
set_option linter.unusedSimpArgs false
set_option linter.unusedSectionVars false
section
/- The shadow machine: oracles: strings.Join. -/
namespace Go.Sh
open Go.Shelf Go.Proofs
section
variable [Held] {P:Program} {ρ:Ren}
def strsOf:List SV→Option (List (List UInt8))
 | []=>some []
 | .str s::l=>match strsOf l with
  | some r=>some (s::r)
  | none=>none
 | _=>none
noncomputable def xJoin:List SV→H→Option (SV × H)
 | [.nilslice,.str _],h=>some (.str [],h)
 | [.slice id off len _ _,.str sep],h=>match rowCells h.get id with
  | some cs=>match takeCells cs off len with
   | some l=>match strsOf l with
    | some xs=>if len≤140737488355328∧(Lib.join xs sep).length≤140737488355328 then some (.str (Lib.join xs sep),h) else none
    | none=>none
   | none=>none
  | none=>none
 | _,_=>none
theorem strsOf_rel {ι:Inj}:∀ {l:List SV} {xs:List (List UInt8)} {vs:List Value},strsOf l=some xs→LRel ι l vs→vs=xs.map λ s=>.string ⟨⟨s⟩⟩
 | [],xs,vs,e,h=>by simp only [strsOf,Option.some.injEq] at e;subst e;cases h;rfl
 | x::l,xs,vs,e,h=>by
  cases x <;> simp only [strsOf,reduceCtorEq] at e
  rename_i s
  split at e <;> simp only [Option.some.injEq,reduceCtorEq] at e
  rename_i r hr
  subst e
  obtain ⟨v,vs',rfl,hv,hl⟩:=h
  simp only [VRel] at hv
  rw [hv,strsOf_rel hr hl];rfl
theorem enter_of {f : FuncId} {fn : Func} {c : Code} (hf : P.funcs[f]? = some fn) (hb : fn.body = some c) (hn : fn.name ≠ "runtime.NumGoroutine") (us : Array Value) (w : World) : (callFunc f us).run P w = .ok (.enter f us) w := by
 unfold callFunc
 simp [hf,hb,hn]
theorem xJoin_ok (L:Lays.n156 P ρ) (X:Builder.Extra P ρ) :
  ∀ args h v h',xJoin args h=some (v,h')→∀ B ι w (us:Array Value),St B ι h w→LRel ι args us.toList→Answers P (ρ.f 156) us w λ v' w'=>∃ ι',VRel ι' v v'∧Moves B ι h w ι' h' w':=by
 intro args h v h' hx B ι w us hs hl
 have en : ∀ args w, (callFunc (ρ.f 156) args).run P w = .ok (.enter (ρ.f 156) args) w := enter_of L.f156 rfl (show ("strings.Join" : String) ≠ "runtime.NumGoroutine" by decide)
 unfold xJoin at hx
 split at hx
 ·simp only [Option.some.injEq,Prod.mk.injEq] at hx
  obtain ⟨rfl,rfl⟩:=hx
  rename_i sep
  obtain ⟨a,r,e1,ha,b,r',e2,hb',e3⟩:=hl
  simp only [VRel] at ha hb'
  have hus:us=#[.slice none 0 0,.string ⟨⟨sep⟩⟩]:=by
   apply Array.ext'
   rw [e1,e2,ha,hb',e3]
  subst hus
  refine .inl ⟨en _ _,(Any.strings_Join_none L X none 0 ⟨⟨sep⟩⟩ w).mono λ e w' ⟨h1,h2⟩=>?_⟩
  subst h2
  exact ⟨_,h1,ι,rfl,.refl hs⟩
 ·rename_i id off len es cap sep
  split at hx
  ·rename_i cs hc
   split at hx
   ·rename_i l hk
    split at hx
    ·rename_i xs hxs
     split at hx <;> simp only [Option.some.injEq,Prod.mk.injEq,reduceCtorEq] at hx
     rename_i hb
     obtain ⟨hb1,hb2⟩:=hb
     obtain ⟨rfl,rfl⟩:=hx
     obtain ⟨a,r,e1,ha,b,r',e2,hb',e3⟩:=hl
     obtain ⟨bk,o,s,c,hi,_,hlc,_,hv⟩:=ha
     simp only [VRel] at hb'
     have hus:us=#[a,.string ⟨⟨sep⟩⟩]:=by
      apply Array.ext'
      rw [e1,e2,hb',e3]
     obtain ⟨hle,rfl⟩:=takeCells_some hk
     obtain ⟨vs,hl',hall,hle',hcell⟩:=row_real hs.sim hi hc
     have hstr:=strsOf_rel hxs ((hl'.drop off).take len)
     have hvl:=hl'.length
     have hxl:xs.length=len:=by
      have:=congrArg List.length hstr
      simp at this;omega
     rcases hv with hv | ⟨h1,h2,a',hv⟩
     ·have hj:=Any.strings_Join L X bk (o+off) c (xs.map λ s=>⟨⟨s⟩⟩) ⟨⟨sep⟩⟩ w (λ j x hx=>by
       rw [List.getElem?_map,Option.map_eq_some_iff] at hx
       obtain ⟨y,hy,rfl⟩:=hx
       have hj:j < len:=by
        have:=(List.getElem?_eq_some_iff.1 hy).1
        omega
       have h3:((vs.drop off).take len)[j]?=some (.string ⟨⟨y⟩⟩):=by rw [hstr,List.getElem?_map,hy];rfl
       rw [List.getElem?_take_of_lt hj,List.getElem?_drop] at h3
       have:=hcell _ _ h3
       rw [← Nat.add_assoc] at this
       exact this) (hs.sim.size hi) (by simp;omega) (by simp;omega) (by simpa [Function.comp_def] using hb2)
      rw [hus,hv]
      simp only [List.length_map,hxl] at hj
      refine .inl ⟨en _ _,hj.mono λ e w' ⟨h1,h2⟩=>⟨_,h1,ι,?_,.below hs h2⟩⟩
      simp [VRel,Function.comp_def]
     ·subst h1
      have hx0:xs=[]:=List.eq_nil_of_length_eq_zero hxl
      subst hx0
      rw [hus,hv]
      refine .inl ⟨en _ _,(Any.strings_Join_none L X (some a') 0 ⟨⟨sep⟩⟩ w).mono λ e w' ⟨h1,h2⟩=>?_⟩
      subst h2
      exact ⟨_,h1,ι,rfl,.refl hs⟩
    ·simp at hx
   ·simp at hx
  ·simp at hx
 ·simp at hx
end
end Go.Sh
end
