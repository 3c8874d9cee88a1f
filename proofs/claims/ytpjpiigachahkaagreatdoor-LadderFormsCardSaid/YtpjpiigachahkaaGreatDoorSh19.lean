/- General laws of the proof: a shadow machine of the form, its soundness, and a compiled form of it. -/
import Derived.Test.YtpjpiigachahkaaGreatDoorSh10
import Derived.Test.YtpjpiigachahkaaGreatDoorSh8
import Derived.Shelf.SlIter.Nil
import Derived.Shelf.SortM.Plain
import Derived.Shelf.SortM.SortNone
import Derived.Lib.MinMaxS
set_option linter.unusedVariables false
set_option linter.unusedSimpArgs false
set_option linter.unusedSectionVars false
section
/- The shadow machine: oracles: slices.Sorted of what maps.Keys handed back, the keys of a string's kind. -/
namespace Go.Sh
open Go.Proofs Go.RowKit Go.Maps Go.Sort Go.Shelf
section
variable [Held] {P:Program} {B:Nat} {ι:Inj} {h:H} {w w':World}
theorem Moves.row (hs:St B ι h w) (hb:RowKit.Below w.heap.size w w') {g:Nat} {cur:Array Value} {ty:TypeId} (hg:w.heap.size≤g) (hc:w'.heap[g]?=some (.cells cur ty (0,0))) {cs:List SV} (hl:LRel ι cs (cur.toList.take cs.length)) (ha:cs.all SV.isCell=true) (hlen:cs.length≤cur.size) :
  Moves B ι h w (upd ι h.next (g,0,cur.size)) (h.push (.cells cs (.grown none))) w':=by
 have hi:ι h.next=none:=fresh_none hs.fresh (Nat.le_refl _)
 have hle:ι.le (upd ι h.next (g,0,cur.size)):=upd_le hi
 have hgl:g < w'.heap.size:=(Array.getElem?_eq_some_iff.1 hc).1
 have old:∀ k x,k≠h.next→upd ι h.next (g,0,cur.size) k=some x→ι k=some x:=λ k x hk h=>by simpa [upd,hk] using h
 have here:∀ x,upd ι h.next (g,0,cur.size) h.next=some x→x=(g,0,cur.size):=λ x h=>by simpa using h.symm
 have hget:∀ k,(h.push (.cells cs (.grown none))).get k=if k=h.next then some (.cells cs (.grown none)) else h.get k:=λ k=>H.get_push _ _ _
 have hother:∀ k,k≠h.next→(h.push (.cells cs (.grown none))).get k=h.get k:=λ k hk=>by rw [hget,if_neg hk]
 refine .of hs ⟨λ k b o s hk=>?_,λ k x p cs' m hk hgk hp=>?_,λ i j oi oj bi bj si sj obi obj hne hi' hj' hb' hgi hgj hdi hdj=>?_⟩ (λ k x hk=>?_) (Nat.le_trans hs.base hb.size) ?_ low_push
 ·by_cases e:k=h.next
  ·subst e
   have:=here _ hk;cases this
   refine ⟨.cells cs (.grown none),by rw [hget,if_pos rfl],.inr ⟨cur,ty,(0,0),hc,rfl,by omega,?_,ha,λ _ j _=>by simp,λ e=>by simp at e⟩,hgl,λ _=>Nat.le_trans hs.base hg⟩
   simpa using hl.mono hle
  ·have hk':=old k _ e hk
   obtain ⟨ob1,h1,h2,h3,h4⟩:=hs.sim.obj _ _ _ _ hk'
   exact ⟨ob1,(hother k e).trans h1,h2.mono hle (hb.block b h3),Nat.lt_of_lt_of_le h3 hb.size,h4⟩
 ·by_cases e:k=h.next
  ·subst e
   rw [hget,if_pos rfl] at hgk;cases hgk
   simp [Mode.par] at hp
  ·have hk':=old k _ e hk
   rw [hother k e] at hgk
   obtain ⟨h1,h2⟩:=hs.sim.par _ _ _ _ _ hk' hgk hp
   refine ⟨λ h=>?_,h2⟩
   cases e':ι p with
   | none=>exact h1 e'
   | some y=>rw [hle _ _ e'] at h;simp at h
 ·by_cases e1:i=h.next
  ·subst e1
   have:=here _ hi';cases this
   have hj:=old j _ (Ne.symm hne) hj'
   have:=hs.sim.size hj
   omega
  ·by_cases e2:j=h.next
   ·subst e2
    have:=here _ hj';cases this
    have hj:=old i _ hne hi'
    have:=hs.sim.size hj
    omega
   ·have hi0:=old i _ e1 hi'
    have hj0:=old j _ e2 hj'
    rw [hother i e1] at hgi
    rw [hother j e2] at hgj
    have hst:∀ cs q,h.get h.next≠some (.cells cs (.stale q)):=λ cs q e=>by rw [get_next (Nat.le_refl _)] at e;simp at e
    have up:∀ i j a b,i≠h.next→j≠h.next→Above h.get i j a b→Above (h.push (.cells cs (.grown none))).get i j a b:=λ i j a b h1 h2 ⟨hA,hL⟩=>by
     refine ⟨hA.keep (λ cs m p h h'=>⟨cs,m,(hother i h1).trans h,h'⟩) λ p cs q _ _ hg=>hother p λ e=>?_,by rw [hother i h1,hother j h2];exact hL⟩
     subst e;exact hst _ _ hg
    rcases hs.sim.sep i j oi oj bi bj si sj obi obj hne hi0 hj0 hb' hgi hgj hdi hdj with h | h | h
    ·exact .inl h
    ·exact .inr (.inl (up i j _ _ e1 e2 h))
    ·exact .inr (.inr (up j i _ _ e2 e1 h))
 ·show k < h.next+1
  by_cases e:k=h.next
  ·omega
  ·have:=hs.fresh k x (old k _ e hk);omega
 ·refine ⟨hle,Nat.le_succ _,λ k x hk=>?_,λ k h1 h2=>?_,hb.os,hb.tape,hb.output,hb.size,λ k hk _=>hb.block k hk,λ k x hk hk'=>?_,λ k x ob ob' hk e e'=>?_,λ k hk _=>by rw [hget,if_neg (by omega)]⟩
  ·by_cases e:k=h.next
   ·exact .inr ⟨by omega,by rw [e];exact Nat.lt_succ_self _⟩
   ·exact .inl (old k _ e hk)
  ·have:k=h.next:=by have:k < h.next+1:=h2;omega
   subst this;simp
  ·by_cases e:k=h.next
   ·subst e
    have:=here _ hk';cases this
    exact .inl hg
   ·rw [old k _ e hk'] at hk;simp at hk
  ·have e0:k≠h.next:=λ e0=>by subst e0;rw [hi] at hk;simp at hk
   rw [hother k e0,e] at e';cases e';exact Iff.rfl
noncomputable def keysOf:List (SV × SV × Nat)→Option (List (List UInt8))
 | []=>some []
 | e::l=>match e.1 with
  | .str s=>(match keysOf l with
   | some r=>some (s::r)
   | none=>none)
  | _=>none
noncomputable def ltB (a:List UInt8):List UInt8→Bool:=@List.rec UInt8 (λ _=>List UInt8→Bool) (λ b=>@List.rec UInt8 (λ _=>Bool) false (λ _ _ _=>true) b)
 (λ x _ ih b=>@List.rec UInt8 (λ _=>Bool) false (λ y r _=>bB (Nat.beq x.toNat y.toNat) (ih r) (Nat.blt x.toNat y.toNat)) b) a
noncomputable def insB (x:List UInt8):List (List UInt8)→List (List UInt8)
 | []=>[x]
 | y::l=>bB (ltB y x) (y::insB x l) (x::y::l)
noncomputable def sortB:List (List UInt8)→List (List UInt8)
 | []=>[]
 | x::l=>insB x (sortB l)
noncomputable def upB:List (List UInt8)→Bool
 | x::y::l=>ltB x y&&upB (y::l)
 | _=>true
noncomputable def bornB (n:Nat):List (SV × SV × Nat)→Nat→Bool
 | [],c=>Nat.ble n c
 | e::l,c=>Nat.ble n e.2.2&&bornB (e.2.2+1) l c
noncomputable def shortB:List (List UInt8)→Bool
 | []=>true
 | x::l=>Nat.ble x.length 1048576&&shortB l
theorem ltB_eq:∀ (a b:List UInt8),ltB a b=decide (a < b)
 | [],[]=>by show false=_;simp
 | [],_::_=>by show true=_;simp
 | _::_,[]=>by show false=_;simp
 | x::a,y::b=>by
  show bB (Nat.beq x.toNat y.toNat) (ltB a b) (Nat.blt x.toNat y.toNat)=_
  rw [ltB_eq a b]
  cases hb:Nat.beq x.toNat y.toNat
  ·have hne:x≠y:=λ e=>by subst e;simp at hb
   show Nat.blt x.toNat y.toNat=_
   rw [Bool.eq_iff_iff,decide_eq_true_iff,List.cons_lt_cons_iff,Nat.blt_eq,UInt8.lt_iff_toNat_lt]
   simp [hne]
  ·have:x=y:=UInt8.toNat_inj.1 (Nat.eq_of_beq_eq_true hb)
   subst this
   show decide (a < b)=_
   rw [Bool.eq_iff_iff,decide_eq_true_iff,decide_eq_true_iff,List.cons_lt_cons_iff]
   simp
theorem insB_perm (x:List UInt8):∀ l,(insB x l).Perm (x::l)
 | []=>.refl _
 | y::l=>by
  unfold insB
  cases ltB y x
  ·exact .refl _
  ·exact ((insB_perm x l).cons y).trans (.swap x y l)
theorem sortB_perm:∀ l,(sortB l).Perm l
 | []=>.refl _
 | x::l=>(insB_perm x _).trans ((sortB_perm l).cons x)
theorem upB_pairwise:∀ l,upB l=true→l.Pairwise (λ a b=>a < b)
 | [],_=>.nil
 | [x],_=>by simp
 | x::y::l,h=>by
  simp only [upB,Bool.and_eq_true,ltB_eq,decide_eq_true_eq] at h
  have ih:=upB_pairwise (y::l) h.2
  refine List.pairwise_cons.2 ⟨λ z hz=>?_,ih⟩
  rcases List.mem_cons.1 hz with rfl | hz
  ·exact h.1
  ·exact List.lt_trans h.1 ((List.pairwise_cons.1 ih).1 z hz)
theorem sortB_merge {l:List (List UInt8)} (h:upB (sortB l)=true):sortB l=l.mergeSort leB:=by
 have hp:=upB_pairwise _ h
 have tr:∀ a b c:List UInt8,leB a b=true→leB b c=true→leB a c=true:=λ a b c h1 h2=>by simp only [leB,decide_eq_true_eq] at *;exact List.le_trans h1 h2
 have to:∀ a b:List UInt8,(leB a b || leB b a)=true:=λ a b=>by simp only [leB,Bool.or_eq_true,decide_eq_true_eq];exact List.le_total a b
 refine List.Perm.eq_of_pairwise (le:=λ a b=>leB a b=true) (λ a b _ _ h1 h2=>?_) (hp.imp λ h=>?_) (List.pairwise_mergeSort tr to l) ((sortB_perm l).trans (List.mergeSort_perm l leB).symm)
 ·simp only [leB,decide_eq_true_eq] at h1 h2
  exact List.le_antisymm h1 h2
 ·simp only [leB,decide_eq_true_eq];exact List.le_of_lt h
theorem bornB_ok:∀ {l:List (SV × SV × Nat)} {n c:Nat},bornB n l c=true→(∀ e ∈ l,n≤e.2.2∧e.2.2 < c)∧(l.map (·.2.2)).Nodup
 | [],n,c,_=>⟨(λ e he=>by cases he),by simp⟩
 | e::l,n,c,h=>by
  simp only [bornB,Bool.and_eq_true] at h
  have h1:=Nat.le_of_ble_eq_true h.1
  obtain ⟨h2,h3⟩:=bornB_ok h.2
  have hlast:∀ {l:List (SV × SV × Nat)} {n c:Nat},bornB n l c=true→n≤c:=by
   intro l
   induction l with
   | nil=>intro n c h;exact Nat.le_of_ble_eq_true h
   | cons e l ih=>
    intro n c h
    simp only [bornB,Bool.and_eq_true] at h
    have:=Nat.le_of_ble_eq_true h.1
    have:=ih h.2
    omega
  have h4:=hlast h.2
  refine ⟨λ x hx=>?_,?_⟩
  ·rcases List.mem_cons.1 hx with rfl | hx
   ·exact ⟨h1,by omega⟩
   ·have:=h2 x hx;exact ⟨by omega,this.2⟩
  ·simp only [List.map_cons,List.nodup_cons]
   refine ⟨λ hm=>?_,h3⟩
   obtain ⟨x,hx,hxe⟩:=List.mem_map.1 hm
   have:=(h2 x hx).1
   omega
theorem keysOf_rel {ι:Inj}:∀ {es:List (SV × SV × Nat)} {ys:List MapEntry} {ks:List (List UInt8)},ERel ι es ys→keysOf es=some ks→ys.map (·.key)=ks.map (λ s=>.string ⟨⟨s⟩⟩)∧ys.map (·.born)=es.map (·.2.2)
 | [],_,_,h,h'=>by cases h;cases h';exact ⟨rfl,rfl⟩
 | (k,v,b)::es,_,ks,⟨e,r,rfl,hk,_,hb,hr⟩,h'=>by
  simp only [keysOf] at h'
  cases k <;> simp only [reduceCtorEq] at h'
  rename_i s
  cases hq:keysOf es with
  | none=>rw [hq] at h';cases h'
  | some r'=>
   rw [hq] at h';cases h'
   obtain ⟨h1,h2⟩:=keysOf_rel hr hq
   simp only [VRel] at hk
   exact ⟨by simp [h1,hk],by simp [h2,hb]⟩
end
end Go.Sh
namespace Go.Sh
open Go.Proofs Go.RowKit Go.Maps Go.Sort Go.Shelf
section
variable [Held] {P:Program} {fs fk:FuncId} {kt:TypeId}
structure SortsKeys (P:Program) (fs fk:FuncId) (kt:TypeId):Prop where
 key:P.underlying kt=some .string
 enter:∀ us w,(callFunc fs us).run P w=.ok (.enter fs us) w
 full:∀ (Bm b nn:Nat) (D0:DataW Unit) (R:Value→Option (DataW Unit × List MemPlace)) (w:World),Bm < w.heap.size→w.cell? ⟨Bm,0,none⟩=some (.map (some b))→w.ownsMap P kt R b nn D0→Maps.size D0≤maxLen→Maps.size D0 * 16≤140737488355328 →
  Calls P fs #[.func (.func fk) #[] #[.pointer (some ⟨Bm,0,none⟩)]] w λ e w'=>∃ (v:Value) (ss:List (List UInt8)),e=.returned v∧ss.Perm (strKeys D0)∧w'.ownsRow w.heap.size kt 1 v ss.length ((ss.mergeSort leB).map encStr)∧(v=.slice none 0 0 ↔ ss=[])∧RowKit.Below w.heap.size w w'
 nilm:∀ (Bm:Nat) (w:World),Bm < w.heap.size→w.cell? ⟨Bm,0,none⟩=some (.map none) →
  Calls P fs #[.func (.func fk) #[] #[.pointer (some ⟨Bm,0,none⟩)]] w λ e w'=>e=.returned (.slice none 0 0)∧RowKit.Below w.heap.size w w'
noncomputable def sortedRow (h:H) (s:List (List UInt8)):SV × H:=match s with
 | []=>(.nilslice,h)
 | x::l=>(.slice h.next 0 (x::l).length 1 none,h.push (.cells ((x::l).map .str) (.grown none)))
noncomputable def xSorted (fk:FuncId):List SV→H→Option (SV × H)
 | [.func f [.ptr b 0]],h=>bB (Nat.beq f fk) (match h.get b with
  | some (.cells [.map id] .fixed)=>(match h.get id with
   | some (.map es c)=>bO (keysOf es) λ ks=>bB (upB (sortB ks)&&bornB 0 es c&&shortB (sortB ks)&&Nat.ble es.length 1048576) (some (sortedRow h (sortB ks))) none
   | _=>none)
  | some (.cells [.nilmap] .fixed)=>some (.nilslice,h)
  | _=>none) none
 | _,_=>none
theorem strs_rel {ι:Inj}:∀ (l:List (List UInt8)),LRel ι (l.map .str) (l.map encStr)∧(l.map SV.str).all SV.isCell=true
 | []=>⟨rfl,rfl⟩
 | x::l=>⟨.cons rfl (strs_rel l).1,by simp [SV.isCell]⟩
theorem shortB_ok:∀ {l:List (List UInt8)},shortB l=true→∀ x ∈ l,x.length≤1048576
 | [],_,x,hx=>by cases hx
 | y::l,h,x,hx=>by
  simp only [shortB,Bool.and_eq_true] at h
  rcases List.mem_cons.1 hx with rfl | hx
  ·exact Nat.le_of_ble_eq_true h.1
  ·exact shortB_ok h.2 x hx
theorem xSorted_ok (S:SortsKeys P fs fk kt) :
  ∀ args h v h',xSorted fk args h=some (v,h')→∀ B ι w (us:Array Value),St B ι h w→LRel ι args us.toList→Answers P fs us w λ v' w'=>∃ ι',VRel ι' v v'∧Moves B ι h w ι' h' w':=by
 intro args h v h' hx B ι w us hs hl
 unfold xSorted at hx
 split at hx
 ·rename_i f b
  obtain ⟨hf,hx1⟩:=bB_some hx
  clear hx
  have hx:=hx1
  clear hx1
  have hf:=Nat.eq_of_beq_eq_true hf
  subst hf
  obtain ⟨u,r,e1,⟨vs,hu,x,r',e2,⟨bb,o,s,hb,hxv⟩,e3⟩,e4⟩:=hl
  have hvs:vs=#[x]:=by apply Array.ext';rw [e2,e3]
  subst hvs
  have hus:us=#[u]:=by apply Array.ext';rw [e1,e4]
  subst hus hu hxv
  have box:∀ c,h.get b=some (.cells [c] .fixed)→∃ y,o=0∧w.cell? ⟨bb,0,none⟩=some y∧VRel ι c y:=by
   intro c hc
   obtain ⟨rc,el,fz,c1,c2,c3,c4,c5,c6,c7⟩:=cells_real hs.sim hb hc (by simp)
   obtain ⟨ho,_,_⟩:=c7 rfl
   subst ho
   obtain ⟨vs,hl',hall,hle',hcell⟩:=row_real hs.sim hb (show rowCells h.get b=some [c] by simp [rowCells,hc])
   obtain ⟨y,r,e,hy,_⟩:=hl'
   refine ⟨y,rfl,?_,hy⟩
   have:=hcell 0 y (by rw [e];rfl)
   simpa using this
  have hbs:=hs.sim.size hb
  split at hx
  ·rename_i id hc
   obtain ⟨y,ho,hcell,mb,o2,s2,hid,hy⟩:=box _ hc
   subst ho hy
   split at hx
   ·rename_i es c hm
    obtain ⟨ks,hk,hx⟩:=bO_some hx
    obtain ⟨hchk,hx⟩:=bB_some hx
    simp only [Bool.and_eq_true] at hchk
    obtain ⟨⟨⟨k1,k2⟩,k3⟩,k4⟩:=hchk
    have k4:=Nat.le_of_ble_eq_true k4
    have hx:sortedRow h (sortB ks)=(v,h'):=by simpa using hx
    obtain ⟨es',hh,her⟩:=map_real hs.sim hid hm
    obtain ⟨q1,q2⟩:=keysOf_rel her hk
    obtain ⟨q3,q4⟩:=bornB_ok k2
    have hlen:es'.size=es.length:=by have:=congrArg List.length q2;simpa using this
    have hklen:ks.length=es.length:=by have:=congrArg List.length q1;simp at this;omega
    have hshort:∀ x ∈ ks,x.length≤1048576:=λ x hx=>shortB_ok k3 x ((sortB_perm ks).mem_iff.2 hx)
    have hnd:ks.Nodup:=(sortB_perm ks).nodup_iff.1 ((upB_pairwise _ k1).imp λ h e=>by subst e;exact absurd h (List.lt_irrefl _))
    let R:Value→Option (DataW Unit × List MemPlace):=λ _=>some (.nil,[])
    have hrd:∀ x ∈ es'.toList,∃ z:List UInt8,z ∈ ks∧x.key=.string ⟨⟨z⟩⟩∧WideElems.rd P kt R x=some (.string z,.nil):=by
     intro x hx
     have:x.key ∈ es'.toList.map (·.key):=List.mem_map.2 ⟨x,hx,rfl⟩
     rw [q1] at this
     obtain ⟨z,hz,hzk⟩:=List.mem_map.1 this
     refine ⟨z,hz,hzk.symm,?_⟩
     have hzl:=hshort z hz
     have hsz:(⟨⟨z⟩⟩:ByteArray).size=z.length:=rfl
     have hky:keyOf P kt x.key=some (.string z):=by
      rw [← hzk]
      simp [keyOf,S.key,mapKey,hsz]
      unfold maxLen;omega
     unfold WideElems.rd
     rw [hky];rfl
    have hown:w.ownsMap P kt R mb es'.size (.map ((es'.toList.map (WideElems.rg P kt R)).foldr DataW.insert [])):=by
     refine ⟨es',c,hh,⟨by unfold maxLen;omega,⟨λ x hx=>?_,by rw [q2];exact q4,?_⟩,λ x hx=>?_⟩,Nat.le_refl _,rfl⟩
     ·have:x.born ∈ es'.toList.map (·.born):=List.mem_map.2 ⟨x,hx,rfl⟩
      rw [q2] at this
      obtain ⟨z,hz,hzk⟩:=List.mem_map.1 this
      rw [← hzk];exact (q3 z hz).2
     ·rw [q1]
      exact List.pairwise_map.2 (hnd.imp λ h e=>h (by simpa using e))
     ·obtain ⟨z,_,_,h3⟩:=hrd x hx
      exact ⟨_,h3⟩
    have hperm:(strKeys (.map ((es'.toList.map (WideElems.rg P kt R)).foldr DataW.insert []))).Perm ks:=by
     have e0:ks=es'.toList.map λ x=>_root_.Go.strOf (WideElems.rg P kt R x).1:=by
      have:ks.map (λ s=>Value.string ⟨⟨s⟩⟩)=(es'.toList.map λ x=>_root_.Go.strOf (WideElems.rg P kt R x).1).map (λ s=>Value.string ⟨⟨s⟩⟩):=by
       rw [← q1,List.map_map]
       refine List.map_congr_left λ x hx=>?_
       obtain ⟨z,_,h2,h3⟩:=hrd x hx
       simp only [Function.comp,WideElems.rg_of h3,_root_.Go.strOf,h2]
      have inj:∀ a b:List (List UInt8),a.map (λ s=>Value.string ⟨⟨s⟩⟩)=b.map (λ s=>Value.string ⟨⟨s⟩⟩)→a=b:=by
       intro a
       induction a with
       | nil=>intro b h;cases b <;> simp at h ⊢
       | cons x a ih=>
        intro b h
        cases b with
        | nil=>simp at h
        | cons y b=>simp at h;rw [h.1,ih b h.2]
      exact inj _ _ this
     rw [e0]
     show ((((es'.toList.map (WideElems.rg P kt R)).foldr DataW.insert []).map λ p=>_root_.Go.strOf p.1)).Perm _
     have:=(Go.WideShapes.sorted_perm (es'.toList.map (WideElems.rg P kt R))).map (λ p=>_root_.Go.strOf p.1)
     rw [List.map_map] at this
     exact this
    have hsize:Maps.size (DataW.map ((es'.toList.map (WideElems.rg P kt R)).foldr DataW.insert []))=es'.size:=by
     rw [Maps.size_eq,DataW.length_sorted];simp
    refine .inl ⟨S.enter _ _,(S.full bb mb _ _ R w hbs hcell hown (by rw [hsize];unfold maxLen;omega) (by rw [hsize];omega)).mono λ e w' ⟨v',ss,h1,h2,h3,h4,h5⟩=>⟨v',h1,?_⟩⟩
    have hsort:ss.mergeSort leB=sortB ks:=by rw [mergeSort_of_perm (h2.trans hperm),sortB_merge k1]
    have hsl:(sortB ks).length=ss.length:=by rw [← hsort];exact List.length_mergeSort ..
    rw [hsort] at h3
    cases hss:sortB ks with
    | nil=>
     rw [hss] at hsl
     have:ss=[]:=List.eq_nil_of_length_eq_zero hsl.symm
     have hv:=h4.2 this
     rw [hss] at hx
     cases hx
     exact ⟨ι,by rw [hv];rfl,.below hs h5⟩
    | cons a l=>
     rw [hss] at hsl h3
     have hne:ss≠[]:=λ e=>by rw [e] at hsl;simp at hsl
     rcases h3.2 with ⟨hv,_⟩ | ⟨g,cap,cur,hv,hg,hcell',hn,hcap,hcs,htk⟩
     ·exact absurd (h4.1 hv) hne
     ·have hrow:=strs_rel (ι:=ι) (a::l)
      rw [← hsl] at hv hn htk
      rw [Nat.mul_one] at hcs htk
      rw [hss] at hx
      cases hx
      refine ⟨_,⟨g,0,cur.size,cap,upd_same,λ k e=>by simp at e,hn,by omega,.inl hv⟩,.row hs h5 hg hcell' ?_ hrow.2 (by rw [List.length_map,hcs];exact hn)⟩
      rw [List.length_map,htk]
      exact hrow.1
   ·cases hx
  ·rename_i hc
   obtain ⟨y,ho,hcell,hy⟩:=box _ hc
   subst ho
   simp only [VRel] at hy
   subst hy
   cases hx
   refine .inl ⟨S.enter _ _,(S.nilm bb w hbs hcell).mono λ e w' ⟨h1,h2⟩=>⟨_,h1,ι,rfl,.below hs h2⟩⟩
  ·cases hx
 ·cases hx
end
end Go.Sh
end
