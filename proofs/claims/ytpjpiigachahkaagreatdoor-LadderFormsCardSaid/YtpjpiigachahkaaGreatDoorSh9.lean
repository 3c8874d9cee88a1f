/- General laws of the proof: a shadow machine of the form, its soundness, and a compiled form of it. -/
import Derived.Test.YtpjpiigachahkaaGreatDoorSh8
set_option linter.unusedVariables false
set_option linter.unusedSimpArgs false
set_option linter.unusedSectionVars false
section
/- The compiled machine: what each operation is compiled to does what the operation does. -/
namespace Go.Sh
section
variable {P:Program} {σ:Rd} {t t':T}
def Reads (σ:Rd) (t t':T):Prop:=∀ n f,σ n=some f→∀ v,f t'=some v→t.get n=some v
theorem compX_ok (hσ:Reads σ t t') {x:Operand} {f:XF} {v:SV} (h:compX σ x=some f) (hv:f t'=some v):opd t x=some v:=by
 cases x with
 | tmp n=>exact hσ n f h v hv
 | const c=>
  obtain ⟨u,h1,h2⟩:=bO_some h
  cases h2
  cases hv
  exact h1
 | global g=>cases h
 | func g=>cases h;cases hv;rfl
theorem compXs_ok (hσ:Reads σ t t'):∀ {l:List Operand} {fs:List XF} {vs:List SV},compXs σ l=some fs→xL fs t'=some vs→opds t l=some vs∧vs.length=l.length
 | [],fs,vs,h,hv=>by cases h;cases hv;exact ⟨rfl,rfl⟩
 | x::l,fs,vs,h,hv=>by
  obtain ⟨f,h1,h⟩:=bO_some h
  obtain ⟨fs',h2,h⟩:=bO_some h
  cases h
  obtain ⟨v,h3,hv⟩:=bO_some (show bO (f t') (λ v=>bO (xL fs' t') λ vs=>some (v::vs))=some vs from hv)
  obtain ⟨vs',h4,hv⟩:=bO_some hv
  cases hv
  obtain ⟨h5,h6⟩:=compXs_ok hσ h2 h4
  exact ⟨by simp only [opds,compX_ok hσ h1 h3,h5],by simp [h6]⟩
theorem eqKD_ok {d:Option TypeDesc} {q:KD} {x y:SV} {b:Bool} (hq:kdOf d=some q) (h:eqKD q x y=some b):eqTyped d x y=some b:=by
 unfold eqKD at h
 split at h
 ·unfold kdOf at hq
  split at hq <;> cases hq
  exact h
 ·unfold kdOf at hq
  split at hq <;> cases hq
  obtain ⟨h1,h2⟩:=bB_some h
  rw [← h2,eqI_eq]
  simp only [eqTyped,sameK_eq h1,if_true]
 ·unfold kdOf at hq
  split at hq <;> cases hq
  rw [← h,eqB_eq];rfl
 ·cases h
theorem eqKs_ok:∀ {fs:List Field} {qs:List KD} {a b:List SV} {c:Bool},kdsOf P fs=some qs→eqKs qs a b=some c→eqFieldsS P fs a b=some c
 | [],qs,a,b,c,hq,h=>by
  cases hq
  cases a <;> cases b <;> simp only [eqKs,reduceCtorEq] at h
  exact h
 | f::fs,qs,a,b,c,hq,h=>by
  obtain ⟨q,h1,hq⟩:=bO_some hq
  obtain ⟨qs',h2,hq⟩:=bO_some hq
  cases hq
  cases a <;> cases b <;> simp only [eqKs,reduceCtorEq] at h
  rename_i x a y b
  obtain ⟨e,h3,h⟩:=bO_some h
  have h4:=eqKD_ok h1 h3
  cases e with
  | true=>
   simp only [eqFieldsS,h4]
   exact eqKs_ok h2 h
  | false=>
   simp only [eqFieldsS,h4]
   exact h
theorem kdsOf_len:∀ {fs:List Field} {qs:List KD},kdsOf P fs=some qs→qs.length=fs.length
 | [],_,h=>by cases h;rfl
 | f::fs,_,h=>by
  obtain ⟨q,h1,h⟩:=bO_some h
  obtain ⟨qs',h2,h⟩:=bO_some h
  cases h
  simp [kdsOf_len h2]
theorem keyTo_eq {kt:TypeId} {q:KKey} {x y:SV} {b:Bool} (hq:keyTo P kt=some q) (h:eqKK q x y=some b):eqKey P kt x y=some b:=by
 unfold keyTo at hq
 split at hq
 ·rename_i fs hu
  obtain ⟨h1,h2⟩:=bB_some hq
  obtain ⟨qs,h3,h2⟩:=bO_some h2
  cases h2
  unfold eqKK at h
  split at h
  ·rename_i e;cases e
  ·rename_i e;cases e
   simp only [eqKey,hu]
   exact eqKs_ok h3 h
  ·cases h
 ·rename_i hne
  obtain ⟨q',h1,h2⟩:=bO_some hq
  cases h2
  have h:eqKD q' x y=some b:=h
  have:=eqKD_ok h1 h
  unfold eqKey
  split
  ·exact (hne _ (by assumption)).elim
  ·exact this
theorem keyTo_ok {kt:TypeId} {q:KKey} {k:SV} (hq:keyTo P kt=some q) (h:okKK q k=true):keyOk P kt k=true:=by
 unfold keyTo at hq
 split at hq
 ·rename_i fs hu
  obtain ⟨h1,h2⟩:=bB_some hq
  obtain ⟨qs,h3,h2⟩:=bO_some h2
  cases h2
  cases k <;> simp only [okKK,Bool.false_eq_true] at h
  simp only [keyOk,hu,h1,Bool.true_and]
  rw [kdsOf_len h3] at h
  exact h
 ·obtain ⟨q',h1,h2⟩:=bO_some hq
  cases h2
  unfold kdOf at h1
  split at h1 <;> cases h1
  all_goals
   rename_i hu
   cases k <;> simp only [okKK,Bool.false_eq_true] at h
   simp only [keyOk,hu]
theorem kfind_ok {kt:TypeId} {q:KKey} {k:SV} (hq:keyTo P kt=some q):∀ {es:List (SV × SV × Nat)} {i:Nat} {r:Option (Nat × SV × Nat)},kfind q k es i=some r→findEntry P kt k es i=some r
 | [],i,r,h=>h
 | (k',v,b)::es,i,r,h=>by
  obtain ⟨c,h1,h⟩:=bO_some (show bO (eqKK q k k') (λ c=>bB c (some (some (i,v,b))) (kfind q k es (Nat.succ i)))=some r from h)
  have:=keyTo_eq hq h1
  cases c with
  | true=>simp only [findEntry,this];exact h
  | false=>simp only [findEntry,this];exact kfind_ok hq h
theorem keq_ok {get:Nat→Option SObj} {lit:Bool} {ty:TypeId} {q:KEq} {a b:SV} {c:Bool} (hq:keqTo P lit ty=some q) (h:keq get q a b=some c) :
  binS P get lit .eql ty a b=some (.bool c)∧binS P get lit .neq ty a b=some (.bool !c):=by
 unfold keqTo at hq
 split at hq
 case h_7 hu=>
  obtain ⟨h1,h2⟩:=bB_some hq
  obtain ⟨qs,h3,h2⟩:=bO_some h2
  cases h2
  cases a <;> cases b <;> simp only [keq,reduceCtorEq] at h
  have:=eqKs_ok h3 h
  simp [binS,eqlS,hu,h1,this]
 all_goals (rename_i hu;cases hq)
 all_goals
  cases a <;> cases b <;> simp only [keq,reduceCtorEq,Option.some.injEq] at h
  all_goals
   first
    | (subst h;simp [binS,eqlS,hu];done)
    | (simp [binS,eqlS,hu,h];done)
    | (simp only [binS,eqlS,hu,h,Option.map_some,and_self])
theorem fillAsc_congr {p p':Nat→Option (Nat × Nat)}:∀ {l l':List (Nat × SV)} (_:l.map (λ x=>(p x.1,x.2))=l'.map (λ x=>(p' x.1,x.2))) (cur:Nat) (cells:List SV),fillAsc p cur cells l=fillAsc p' cur cells l'
 | [],[],_,_,_=>rfl
 | [],_::_,h,_,_=>by simp at h
 | _::_,[],h,_,_=>by simp at h
 | (i,v)::l,(i',v')::l',h,cur,cells=>by
  simp only [List.map_cons,List.cons.injEq,Prod.mk.injEq] at h
  obtain ⟨⟨h1,h2⟩,h3⟩:=h
  subst h2
  simp only [fillAsc,h1]
  split
  ·split
   ·rw [fillAsc_congr h3]
   ·rfl
  ·rfl
theorem fillAny_congr {p p':Nat→Option (Nat × Nat)}:∀ {l l':List (Nat × SV)} (_:l.map (λ x=>(p x.1,x.2))=l'.map (λ x=>(p' x.1,x.2))) (cells:List SV),fillAny p cells l=fillAny p' cells l'
 | [],[],_,_=>rfl
 | [],_::_,h,_=>by simp at h
 | _::_,[],h,_=>by simp at h
 | (i,v)::l,(i',v')::l',h,cells=>by
  simp only [List.map_cons,List.cons.injEq,Prod.mk.injEq] at h
  obtain ⟨⟨h1,h2⟩,h3⟩:=h
  subst h2
  simp only [fillAny,h1]
  split
  ·split
   ·rw [fillAny_congr h3]
   ·rfl
  ·rfl
theorem placesTo_get {p:Nat→Option (Nat × Nat)}:∀ {is:List Nat} {pl:List (Nat × Nat)},placesTo p is=some pl→pl.length=is.length∧∀ (j i:Nat),is[j]?=some i→p i=pl[j]?
 | [],_,h=>by cases h;exact ⟨rfl,λ j i h=>by simp at h⟩
 | i::is,_,h=>by
  obtain ⟨x,h1,h⟩:=bO_some h
  obtain ⟨r,h2,h⟩:=bO_some h
  cases h
  obtain ⟨h3,h4⟩:=placesTo_get h2
  refine ⟨by simp [h3],λ j k hk=>?_⟩
  cases j with
  | zero=>simp at hk;subst hk;simp [h1]
  | succ j=>simp at hk;simp [h4 j k hk]
theorem fill_same {p:Nat→Option (Nat × Nat)} {is:List Nat} {pl:List (Nat × Nat)} {vs:List SV} (h:placesTo p is=some pl) (hl:vs.length=is.length) :
  (is.zip vs).map (λ x=>(p x.1,x.2))=((List.range vs.length).zip vs).map (λ x=>(pl[x.1]?,x.2)):=by
 obtain ⟨h1,h2⟩:=placesTo_get h
 apply List.ext_getElem?
 intro j
 simp only [List.getElem?_map,List.getElem?_zip_eq_some,List.zip]
 by_cases hj:j < vs.length
 ·have hi:j < is.length:=by omega
  simp [List.getElem?_zipWith,hj,hi,h2 j is[j] (List.getElem?_eq_getElem hi)]
 ·have hi:¬j < is.length:=by omega
  simp [List.getElem?_zipWith,hj,hi]
theorem kfillV_ok {p:Nat→Option (Nat × Nat)} {is:List Nat} {pl:List (Nat × Nat)} {z vs cs:List SV} (h:placesTo p is=some pl) (hl:vs.length=is.length) (hk:kfillV z pl vs=some cs):fillS p z (is.zip vs)=some cs:=by
 unfold kfillV fillS at hk
 unfold fillS
 rw [fillAsc_congr (fill_same h hl),fillAny_congr (fill_same h hl)]
 exact hk
theorem contig_le:∀ {pl:List (Nat × Nat)} {a b:Nat},contig a b pl=true→a≤b
 | [],a,b,h=>by have:=Nat.eq_of_beq_eq_true h;omega
 | (o,s)::pl,a,b,h=>by
  simp only [contig,Bool.and_eq_true] at h
  have:=contig_le h.2
  omega
theorem kcat_fill {p:Nat→Option (Nat × Nat)}:∀ {is:List Nat} {pl:List (Nat × Nat)} {cur:Nat} {cells vs cs:List SV},placesTo p is=some pl→contig cur (cur+cells.length) pl=true→kcat (pl.map (·.2)) vs=some cs→fillAsc p cur cells (is.zip vs)=some cs
 | [],_,cur,cells,vs,cs,h,hc,hk=>by
  cases h
  have h0:cur=cur+cells.length:=Nat.eq_of_beq_eq_true hc
  have:cells=[]:=List.eq_nil_of_length_eq_zero (by omega)
  subst this
  cases vs with
  | nil=>cases hk;rfl
  | cons v vs=>cases hk
 | i::is,_,cur,cells,vs,cs,h,hc,hk=>by
  obtain ⟨x,h1,h⟩:=bO_some h
  obtain ⟨r,h2,h⟩:=bO_some h
  cases h
  obtain ⟨off,size⟩:=x
  simp only [contig,Bool.and_eq_true] at hc
  obtain ⟨h3,h4⟩:=hc
  have h3:=Nat.eq_of_beq_eq_true h3
  subst h3
  have h5:=contig_le h4
  cases vs with
  | nil=>cases hk
  | cons v vs=>
   obtain ⟨c,h6,hk⟩:=bO_some (show bO v.cells? (λ c=>bB (hasLen size c) (bO (kcat (r.map (·.2)) vs) λ q=>some (catX c q)) none)=some cs from hk)
   obtain ⟨h7,hk⟩:=bB_some hk
   obtain ⟨q,h8,hk⟩:=bO_some hk
   cases hk
   rw [hasLen_eq] at h7
   have h7:c.length=size:=by simpa using h7
   have ih:=kcat_fill (cur:=off+size) (cells:=cells.drop size) h2 (by rw [List.length_drop,show off+size+(cells.length - size)=off+cells.length from by omega];exact h4) h8
   simp only [List.zip_cons_cons,fillAsc,h1,h6]
   rw [if_pos ⟨Nat.le_refl _,h7,by omega⟩,Nat.sub_self,Nat.zero_add,ih,catX_eq]
   simp
theorem kcat_ok {p:Nat→Option (Nat × Nat)} {is:List Nat} {pl:List (Nat × Nat)} {z vs cs:List SV} (h:placesTo p is=some pl) (hc:contig 0 z.length pl=true) (hk:kcat (pl.map (·.2)) vs=some cs):fillS p z (is.zip vs)=some cs:=by
 unfold fillS
 rw [kcat_fill h (by rw [Nat.zero_add];exact hc) hk]
end
end Go.Sh
end
section
/- The compiled machine: what each operation is compiled to does what the operation does: the operations. -/
namespace Go.Sh
section
variable {P:Program} {σ:Rd} {t t':T}
def Means (P:Program) (t t':T) (o:Op):KK→Prop
 | .v f=>∀ get v,f t'=some v→opN P get t o=some (.val v)
 | .l f=>∀ get v,f get t'=some v→opN P get t o=some (.val v)
 | .n f=>∀ get r,f t'=some r→opN P get t o=some r
 | .m f=>(∀ get,opN P get t o=none)∧∀ h v h',f h t'=some (v,h')→opM P h t o=some (.val v h')
 | .c g xs=>(∀ get,opN P get t o=none)∧∀ h vs,xL xs t'=some vs→opM P h t o=some (.call g vs)
 | .x f xs=>(∀ get,opN P get t o=none)∧∀ h u p vs,f t'=some u→asF u=some p→xL xs t'=some vs→opM P h t o=some (.call p.1 (vs++p.2))
theorem i2_some {k:IntKind} {x y:XF} {f:Int→Int→SV} {v:SV} (h:i2 k x y f t'=some v):∃ a b,x t'=some (.int k a)∧y t'=some (.int k b)∧f a b=v:=by
 obtain ⟨u,h1,h⟩:=bO_some h
 obtain ⟨w,h2,h⟩:=bO_some h
 obtain ⟨a,h3,h⟩:=bO_some h
 obtain ⟨b,h4,h⟩:=bO_some h
 cases h
 exact ⟨a,b,by rw [h1,asI_some h3],by rw [h2,asI_some h4],rfl⟩
theorem vAr_some {op:BinOp} {k:IntKind} {x y:XF} {v:SV} (h:vAr op k x y t'=some v):∃ a b c,x t'=some (.int k a)∧y t'=some (.int k b)∧arithInt op k a b=some c∧v=.int k c:=by
 obtain ⟨u,e1,h⟩:=bO_some h
 obtain ⟨w,e2,h⟩:=bO_some h
 obtain ⟨m,e3,h⟩:=bO_some h
 obtain ⟨n,e4,h⟩:=bO_some h
 obtain ⟨c,e5,h⟩:=bO_some h
 cases h
 exact ⟨m,n,c,by rw [e1,asI_some e3],by rw [e2,asI_some e4],e5,rfl⟩
theorem vSh_some {op:BinOp} {k:IntKind} {x y:XF} {v:SV} (h:vSh op k x y t'=some v):∃ a k' b c,x t'=some (.int k a)∧y t'=some (.int k' b)∧shiftInt op k a b=some c∧v=.int k c:=by
 obtain ⟨u,e1,h⟩:=bO_some h
 obtain ⟨w,e2,h⟩:=bO_some h
 obtain ⟨m,e3,h⟩:=bO_some h
 obtain ⟨n,e4,h⟩:=bO_some h
 obtain ⟨c,e5,h⟩:=bO_some h
 cases h
 obtain ⟨k',rfl⟩:=asInt_some e4
 exact ⟨m,k',n,c,by rw [e1,asI_some e3],e2,e5,rfl⟩
theorem compBin_ok (get:Nat→Option SObj) (lit:Bool) (ty:TypeId) {k:IntKind} {a b:XF} {op:BinOp} {v:SV} (h:compBin k a b op t'=some v) :
  ∃ x y,a t'=some x∧b t'=some y∧binS P get lit op ty x y=some v:=by
 cases op
 case shl=>
  obtain ⟨m,k',n,c,e1,e2,e3,rfl⟩:=vSh_some (show vSh .shl k a b t'=some v from h)
  exact ⟨_,_,e1,e2,by simp [binS,e3]⟩
 case shr=>
  obtain ⟨m,k',n,c,e1,e2,e3,rfl⟩:=vSh_some (show vSh .shr k a b t'=some v from h)
  exact ⟨_,_,e1,e2,by simp [binS,e3]⟩
 case add | sub | mul | lss | leq | gtr | geq | eql | neq=>
  obtain ⟨m,n,e1,e2,rfl⟩:=i2_some (show i2 k a b _ t'=some v from h)
  refine ⟨_,_,e1,e2,?_⟩
  simp [binS,cmpInt,arithInt,ltI_eq,eqI_eq,wrapS_eq]
  try (rw [Bool.eq_iff_iff];simp;done)
 all_goals
  obtain ⟨m,n,c,e1,e2,e3,rfl⟩:=vAr_some (show vAr _ k a b t'=some v from h)
  exact ⟨_,_,e1,e2,by simp [binS,cmpInt,e3]⟩
theorem vStr_some {op:BinOp} {x y:XF} {v:SV} (h:vStr op x y t'=some v):∃ a b,x t'=some (.str a)∧y t'=some (.str b)∧strOp op a b=some v:=by
 obtain ⟨u,e1,h⟩:=bO_some h
 obtain ⟨w,e2,h⟩:=bO_some h
 obtain ⟨m,e3,h⟩:=bO_some h
 obtain ⟨n,e4,h⟩:=bO_some h
 exact ⟨m,n,by rw [e1,asS_some e3],by rw [e2,asS_some e4],h⟩
theorem binS_str (get:Nat→Option SObj) (lit:Bool) (ty:TypeId) {op:BinOp} {a b:List UInt8}:binS P get lit op ty (.str a) (.str b)=strOp op a b:=by
 cases op <;> rfl
theorem part_ok {ty:TypeId} {s:Option Nat} {cs:List SV} {off:Nat} {v:SV} (hs:partTo P ty=some s) (h:kpart s cs off=some v):partS P ty cs off=some v:=by
 have hk:=kpart_some h
 unfold partTo at hs
 unfold partS
 split at hs <;> cases hs
 ·rename_i hu
  obtain ⟨l,h1,rfl⟩:=hk
  simp only [hu,h1]
 ·rename_i hu
  obtain ⟨l,h1,rfl⟩:=hk
  simp only [hu,h1]
 ·rename_i d h1 h2 hu
  simp only [hu]
  cases d <;> first | exact hk | exact absurd hu (h1 _) | exact absurd hu (h2 _ _)
theorem lookup_ok {get:Nat→Option SObj} {ty kt et:TypeId} {q:KKey} {ok:Bool} {x k v:SV} (hu:P.underlying ty=some (.map kt et)) (hq:keyTo P kt=some q) (h:klookup get q (zeroOf P et) ok x k=some v):lookupS P get ty x k ok=some v:=by
 obtain ⟨h1,h⟩:=bB_some h
 obtain ⟨es,h2,h⟩:=bO_some h
 obtain ⟨r,h3,h⟩:=bO_some h
 have h4:=keyTo_ok hq h1
 have h5:=kfind_ok hq h3
 unfold lookupS
 simp only [hu,h4,if_true,h2,h5]
 cases r with
 | some x=>
  obtain ⟨i,v',b⟩:=x
  cases h
  cases ok <;> rfl
 | none=>
  obtain ⟨z,h6,h⟩:=bO_some h
  cases h
  simp only [h6]
  cases ok <;> rfl
theorem slice_ok {get:Nat→Option SObj} {ty e:TypeId} {i:TypeInfo} {u v:SV} {lo hi mx:Option SV} (hu:P.underlying ty=some (.slice e)) (hi':P.info? e=some i) (h:kslice i.size u lo hi mx=some v):sliceS P get ty u lo hi mx=some v:=by
 unfold kslice at h
 split at h
 ·simp only [sliceS,hu,hi'];exact h
 ·simp only [sliceS,hu,hi'];exact h
 ·cases h
theorem atIdx_some {size k:Nat} {u v:SV} (h:atIdx size k u=some v):∃ id off len es cap,u=.slice id off len es cap∧k < len∧v=.ptr id (off+k * size):=by
 unfold atIdx at h
 split at h
 ·obtain ⟨h1,h2⟩:=bB_some h
  cases h2
  exact ⟨_,_,_,_,_,rfl,by simpa [Nat.blt_eq] using h1,rfl⟩
 ·cases h
theorem storeX_ok {h h':H} {id off:Nat} {vs:List SV} (e:storeX h id off vs=some h'):storeCellsS h id off vs=some h':=by
 unfold storeX at e
 unfold storeCellsS
 split at e
 ·rename_i cs m hg
  obtain ⟨cs',h1,e⟩:=bO_some e
  rw [layX_eq] at h1
  split at h1
  ·rename_i hl
   cases h1
   simp only [hg,if_pos hl]
   cases m with
   | fixed=>exact e
   | grown par=>
    obtain ⟨h2,h3,e⟩:=bO_some e
    simp only [h3];exact e
   | stale par=>cases e
   | dead=>cases e
   | ext=>cases e
  ·cases h1
 ·cases e
theorem mapPut_ok {h h':H} {ty kt et:TypeId} {q:KKey} {m k v:SV} (hu:P.underlying ty=some (.map kt et)) (hq:keyTo P kt=some q) (e:kmapPut h q k v m=some h'):mapPutS P h ty m k v=some h':=by
 unfold kmapPut at e
 split at e
 ·rename_i id
  obtain ⟨h1,e⟩:=bB_some e
  split at e
  ·rename_i es c hg
   obtain ⟨r,h3,e⟩:=bO_some e
   have h4:=keyTo_ok hq h1
   have h5:=kfind_ok hq h3
   unfold mapPutS
   simp only [hu,h4,if_true,hg,h5]
   cases r with
   | some x=>obtain ⟨i,v',b⟩:=x;exact e
   | none=>exact e
  ·cases e
 ·cases e
theorem mapEntry_ok {h:H} {ty kt et:TypeId} {q:KKey} {m k:SV} {r:SV × H} (hu:P.underlying ty=some (.map kt et)) (hq:keyTo P kt=some q) (e:kmapEntry h q (zeroOf P et) k m=some r):mapEntryS P h ty m k=some r:=by
 unfold kmapEntry at e
 split at e
 ·rename_i id
  obtain ⟨h1,e⟩:=bB_some e
  split at e
  ·rename_i es c hg
   obtain ⟨r',h3,e⟩:=bO_some e
   have h4:=keyTo_ok hq h1
   have h5:=kfind_ok hq h3
   unfold mapEntryS
   simp only [hu,h4,if_true,hg,h5]
   cases r' with
   | some x=>obtain ⟨i,v',b⟩:=x;exact e
   | none=>
    obtain ⟨z,h6,e⟩:=bO_some e
    simp only [h6];exact e
  ·cases e
 ·cases e
theorem beq_no {a b:Nat} (h:¬a=b):Nat.beq a b=false:=by
 cases hb:Nat.beq a b
 ·rfl
 ·exact absurd (Nat.eq_of_beq_eq_true hb) h
theorem append_ok {h:H} {i:TypeInfo} {n:Nat} {new:List SV} {s x:SV} {r:SV × H} (h0:0 < i.size) (hz:zeroOk i=true) (h1:srcLen x=some n) (h2:srcCells h.get i.size n x=some new) (e:kappend h i.bytes i.size n new s=some r):appendS h i s x=some r:=by
 unfold appendS
 simp only [h1,h2]
 unfold kappend at e
 split at e
 ·by_cases hn:n=0
  ·subst hn;rw [if_pos rfl];exact e
  ·rw [if_neg hn]
   have:Nat.beq n 0=false:=beq_no hn
   rw [this] at e
   obtain ⟨h3,e⟩:=bB_some (show bB _ _ none=some r from e)
   rw [if_pos ⟨Nat.le_of_ble_eq_true h3,h0,hz⟩]
   exact e
 ·rename_i id off len es cap
  obtain ⟨h3,e⟩:=bB_some e
  simp only [Bool.and_eq_true] at h3
  have h4:=Nat.eq_of_beq_eq_true h3.2
  subst h4
  dsimp only
  rw [if_pos ⟨Nat.le_of_ble_eq_true h3.1,rfl,h0,hz⟩]
  cases cap with
  | some c=>exact e
  | none=>
   by_cases hn:n=0
   ·subst hn;rw [if_pos rfl];exact e
   ·simp only [if_neg hn]
    have:Nat.beq n 0=false:=beq_no hn
    rw [this] at e
    exact e
 ·cases e
theorem clear_ok {h:H} {z:List SV} {x v:SV} {h':H} (e:clearS h z x=some (v,h')):clearTo h z x=some (.val v h'):=by
 cases x with
 | slice id off len es cap=>
  unfold clearS at e
  unfold clearTo
  dsimp only at e ⊢
  generalize repeatCells z len=new at *
  cases new with
  | nil=>cases e;rfl
  | cons a l=>
   dsimp only at e ⊢
   obtain ⟨h1,h2,e⟩:=bO_some e
   cases e
   simp only [storeX_ok h2,mVal]
 | nilslice=>cases e;rfl
 | _=>cases e
theorem copy_ok {h:H} {d:SV} {k:Nat} {new:List SV} {v:SV} {h':H} (e:copyS h d k new=some (v,h')):copyTo h d k new=some (.val v h'):=by
 unfold copyS at e
 unfold copyTo
 split at e
 ·split at e
  ·cases e;rfl
  ·rename_i hne
   obtain ⟨h1,h2,e⟩:=bO_some e
   cases e
   cases new with
   | nil=>exact (hne rfl).elim
   | cons a l=>simp only [storeX_ok h2]
 ·cases e;rfl
 ·cases e
theorem strOf_ok {get:Nat→Option SObj} {s d e:TypeId} {u v:SV} (hs:P.underlying s=some (.slice e)) (hd:P.underlying d=some .string) (he:P.underlying e=some (.int .u8)) (h:strOf get u=some v):convS P get s d u=some v:=by
 unfold strOf at h
 split at h
 ·cases h;simp [convS,hs,hd,he]
 ·obtain ⟨cs,h1,h⟩:=bO_some h
  obtain ⟨r,h2,h⟩:=bO_some h
  obtain ⟨l,h3,h⟩:=bO_some h
  obtain ⟨b,h4,h⟩:=bO_some h
  cases h
  simp [convS,hs,hd,he,h1,partX h2 h3,h4]
 ·cases h
theorem compFill_some {β:Type} {z:List SV} {p:Nat→Option (Nat × Nat)} {is:List Nat} {cat:List Nat→β} {fill:List (Nat × Nat)→β} {k:β} (h:compFill z p is cat fill=some k) :
  ∃ pl,placesTo p is=some pl∧(contig 0 z.length pl=true∧k=cat (pl.map (·.2))∨k=fill pl):=by
 obtain ⟨pl,h1,h⟩:=bO_some h
 refine ⟨pl,h1,?_⟩
 cases hc:contig 0 z.length pl
 ·rw [hc] at h;cases h;exact .inr rfl
 ·rw [hc] at h;cases h;exact .inl ⟨rfl,rfl⟩
theorem mV_some {r:Option XF} {k:KK} (h:mV r=some k):∃ f,r=some f∧k=.v f:=by
 obtain ⟨f,h1,h⟩:=bO_some h
 cases h
 exact ⟨f,h1,rfl⟩
theorem mapTo_ok (hσ:Reads σ t t') {ty:TypeId} {m k x:Operand} {kk:KK} (h:compMap P σ ty m k x=some kk):∃ f,kk=.m f∧∀ h v h',f h t'=some (v,h')→mMapPut P h ty (opd t m) (opd t k) (opd t x)=some (.val v h'):=by
 unfold compMap at h
 split at h
 ·rename_i kt et hu
  obtain ⟨fm,h1,h⟩:=bO_some h
  obtain ⟨fk,h2,h⟩:=bO_some h
  obtain ⟨fx,h3,h⟩:=bO_some h
  obtain ⟨q,h4,h⟩:=bO_some h
  cases h
  refine ⟨_,rfl,λ h v h' e=>?_⟩
  obtain ⟨a,e1,e⟩:=bO_some e
  obtain ⟨b,e2,e⟩:=bO_some e
  obtain ⟨c,e3,e⟩:=bO_some e
  obtain ⟨h1',e4,e⟩:=bO_some e
  cases e
  simp only [mMapPut,compX_ok hσ h1 e1,compX_ok hσ h2 e2,compX_ok hσ h3 e3,mapPut_ok hu h4 e4,mVal]
 ·cases h
set_option maxHeartbeats 1000000 in
theorem compCall_ok (hσ:Reads σ t t') {c:Call} {k:KK} (h:compCall P σ c=some k):Means P t t' (.call c) k:=by
 obtain ⟨callee,args,argTypes⟩:=c
 unfold compCall at h
 split at h
 ·-- a function that is known
  rename_i f hf
  dsimp only at hf;subst hf
  obtain ⟨xs,h1,h⟩:=bO_some h
  cases h
  refine ⟨λ get=>rfl,λ h vs e=>?_⟩
  obtain ⟨h2,_⟩:=compXs_ok hσ h1 e
  simp only [opM,mCall,mCallV,opd,h2,List.append_nil]
 ·rename_i f _ hf
  dsimp only at hf;subst hf
  obtain ⟨g,h0,h⟩:=bO_some h
  obtain ⟨xs,h1,h⟩:=bO_some h
  cases h
  refine ⟨λ get=>rfl,λ h u p vs e0 ea e=>?_⟩
  obtain ⟨h2,_⟩:=compXs_ok hσ h1 e
  have h3:=compX_ok hσ h0 e0
  rw [asF_some ea] at h3
  simp only [opM,mCall,mCallV,h3,h2]
 ·rename_i hf
  dsimp only at hf;subst hf
  obtain ⟨xs,h1,h⟩:=bO_some h
  dsimp only at h1 h
  split at h
  ·rename_i x ty _ ht
   have one:∀ u,x t'=some u→opds t args.toList=some [u]:=λ u e=>(compXs_ok hσ h1 (vs:=[u]) (by simp [xL,e])).1
   split at h <;> cases h
   ·rename_i hu
    intro get v e
    obtain ⟨u,e1,e⟩:=bO_some e
    obtain ⟨s,e2,e⟩:=bO_some e
    cases e
    rw [asS_some e2] at e1
    simp only [opN,nCall,nLen,one _ e1,ht,lenS,hu]
   ·rename_i hu
    intro get v e
    obtain ⟨u,e1,e⟩:=bO_some e
    obtain ⟨s,e2,e⟩:=bO_some e
    cases e
    unfold lenV at e2
    split at e2 <;> cases e2
    ·simp only [opN,nCall,nLen,one _ e1,ht,lenS,hu]
    ·simp only [opN,nCall,nLen,one _ e1,ht,lenS,hu]
   ·rename_i hu
    intro get v e
    obtain ⟨u,e1,e⟩:=bO_some e
    obtain ⟨s,e2,e⟩:=bO_some e
    cases e
    unfold lenM at e2
    split at e2
    ·cases e2
     simp only [opN,nCall,nLen,one _ e1,ht,lenS,hu]
    ·split at e2
     ·rename_i hg
      cases e2
      simp only [opN,nCall,nLen,one _ e1,ht,lenS,hu,hg]
     ·cases e2
    ·cases e2
   ·rename_i hu
    intro get v e
    obtain ⟨u,e1,e⟩:=bO_some e
    cases e
    simp only [opN,nCall,nLen,one _ e1,ht]
    simp [lenS,hu]
  ·cases h
 ·rename_i hf
  dsimp only at hf;subst hf
  obtain ⟨xs,h1,h⟩:=bO_some h
  cases h
  intro get v e
  obtain ⟨vs,e1,e⟩:=bO_some e
  obtain ⟨h2,_⟩:=compXs_ok hσ h1 e1
  split at e
  ·simp only [opN,nCall,nMax,h2,e,nVal]
  ·cases e
 ·rename_i hf
  dsimp only at hf;subst hf
  obtain ⟨xs,h1,h⟩:=bO_some h
  cases h
  intro get v e
  obtain ⟨vs,e1,e⟩:=bO_some e
  obtain ⟨h2,_⟩:=compXs_ok hσ h1 e1
  split at e
  ·simp only [opN,nCall,nMax,h2,e,nVal]
  ·cases e
 ·rename_i hf
  dsimp only at hf;subst hf
  obtain ⟨xs,h1,h⟩:=bO_some h
  dsimp only at h1 h
  split at h
  ·rename_i s x ty ux _ _ ht
   split at h
   ·cases h
   ·rename_i el d hne hu hux
    obtain ⟨i,h2,h⟩:=bO_some h
    obtain ⟨h3,h⟩:=bB_some h
    cases h
    simp only [Bool.and_eq_true] at h3
    refine ⟨λ get=>rfl,λ h v h' e=>?_⟩
    obtain ⟨u,e1,e⟩:=bO_some e
    obtain ⟨w,e2,e⟩:=bO_some e
    obtain ⟨n,e3,e⟩:=bO_some e
    obtain ⟨new,e4,e⟩:=bO_some e
    have h4:=(compXs_ok hσ h1 (vs:=[u,w]) (by simp [xL,e1,e2])).1
    have h5:=append_ok (by simpa [Nat.blt_eq] using h3.1) h3.2 e3 e4 e
    simp only [opM,mCall,mAppend,h4,ht,hu,hux,h2,h5]
    cases d <;> first | rfl | exact (hne _ _ rfl rfl).elim | exact (hne _ _ rfl).elim | exact (hne _ rfl rfl).elim | exact (hne _ rfl).elim | exact (hne rfl).elim
   ·cases h
  ·cases h
 ·rename_i hf
  dsimp only at hf;subst hf
  obtain ⟨xs,h1,h⟩:=bO_some h
  dsimp only at h1 h
  split at h
  ·rename_i d x ty _ _ ht
   split at h
   ·rename_i el hu
    obtain ⟨i,h2,h⟩:=bO_some h
    cases h
    refine ⟨λ get=>rfl,λ h v h' e=>?_⟩
    obtain ⟨u,e1,e⟩:=bO_some e
    obtain ⟨w,e2,e⟩:=bO_some e
    obtain ⟨n,e3,e⟩:=bO_some e
    obtain ⟨m,e4,e⟩:=bO_some e
    obtain ⟨new,e5,e⟩:=bO_some e
    have h4:=(compXs_ok hσ h1 (vs:=[u,w]) (by simp [xL,e1,e2])).1
    simp only [opM,mCall,mCopy,h4,ht,hu,e3,e4,h2,e5,copy_ok e]
   ·cases h
  ·cases h
 ·rename_i hf
  dsimp only at hf;subst hf
  obtain ⟨xs,h1,h⟩:=bO_some h
  dsimp only at h1 h
  split at h
  ·rename_i x ty _ _ ht
   split at h
   ·rename_i el hu
    obtain ⟨z,h2,h⟩:=bO_some h
    obtain ⟨i,h3,h⟩:=bO_some h
    obtain ⟨h4,h⟩:=bB_some h
    cases h
    have h4:z.length=i.size∧0 < i.size:=by simpa [Nat.blt_eq] using h4
    refine ⟨λ get=>rfl,λ h v h' e=>?_⟩
    obtain ⟨u,e1,e⟩:=bO_some e
    have h5:=(compXs_ok hσ h1 (vs:=[u]) (by simp [xL,e1])).1
    simp only [opM,mCall,mClear,h5,ht,hu,h2,h3]
    rw [if_pos h4]
    exact clear_ok e
   ·cases h
  ·cases h
 ·cases h
set_option maxHeartbeats 2000000 in
theorem compK_ok (hσ:Reads σ t t') {o:Op} {k:KK} (h:compK P σ o=some k):Means P t t' o k:=by
 cases o
 case move x=>
  obtain ⟨f,h1,rfl⟩:=mV_some h
  intro get v e
  simp only [opN,compX_ok hσ h1 e,nVal]
 case assign x=>
  obtain ⟨f,h1,rfl⟩:=mV_some h
  intro get v e
  simp only [opN,compX_ok hσ h1 e,nVal]
 case pick c a b=>
  obtain ⟨fc,h1,h⟩:=bO_some h
  obtain ⟨fa,h2,h⟩:=bO_some h
  obtain ⟨fb,h3,h⟩:=bO_some h
  cases h
  intro get v e
  obtain ⟨u,e1,e⟩:=bO_some e
  obtain ⟨q,e2,e⟩:=bO_some e
  rw [asB_some e2] at e1
  cases q with
  | true=>simp only [opN,nPick,compX_ok hσ h1 e1,compX_ok hσ h2 e,nVal]
  | false=>simp only [opN,nPick,compX_ok hσ h1 e1,compX_ok hσ h3 e,nVal]
 case alloc ty=>
  obtain ⟨cs,h1,h⟩:=bO_some h
  cases h
  intro get r e
  cases e
  unfold zeroCellsOf at h1
  cases hz:zeroOf P ty with
  | none=>rw [hz] at h1;simp at h1
  | some z=>
   rw [hz] at h1
   simp only [Option.bind_some] at h1
   simp only [opN,nAlloc,hz,h1]
 case box ty x=>
  obtain ⟨f,h1,h⟩:=bO_some h
  cases h
  intro get r e
  obtain ⟨u,e1,e⟩:=bO_some e
  obtain ⟨cs,e2,e⟩:=bO_some e
  cases e
  simp only [opN,nAlloc,compX_ok hσ h1 e1,e2]
 case build ty ps=>
  obtain ⟨xs,h1,h⟩:=bO_some h
  obtain ⟨z,h2,h⟩:=bO_some h
  split at h
  ·rename_i fs hu
   obtain ⟨pl,h3,h⟩:=bO_some h
   obtain ⟨pp,h4,⟨h5,rfl⟩ | rfl⟩:=compFill_some h
   ·intro get v e
    obtain ⟨vs,e1,e⟩:=bO_some e
    obtain ⟨cs,e2,e⟩:=bO_some e
    cases e
    simp only [opN,nBuild,(compXs_ok hσ h1 e1).1,h2,hu,h3,kcat_ok h4 h5 e2]
   ·intro get v e
    obtain ⟨vs,e1,e⟩:=bO_some e
    obtain ⟨cs,e2,e⟩:=bO_some e
    cases e
    have hl:=(compXs_ok hσ h1 e1).2
    simp only [opN,nBuild,(compXs_ok hσ h1 e1).1,h2,hu,h3,kfillV_ok h4 (by simpa using hl) e2]
  ·rename_i n el hu
   obtain ⟨i,h3,h⟩:=bO_some h
   obtain ⟨pp,h4,⟨h5,rfl⟩ | rfl⟩:=compFill_some h
   ·intro get v e
    obtain ⟨vs,e1,e⟩:=bO_some e
    obtain ⟨cs,e2,e⟩:=bO_some e
    cases e
    simp only [opN,nBuild,(compXs_ok hσ h1 e1).1,h2,hu,h3,kcat_ok h4 h5 e2]
   ·intro get v e
    obtain ⟨vs,e1,e⟩:=bO_some e
    obtain ⟨cs,e2,e⟩:=bO_some e
    cases e
    have hl:=(compXs_ok hσ h1 e1).2
    simp only [opN,nBuild,(compXs_ok hσ h1 e1).1,h2,hu,h3,kfillV_ok h4 (by simpa using hl) e2]
  ·cases h
 case buildSlice ty n ps=>
  simp only [compK] at h
  split at h
  ·rename_i el hu
   obtain ⟨xs,h1,h⟩:=bO_some h
   obtain ⟨z,h2,h⟩:=bO_some h
   obtain ⟨i,h3,h⟩:=bO_some h
   obtain ⟨h0,h⟩:=bB_some h
   simp only [Bool.and_eq_true] at h0
   have c1:=Nat.le_of_ble_eq_true h0.1.1
   have c2:=Nat.eq_of_beq_eq_true h0.1.2
   have c3:0 < i.size:=by simpa [Nat.blt_eq] using h0.2
   obtain ⟨pp,h4,⟨h5,rfl⟩ | rfl⟩:=compFill_some h
   ·intro get v e
    obtain ⟨vs,e1,e⟩:=bO_some e
    obtain ⟨cs,e2,e⟩:=bO_some e
    cases e
    simp only [opN,nBuildSlice,(compXs_ok hσ h1 e1).1,h2,hu,h3]
    rw [if_pos ⟨c1,c2,c3⟩,kcat_ok h4 h5 e2]
   ·intro get v e
    obtain ⟨vs,e1,e⟩:=bO_some e
    obtain ⟨cs,e2,e⟩:=bO_some e
    cases e
    have hl:=(compXs_ok hσ h1 e1).2
    simp only [opN,nBuildSlice,(compXs_ok hσ h1 e1).1,h2,hu,h3]
    rw [if_pos ⟨c1,c2,c3⟩,kfillV_ok h4 (by simpa using hl) e2]
  ·cases h
 case load ty x=>
  obtain ⟨f,h1,h⟩:=bO_some h
  obtain ⟨s,h2,h⟩:=bO_some h
  cases h
  intro get v e
  obtain ⟨u,e1,e⟩:=bO_some e
  obtain ⟨p,e2,e⟩:=bO_some e
  obtain ⟨cs,e3,e⟩:=bO_some e
  rw [asP_some e2] at e1
  simp only [opN,nLoad,compX_ok hσ h1 e1,e3,part_ok h2 e,nVal]
 case nilCheck x=>
  obtain ⟨f,h1,h⟩:=bO_some h
  cases h
  intro get v e
  obtain ⟨u,e1,e⟩:=bO_some e
  unfold nilV at e
  split at e <;> cases e <;> simp only [opN,nNil,compX_ok hσ h1 e1]
 case binOp op ty x y pos=>
  obtain ⟨a,h1,h⟩:=bO_some h
  obtain ⟨b,h2,h⟩:=bO_some h
  split at h
  ·cases h
   intro get v e
   obtain ⟨u,w,e1,e2,e3⟩:=compBin_ok (P:=P) get (isLit x || isLit y) ty e
   simp only [opN,nBin,compX_ok hσ h1 e1,compX_ok hσ h2 e2,e3,nVal]
  ·split at h
   ·cases h
    intro get v e
    obtain ⟨u,e1,e⟩:=bO_some e
    obtain ⟨w,e2,e⟩:=bO_some e
    obtain ⟨s,e3,e⟩:=bO_some e
    obtain ⟨r,e4,e⟩:=bO_some e
    cases e
    rw [asS_some e3] at e1
    rw [asS_some e4] at e2
    simp only [opN,nBin,compX_ok hσ h1 e1,compX_ok hσ h2 e2,binS_str,strOp,eqB_eq,nVal]
   ·cases h
    intro get v e
    obtain ⟨u,e1,e⟩:=bO_some e
    obtain ⟨w,e2,e⟩:=bO_some e
    obtain ⟨s,e3,e⟩:=bO_some e
    obtain ⟨r,e4,e⟩:=bO_some e
    cases e
    rw [asS_some e3] at e1
    rw [asS_some e4] at e2
    simp only [opN,nBin,compX_ok hσ h1 e1,compX_ok hσ h2 e2,binS_str,strOp,eqB_eq,nVal]
   ·cases h
    intro get v e
    obtain ⟨s,r,e1,e2,e3⟩:=vStr_some e
    simp only [opN,nBin,compX_ok hσ h1 e1,compX_ok hσ h2 e2,binS_str,e3,nVal]
  ·obtain ⟨q,h3,h⟩:=bO_some h
   split at h <;> cases h
   ·intro get v e
    obtain ⟨u,e1,e⟩:=bO_some e
    obtain ⟨w,e2,e⟩:=bO_some e
    obtain ⟨c,e3,e⟩:=bO_some e
    cases e
    simp only [opN,nBin,compX_ok hσ h1 e1,compX_ok hσ h2 e2,(keq_ok h3 e3).1,nVal]
   ·intro get v e
    obtain ⟨u,e1,e⟩:=bO_some e
    obtain ⟨w,e2,e⟩:=bO_some e
    obtain ⟨c,e3,e⟩:=bO_some e
    cases e
    simp only [opN,nBin,compX_ok hσ h1 e1,compX_ok hσ h2 e2,(keq_ok h3 e3).2,nVal]
 case unOp op ty x=>
  obtain ⟨f,h1,h⟩:=bO_some h
  cases h
  intro get v e
  obtain ⟨u,e1,e⟩:=bO_some e
  simp only [opN,nUn,compX_ok hσ h1 e1,e,nVal]
 case convert s d x=>
  obtain ⟨f,h1,h⟩:=bO_some h
  split at h
  ·rename_i el hs hd
   split at h
   ·rename_i he
    cases h
    intro get r e
    obtain ⟨u,e1,e⟩:=bO_some e
    obtain ⟨b,e2,e⟩:=bO_some e
    obtain ⟨e3,e⟩:=bB_some e
    cases e
    rw [asS_some e2] at e1
    simp only [opN,nConv,compX_ok hσ h1 e1,hs,hd,nBytes,he]
    rw [if_pos (Nat.le_of_ble_eq_true e3)]
   ·cases h
  ·rename_i el hs hd
   split at h
   ·rename_i he
    cases h
    intro get v e
    obtain ⟨u,e1,e⟩:=bO_some e
    have:=strOf_ok hs hd he e
    have hne:∀ b,u≠.str b:=λ b hb=>by subst hb;cases e
    simp only [opN,nConv,compX_ok hσ h1 e1]
    rw [this];rfl
   ·cases h
  ·rename_i hs hd
   cases h
   intro get v e
   obtain ⟨u,e1,e⟩:=bO_some e
   obtain ⟨b,e2,e⟩:=bO_some e
   cases e
   rw [asS_some e2] at e1
   simp only [opN,nConv,compX_ok hσ h1 e1,hs,hd]
  ·rename_i k k' hs hd
   cases h
   intro get v e
   obtain ⟨u,e1,e⟩:=bO_some e
   obtain ⟨n,e2,e⟩:=bO_some e
   cases e
   obtain ⟨k0,hk⟩:=asInt_some e2
   rw [hk] at e1
   simp only [opN,nConv,compX_ok hσ h1 e1,convS,hs,hd,nVal,wrapS_eq]
  ·rename_i e0 el hs hd
   split at h
   ·rename_i hsd he
    cases h
    refine ⟨λ get=>?_,λ g v g' e=>?_⟩
    ·show nConv P get s d (opd t x)=none
     unfold nConv
     split
     ·rw [hs,hd]
     ·simp [convS,hs,hd,nVal]
     ·rfl
    ·obtain ⟨u,e1,e⟩:=bO_some e
     simp only [opM,mConv,compX_ok hσ h1 e1,hs,hd,hsd,he,e,mPair]
   ·cases h
  ·cases h
 case makeInterface ty x=>
  obtain ⟨f,h1,h⟩:=bO_some h
  split at h
  ·cases h
  ·rename_i d hne hu
   cases h
   intro get v e
   obtain ⟨u,e1,e⟩:=bO_some e
   cases e
   simp only [opN,nIface,compX_ok hσ h1 e1,hu]
  ·cases h
 case makeFunc fn first captured=>
  cases fn with
  | func g=>
   simp only [compK] at h
   split at h
   ·rename_i hf
    obtain ⟨xs,h1,h⟩:=bO_some h
    cases h
    intro get v e
    obtain ⟨vs,e1,e⟩:=bO_some e
    cases e
    simp only [opN,nMakeFunc,hf,nFunc,(compXs_ok hσ h1 e1).1]
   ·cases h
  | _=>cases h
 case makeMap ty r=>
  cases r with
  | none=>
   cases h
   intro get r e
   cases e
   rfl
  | some x=>cases h
 case makeSlice ty l c=>
  simp only [compK] at h
  split at h
  ·rename_i el hu
   obtain ⟨fl,h1,h⟩:=bO_some h
   obtain ⟨fc,h2,h⟩:=bO_some h
   obtain ⟨z,h3,h⟩:=bO_some h
   obtain ⟨i,h4,h⟩:=bO_some h
   obtain ⟨h0,h⟩:=bB_some h
   cases h
   simp only [Bool.and_eq_true] at h0
   have c2:=Nat.eq_of_beq_eq_true h0.1
   have c3:0 < i.size:=by simpa [Nat.blt_eq] using h0.2
   intro get r e
   obtain ⟨u,e1,e⟩:=bO_some e
   obtain ⟨w,e2,e⟩:=bO_some e
   obtain ⟨n,e3,e⟩:=bO_some e
   obtain ⟨m,e4,e⟩:=bO_some e
   obtain ⟨n',e5,e⟩:=bO_some e
   obtain ⟨m',e6,e⟩:=bO_some e
   obtain ⟨e7,e⟩:=bB_some e
   cases e
   obtain ⟨k1,hk1⟩:=asInt_some e3
   obtain ⟨k2,hk2⟩:=asInt_some e4
   rw [hk1,intN_some e5] at e1
   rw [hk2,intN_some e6] at e2
   simp only [Bool.and_eq_true] at e7
   have c4:=Nat.le_of_ble_eq_true e7.1
   have c5:=Nat.le_of_ble_eq_true e7.2
   simp only [opN,nMakeSlice,hu,compX_ok hσ h1 e1,compX_ok hσ h2 e2,h3,h4]
   have c6:((m' * (i.bytes+i.size+1):Nat):Int)≤(1099511627776:Nat):=Int.ofNat_le.2 c5
   rw [Int.natCast_mul] at c6
   rw [if_pos ⟨by omega,by omega,c6,c2,c3⟩]
   rfl
  ·cases h
 case slice ty x lo hi mx=>
  obtain ⟨f,h1,h⟩:=bO_some h
  obtain ⟨l,h2,h⟩:=bO_some h
  obtain ⟨hh,h3,h⟩:=bO_some h
  obtain ⟨m,h4,h⟩:=bO_some h
  split at h
  ·rename_i hu
   split at h
   ·cases h
    intro get v e
    obtain ⟨u,e1,e⟩:=bO_some e
    obtain ⟨s,e2,e⟩:=bO_some e
    obtain ⟨vl,e3,e⟩:=bO_some e
    obtain ⟨vh,e4,e⟩:=bO_some e
    rw [asS_some e2] at e1
    simp only [opN,nSlice,compX_ok hσ h1 e1,(compXs_ok hσ h2 e3).1,(compXs_ok hσ h3 e4).1,(compXs_ok hσ h4 (vs:=[]) rfl).1,sliceS,hu]
    simp only [List.head?_nil,e,nVal]
   ·cases h
  ·rename_i el hu
   obtain ⟨i,h5,h⟩:=bO_some h
   cases h
   intro get v e
   obtain ⟨u,e1,e⟩:=bO_some e
   obtain ⟨vl,e3,e⟩:=bO_some e
   obtain ⟨vh,e4,e⟩:=bO_some e
   obtain ⟨vm,e5,e⟩:=bO_some e
   simp only [opN,nSlice,compX_ok hσ h1 e1,(compXs_ok hσ h2 e3).1,(compXs_ok hσ h3 e4).1,(compXs_ok hσ h4 e5).1,slice_ok hu h5 e,nVal]
  ·rename_i n el hu
   obtain ⟨i,h5,h⟩:=bO_some h
   cases h
   intro get v e
   obtain ⟨u,e1,e⟩:=bO_some e
   obtain ⟨p,e2,e⟩:=bO_some e
   obtain ⟨vl,e3,e⟩:=bO_some e
   obtain ⟨vh,e4,e⟩:=bO_some e
   obtain ⟨vm,e5,e⟩:=bO_some e
   rw [asP_some e2] at e1
   simp only [opN,nSlice,compX_ok hσ h1 e1,(compXs_ok hσ h2 e3).1,(compXs_ok hσ h3 e4).1,(compXs_ok hσ h4 e5).1,sliceS,hu,h5,e,nVal]
  ·cases h
 case fieldAddr ty x f=>
  obtain ⟨fx,h1,h⟩:=bO_some h
  split at h
  ·rename_i fs hu
   obtain ⟨fd,h2,h⟩:=bO_some h
   obtain ⟨i,h3,h⟩:=bO_some h
   cases hz:Nat.beq i.size 0
   ·rw [hz] at h
    cases h
    intro get v e
    obtain ⟨u,e1,e⟩:=bO_some e
    obtain ⟨p,e2,e⟩:=bO_some e
    cases e
    rw [asP_some e2] at e1
    simp only [opN,nFieldAddr,compX_ok hσ h1 e1,hu,h2,h3]
    rw [if_neg (λ e=>by rw [e] at hz;simp at hz)]
   ·rw [hz] at h;cases h
  ·cases h
 case field ty x f=>
  obtain ⟨fx,h1,h⟩:=bO_some h
  split at h
  ·rename_i fs hu
   obtain ⟨fd,h2,h⟩:=bO_some h
   obtain ⟨s,h3,h⟩:=bO_some h
   cases h
   intro get v e
   obtain ⟨u,e1,e⟩:=bO_some e
   obtain ⟨cs,e2,e⟩:=bO_some e
   rw [asA_some e2] at e1
   simp only [opN,nField,compX_ok hσ h1 e1,hu,h2,part_ok h3 e,nVal]
  ·cases h
 case indexAddr ty x i=>
  obtain ⟨fx,h1,h⟩:=bO_some h
  obtain ⟨fi,h2,h⟩:=bO_some h
  split at h
  ·rename_i el hu
   obtain ⟨inf,h3,h⟩:=bO_some h
   cases h
   intro get v e
   obtain ⟨u,e1,e⟩:=bO_some e
   obtain ⟨j,e2,e⟩:=bO_some e
   obtain ⟨n,e3,e⟩:=bO_some e
   obtain ⟨k,e4,e⟩:=bO_some e
   obtain ⟨kk,hk⟩:=asInt_some e3
   rw [hk,intN_some e4] at e2
   obtain ⟨id,off,len,es,cap,rfl,e5,rfl⟩:=atIdx_some e
   simp only [opN,nIndexAddr,compX_ok hσ h1 e1,compX_ok hσ h2 e2,hu,Option.bind_some,intNat]
   rw [if_pos (by omega)]
   simp only [h3,Int.toNat_natCast]
   rw [if_pos e5]
  ·rename_i len el hu
   obtain ⟨inf,h3,h⟩:=bO_some h
   cases h
   intro get v e
   obtain ⟨u,e1,e⟩:=bO_some e
   obtain ⟨p,e0,e⟩:=bO_some e
   obtain ⟨j,e2,e⟩:=bO_some e
   obtain ⟨n,e3,e⟩:=bO_some e
   obtain ⟨k,e4,e⟩:=bO_some e
   obtain ⟨e5,e⟩:=bB_some e
   cases e
   obtain ⟨kk,hk⟩:=asInt_some e3
   rw [hk,intN_some e4] at e2
   rw [asP_some e0] at e1
   simp only [opN,nIndexAddr,compX_ok hσ h1 e1,compX_ok hσ h2 e2,hu,Option.bind_some,intNat]
   rw [if_pos (by omega)]
   simp only [h3,Int.toNat_natCast]
   rw [if_pos (by simpa [Nat.blt_eq] using e5)]
  ·cases h
 case index ty x i=>
  obtain ⟨fx,h1,h⟩:=bO_some h
  obtain ⟨fi,h2,h⟩:=bO_some h
  split at h
  ·rename_i len el hu
   obtain ⟨inf,h3,h⟩:=bO_some h
   obtain ⟨s,h4,h⟩:=bO_some h
   cases h
   intro get v e
   obtain ⟨u,e1,e⟩:=bO_some e
   obtain ⟨cs,e0,e⟩:=bO_some e
   obtain ⟨j,e2,e⟩:=bO_some e
   obtain ⟨n,e3,e⟩:=bO_some e
   obtain ⟨k,e4,e⟩:=bO_some e
   obtain ⟨e5,e⟩:=bB_some e
   obtain ⟨kk,hk⟩:=asInt_some e3
   rw [hk,intN_some e4] at e2
   rw [asA_some e0] at e1
   simp only [opN,nIndex,compX_ok hσ h1 e1,compX_ok hσ h2 e2,hu,Option.bind_some,intNat]
   rw [if_pos (by omega)]
   simp only [h3,Int.toNat_natCast]
   rw [if_pos (by simpa [Nat.blt_eq] using e5),part_ok h4 e]
   rfl
  ·rename_i hu
   cases h
   intro get v e
   obtain ⟨u,e1,e⟩:=bO_some e
   obtain ⟨s,e0,e⟩:=bO_some e
   obtain ⟨j,e2,e⟩:=bO_some e
   obtain ⟨n,e3,e⟩:=bO_some e
   obtain ⟨k,e4,e⟩:=bO_some e
   obtain ⟨b,e5,e⟩:=bO_some e
   cases e
   obtain ⟨kk,hk⟩:=asInt_some e3
   rw [hk,intN_some e4] at e2
   rw [asS_some e0] at e1
   simp only [opN,nIndex,compX_ok hσ h1 e1,compX_ok hσ h2 e2,hu,Option.bind_some,intNat]
   rw [if_pos (by omega)]
   simp only [Int.toNat_natCast,e5]
  ·cases h
 case lookup ty x i ok=>
  obtain ⟨fx,h1,h⟩:=bO_some h
  obtain ⟨fi,h2,h⟩:=bO_some h
  split at h
  ·rename_i kt et hu
   obtain ⟨q,h3,h⟩:=bO_some h
   cases h
   intro get v e
   obtain ⟨u,e1,e⟩:=bO_some e
   obtain ⟨w,e2,e⟩:=bO_some e
   simp only [opN,nLookup,compX_ok hσ h1 e1,compX_ok hσ h2 e2,lookup_ok hu h3 e,nVal]
  ·cases h
 case extract x i=>
  obtain ⟨fx,h1,h⟩:=bO_some h
  cases h
  intro get v e
  obtain ⟨u,e1,e⟩:=bO_some e
  split at e
  ·simp only [opN,nExtract,compX_ok hσ h1 e1,e,nVal]
  ·cases e
 case call c=>exact compCall_ok hσ h
 case store ty a x=>
  obtain ⟨fa,h1,h⟩:=bO_some h
  obtain ⟨fx,h2,h⟩:=bO_some h
  obtain ⟨i,h3,h⟩:=bO_some h
  cases h
  refine ⟨λ get=>rfl,λ h v h' e=>?_⟩
  obtain ⟨u,e1,e⟩:=bO_some e
  obtain ⟨p,e2,e⟩:=bO_some e
  obtain ⟨w,e3,e⟩:=bO_some e
  obtain ⟨vs,e4,e⟩:=bO_some e
  obtain ⟨e5,e⟩:=bB_some e
  obtain ⟨h1',e6,e⟩:=bO_some e
  cases e
  rw [asP_some e2] at e1
  rw [hasLen_eq] at e5
  simp only [opM,mStore,compX_ok hσ h1 e1,compX_ok hσ h2 e3,e4,h3]
  rw [if_pos (by simpa using e5),storeX_ok e6]
  rfl
 case mapUpdate ty m k x=>
  obtain ⟨f,rfl,h1⟩:=mapTo_ok hσ h
  exact ⟨λ get=>rfl,h1⟩
 case insert ty m k x=>
  obtain ⟨f,rfl,h1⟩:=mapTo_ok hσ h
  exact ⟨λ get=>rfl,h1⟩
 case mapEntry ty m k=>
  simp only [compK] at h
  split at h
  ·rename_i kt et hu
   obtain ⟨fm,h1,h⟩:=bO_some h
   obtain ⟨fk,h2,h⟩:=bO_some h
   obtain ⟨q,h3,h⟩:=bO_some h
   cases h
   refine ⟨λ get=>rfl,λ h v h' e=>?_⟩
   obtain ⟨a,e1,e⟩:=bO_some e
   obtain ⟨b,e2,e⟩:=bO_some e
   simp only [opM,mMapEntry,compX_ok hσ h1 e1,compX_ok hσ h2 e2,mapEntry_ok hu h3 e,mPair]
  ·cases h
 case entryStore ty m s x=>
  obtain ⟨fm,h1,h⟩:=bO_some h
  obtain ⟨fs,h2,h⟩:=bO_some h
  obtain ⟨fx,h3,h⟩:=bO_some h
  cases h
  refine ⟨λ get=>rfl,λ h v h' e=>?_⟩
  obtain ⟨a,e1,e⟩:=bO_some e
  obtain ⟨b,e2,e⟩:=bO_some e
  obtain ⟨c,e3,e⟩:=bO_some e
  obtain ⟨h1',e4,e⟩:=bO_some e
  cases e
  simp only [opM,mEntryStore,compX_ok hσ h1 e1,compX_ok hσ h2 e2,compX_ok hσ h3 e3,e4,mVal]
 all_goals cases h
end
end Go.Sh
end
section
/- The compiled machine: steps, operations one behind the other, code, calls. -/
namespace Go.Sh
section
variable {P:Program} {X:FuncId→Option (List SV→H→Option (SV × H))} {σ:Rd} {t t':T} {c:CF}
def CLe (P:Program) (X:FuncId→Option (List SV→H→Option (SV × H))) (c:CF):Prop:=∀ f args h r,c f args h=some r→(lim P X).call f args h=some r
noncomputable def ovalN (h:H):NR→SV × H
 | .val v=>(v,h)
 | .new ob mk=>(mk h.next,h.push ob)
noncomputable def oval (P:Program) (e:Ev) (strict:Option Nat) (o:Op) (t:T) (h:H):Option (SV × H):=match strict with
 | none=>(match opN P h.get t o with
  | some r=>some (ovalN h r)
  | none=>runM e h (opM P h t o))
 | some m=>(match opN P (getTo h m) t o with
  | some r=>some (ovalN h r)
  | none=>runS P e m t h o)
theorem opStep_of {e:Ev} {n:Nat} {s:Option Nat} {o:Oper} {h h1:H} {v:SV} {t1:T} (hv:oval P e s o.op t h=some (v,h1)) (hp:putT n t o.dst v=some t1):opStep P e n s o t h=some (t1,h1):=by
 unfold oval at hv
 unfold opStep
 cases s with
 | none=>
  dsimp only at hv ⊢
  cases hN:opN P h.get t o.op with
  | some r=>
   rw [hN] at hv
   cases r with
   | val w=>cases hv;simp only [stepN,hp,Option.map_some]
   | new ob mk=>cases hv;simp only [stepN,hp,Option.map_some]
  | none=>
   rw [hN] at hv
   dsimp only at hv ⊢
   simp only [hv,stepV,hp,Option.map_some]
 | some m=>
  dsimp only at hv ⊢
  cases hN:opN P (getTo h m) t o.op with
  | some r=>
   rw [hN] at hv
   cases r with
   | val w=>cases hv;simp only [stepN,hp,Option.map_some]
   | new ob mk=>cases hv;simp only [stepN,hp,Option.map_some]
  | none=>
   rw [hN] at hv
   dsimp only at hv ⊢
   simp only [hv,stepV,hp,Option.map_some]
theorem on2_some {r:Option (SV × H)} {K:SV→H→FR} {x:Flow × T × H} (h:on2 r K=some x):∃ v h1,r=some (v,h1)∧K v h1=some x:=by
 obtain ⟨p,h1,h2⟩:=bO_some h
 exact ⟨p.1,p.2,h1,h2⟩
theorem lower_of {m low:Nat} {r r':Option (SV × H)} (hr:∀ x,r=some x→r'=some x) {x:SV × H} (h:lower m low r=some x):lower m low r'=some x:=lower_mono hr h
theorem eqS1_eq:∀ {a b:SV},eqS1 a b=true→a=b:=by
 intro a b h
 unfold eqS1 at h
 split at h <;> try simp only [Bool.and_eq_true,Nat.beq_eq,beq_iff_eq,reduceCtorEq,Bool.false_eq_true] at h
 ·rw [h]
 ·rw [sameK_eq h.1]
  have:=h.2
  rw [eqI_eq] at this
  rw [of_decide_eq_true this]
 ·rw [eqB_eq,eqBytes_eq] at h
  rw [eq_of_beq h]
 ·rfl
 ·rw [h.1,h.2]
 ·rfl
 ·rw [h.1,h.2.1,h.2.2.1,h.2.2.2]
 ·rw [h.1,h.2.1,h.2.2.1,h.2.2.2.1,h.2.2.2.2]
 ·rfl
 ·rw [h]
 ·rfl
 ·rfl
theorem eqSL_eq:∀ {a b:List SV},eqSL a b=true→a=b
 | [],[],_=>rfl
 | [],_::_,h=>by cases h
 | _::_,[],h=>by cases h
 | x::l,y::r,h=>by
  simp only [eqSL,Bool.and_eq_true] at h
  rw [eqS1_eq h.1,eqSL_eq h.2]
theorem eqSV_eq {a b:SV} (h:eqSV a b=true):a=b:=by
 unfold eqSV at h
 split at h
 ·rw [eqSL_eq h]
 ·rw [eqSL_eq h]
 ·exact eqS1_eq h
theorem sameV_ok {f:LF} {h:H} {fresh:Nat} {v:SV}:∀ {l:List H},sameV f h fresh t' v l=true→∀ g,g ∈ l→f (mixTo g h fresh) t'=some v
 | [],_,g,hg=>by simp at hg
 | x::l,e,g,hg=>by
  unfold sameV at e
  split at e
  ·rename_i u hu
   simp only [Bool.and_eq_true] at e
   rcases List.mem_cons.1 hg with rfl | hg
   ·rw [hu,eqSV_eq e.1]
   ·exact sameV_ok e.2 g hg
  ·cases e
theorem maskHs_mem {mask:Nat}:∀ {l:List (Nat × H)} {x:Nat × H},x ∈ l→bitAt mask x.1=true→x.2 ∈ maskHs mask l
 | [],_,h,_=>by simp at h
 | y::l,x,h,hb=>by
  unfold maskHs
  rcases List.mem_cons.1 h with rfl | h
  ·rw [hb];exact List.mem_cons_self ..
  ·have:=maskHs_mem h hb
   split
   ·exact List.mem_cons_of_mem _ this
   ·exact this
def SoftQ (P:Program) (c:PC) (A:Past) (o:Op) (t:T) (h:H):Prop:=∀ mask,c=.soft mask→∀ x,x ∈ A.hs→bitAt mask x.1=true→opN P (mixTo x.2 h A.fresh) t o=opN P h.get t o
theorem runS_of {e:Ev} {m:Nat} {h:H} {op:Op} {r:SV × H} (q:lower m h.low (runM e ⟨h.next,m,h.tr⟩ (opM P ⟨h.next,m,h.tr⟩ t op))=some r):runS P e m t h op=some r:=by
 unfold runS;rw [q]
theorem runS_other {e:Ev} {m:Nat} {h:H} {op:Op} (hm:opM P ⟨h.next,m,h.tr⟩ t op=none) (ho:∀ ty a x,op≠.store ty a x):runS P e m t h op=none:=by
 unfold runS
 rw [hm]
 simp only [runM,lower]
 refine if_neg λ hp=>?_
 obtain ⟨ty,a,x,_,_,_,_,_,_,he,_⟩:=hp
 exact ho ty a x he
theorem step_ok (hc:CLe P X c) {o:Op} {k:KK} (M:Means P t t' o k) {pc:PC} {A:Past} {m:Nat} {h:H} {K:SV→H→FR} {r:Flow × T × H} (e:opTo pc A k c m t' h K=some r) :
  ∃ v h1,oval P (lim P X) (strictC m pc) o t h=some (v,h1)∧K v h1=some r∧SoftQ P pc A o t h:=by
 have hst:strictC m pc=none∨strictC m pc=some m:=by unfold strictC;cases pc.strict <;> simp
 cases k with
 | v f=>
  obtain ⟨v,e1,e2⟩:=bO_some (show bO (f t') (λ v=>K v h)=some r from e)
  refine ⟨v,h,?_,e2,λ mask _ x _ _=>by rw [M _ v e1,M _ v e1]⟩
  rcases hst with q | q <;> rw [q] <;> simp only [oval,M _ v e1,ovalN]
 | l f=>
  cases pc with
  | soft mask=>
   obtain ⟨v,e1,e2⟩:=bO_some (show bO (f h.get t') (λ v=>bB (sameV f h A.fresh t' v (maskHs mask A.hs)) (K v h) none)=some r from e)
   cases hq:sameV f h A.fresh t' v (maskHs mask A.hs) with
   | false=>rw [hq] at e2;cases e2
   | true=>
    rw [hq] at e2
    refine ⟨v,h,by simp only [oval,strictC,PC.strict,M _ v e1,ovalN],e2,λ mask' hm x hx hb=>?_⟩
    cases hm
    rw [M _ v e1,M _ v (sameV_ok hq _ (maskHs_mem hx hb))]
  | hard=>
   obtain ⟨v,e1,e2⟩:=bO_some (show bO (f (getTo h m) t') (λ v=>K v h)=some r from e)
   exact ⟨v,h,by simp only [oval,strictC,PC.strict,M _ v e1,ovalN],e2,λ _ h=>by cases h⟩
  | free=>
   obtain ⟨v,e1,e2⟩:=bO_some (show bO (f h.get t') (λ v=>K v h)=some r from e)
   exact ⟨v,h,by simp only [oval,strictC,PC.strict,M _ v e1,ovalN],e2,λ _ h=>by cases h⟩
  | keep s i=>
   cases s with
   | false=>
    obtain ⟨v,e1,e2⟩:=bO_some (show bO (f h.get t') (λ v=>K v h)=some r from e)
    exact ⟨v,h,by simp only [oval,strictC,PC.strict,M _ v e1,ovalN],e2,λ _ h=>by cases h⟩
   | true=>
    obtain ⟨v,e1,e2⟩:=bO_some (show bO (f (getTo h m) t') (λ v=>K v h)=some r from e)
    exact ⟨v,h,by simp only [oval,strictC,PC.strict,M _ v e1,ovalN],e2,λ _ h=>by cases h⟩
 | n f=>
  obtain ⟨q,e1,e2⟩:=bO_some (show bO (f t') (λ q=>@NR.rec (λ _=>FR) (λ v=>K v h) (λ ob mk=>K (mk h.next) (h.push ob)) q)=some r from e)
  refine ⟨(ovalN h q).1,(ovalN h q).2,?_,?_,λ mask _ x _ _=>by rw [M _ q e1,M _ q e1]⟩
  ·rcases hst with s | s <;> rw [s] <;> simp only [oval,M _ q e1]
  ·cases q <;> exact e2
 | m f=>
  refine (λ (y:∃ v h1,oval P (lim P X) (strictC m pc) o t h=some (v,h1)∧K v h1=some r)=>by obtain ⟨v,h1,a,b⟩:=y;exact ⟨v,h1,a,b,λ mask _ x _ _=>by rw [M.1,M.1]⟩) ?_
  unfold opTo at e
  unfold strictC
  cases hs:pc.strict with
  | false=>
   simp only [hs] at e ⊢
   obtain ⟨v,h1,e1,e2⟩:=on2_some (show on2 (f h t') K=some r from e)
   exact ⟨v,h1,by simp only [oval,M.1,M.2 _ _ _ e1,runM],e2⟩
  | true=>
   simp only [hs] at e ⊢
   obtain ⟨v,h1,e1,e2⟩:=on2_some (show on2 (lower m h.low (f ⟨h.next,m,h.tr⟩ t')) K=some r from e)
   refine ⟨v,h1,?_,e2⟩
   simp only [oval,M.1]
   exact runS_of (lower_of (λ x hx=>by obtain ⟨a,b⟩:=x;rw [M.2 _ _ _ hx];rfl) e1)
 | c g xs=>
  refine (λ (y:∃ v h1,oval P (lim P X) (strictC m pc) o t h=some (v,h1)∧K v h1=some r)=>by obtain ⟨v,h1,a,b⟩:=y;exact ⟨v,h1,a,b,λ mask _ x _ _=>by rw [M.1,M.1]⟩) ?_
  unfold opTo at e
  unfold strictC
  cases hs:pc.strict with
  | false=>
   simp only [hs] at e ⊢
   obtain ⟨vs,e0,e⟩:=bO_some (show bO (xL xs t') (λ vs=>on2 (c g vs h) K)=some r from e)
   obtain ⟨v,h1,e1,e2⟩:=on2_some e
   exact ⟨v,h1,by simp only [oval,M.1,M.2 _ _ e0,runM];exact hc _ _ _ _ e1,e2⟩
  | true=>
   simp only [hs] at e ⊢
   obtain ⟨vs,e0,e⟩:=bO_some (show bO (xL xs t') (λ vs=>on2 (lower m h.low (c g vs ⟨h.next,m,h.tr⟩)) K)=some r from e)
   obtain ⟨v,h1,e1,e2⟩:=on2_some e
   refine ⟨v,h1,?_,e2⟩
   simp only [oval,M.1]
   exact runS_of (by rw [M.2 _ _ e0];exact lower_of (λ x hx=>hc _ _ _ _ hx) e1)
 | x f xs=>
  refine (λ (y:∃ v h1,oval P (lim P X) (strictC m pc) o t h=some (v,h1)∧K v h1=some r)=>by obtain ⟨v,h1,a,b⟩:=y;exact ⟨v,h1,a,b,λ mask _ x _ _=>by rw [M.1,M.1]⟩) ?_
  unfold opTo at e
  unfold strictC
  cases hs:pc.strict with
  | false=>
   simp only [hs] at e ⊢
   obtain ⟨u,e3,e⟩:=bO_some (show bO (f t') (λ u=>bO (asF u) λ p=>bO (xL xs t') λ vs=>on2 (c p.1 (vs++p.2) h) K)=some r from e)
   obtain ⟨p,e4,e⟩:=bO_some e
   obtain ⟨vs,e0,e⟩:=bO_some e
   obtain ⟨v,h1,e1,e2⟩:=on2_some e
   exact ⟨v,h1,by simp only [oval,M.1,M.2 _ _ _ _ e3 e4 e0,runM];exact hc _ _ _ _ e1,e2⟩
  | true=>
   simp only [hs] at e ⊢
   obtain ⟨u,e3,e⟩:=bO_some (show bO (f t') (λ u=>bO (asF u) λ p=>bO (xL xs t') λ vs=>on2 (lower m h.low (c p.1 (vs++p.2) ⟨h.next,m,h.tr⟩)) K)=some r from e)
   obtain ⟨p,e4,e⟩:=bO_some e
   obtain ⟨vs,e0,e⟩:=bO_some e
   obtain ⟨v,h1,e1,e2⟩:=on2_some e
   refine ⟨v,h1,?_,e2⟩
   simp only [oval,M.1]
   exact runS_of (by rw [M.2 _ _ _ _ e3 e4 e0];exact lower_of (λ x hx=>hc _ _ _ _ hx) e1)
theorem step_okS (hσ:Reads σ t t') (hc:CLe P X c) {o:Op} {k:KK} (M:Means P t t' o k) {pc:PC} {A:Past} {m:Nat} {h:H} {K:SV→H→FR} {r:Flow × T × H} (e:opToS P σ pc A o k c m t' h K=some r) :
  ∃ v h1,oval P (lim P X) (strictC m pc) o t h=some (v,h1)∧K v h1=some r∧SoftQ P pc A o t h:=by
 cases k with
 | m f=>
  have e:(match sameTo P σ pc o with
   | some q=>sMt q f
   | none=>opTo pc A (.m f)) c m t' h K=some r:=e
  cases hq:sameTo P σ pc o with
  | none=>rw [hq] at e;exact step_ok hc M e
  | some q=>
   rw [hq] at e
   unfold sameTo at hq
   split at hq
   ·rename_i ty a x hs
    obtain ⟨fa,ha,hq⟩:=bO_some hq
    obtain ⟨fx,hx,hq⟩:=bO_some hq
    obtain ⟨i,hi,hq⟩:=bO_some hq
    cases hq
    refine (λ (y:∃ v h1,oval P (lim P X) (strictC m pc) (.store ty a x) t h=some (v,h1)∧K v h1=some r)=>by obtain ⟨v,h1,a,b⟩:=y;exact ⟨v,h1,a,b,λ mask _ x _ _=>by rw [M.1,M.1]⟩) ?_
    unfold strictC
    simp only [hs]
    cases hl:f ⟨h.next,m,h.tr⟩ t' with
    | none=>
     have e:(match f ⟨h.next,m,h.tr⟩ t' with
      | some (v,h1)=>bB (Nat.blt h1.low m) (bB (sameSt i.size fa fx h t') (K (.tuple []) h) none) (K v ⟨h1.next,min h.low m,h1.tr⟩)
      | none=>none)=some r:=e
     rw [hl] at e;cases e
    | some y=>
     obtain ⟨v,h1⟩:=y
     have e:(match f ⟨h.next,m,h.tr⟩ t' with
      | some (v,h1)=>bB (Nat.blt h1.low m) (bB (sameSt i.size fa fx h t') (K (.tuple []) h) none) (K v ⟨h1.next,min h.low m,h1.tr⟩)
      | none=>none)=some r:=e
     rw [hl] at e
     have e:bB (Nat.blt h1.low m) (bB (sameSt i.size fa fx h t') (K (.tuple []) h) none) (K v ⟨h1.next,min h.low m,h1.tr⟩)=some r:=e
     have hM:=M.2 _ _ _ hl
     cases hb:Nat.blt h1.low m with
     | false=>
      rw [hb] at e
      refine ⟨v,_,?_,e⟩
      simp only [oval,M.1]
      refine runS_of ?_
      rw [hM]
      have:¬h1.low < m:=λ hlt=>by rw [show Nat.blt h1.low m=true from Nat.ble_eq_true_of_le hlt] at hb;cases hb
      show (if h1.low < m then none else _)=_
      rw [if_neg this]
     | true=>
      rw [hb] at e
      have hlow:lower m h.low (runM (lim P X) ⟨h.next,m,h.tr⟩ (opM P ⟨h.next,m,h.tr⟩ t (.store ty a x)))=none:=by
       rw [hM]
       show (if h1.low < m then none else _)=_
       exact if_pos (Nat.le_of_ble_eq_true hb)
      cases hq:sameSt i.size fa fx h t' with
      | false=>rw [hq] at e;cases e
      | true=>
       rw [hq] at e
       have hp:SameP P t h (.store ty a x):=by
        unfold sameSt at hq
        split at hq
        ·rename_i id off v h1 h2
         split at hq
         ·rename_i vs cs h3 h4
          rw [Bool.and_eq_true] at hq
          obtain ⟨q1,q2⟩:=hq
          split at q2
          ·rename_i cs' h5
           have:=eqSL_eq q2
           subst this
           rw [hasLen_eq] at q1
           rw [layX_eq] at h5
           split at h5
           ·rename_i hle
            exact ⟨ty,a,x,id,off,v,vs,_,i,rfl,compX_ok hσ ha h1,compX_ok hσ hx h2,h3,hi,of_decide_eq_true q1,h4,hle,Option.some.inj h5⟩
           ·cases h5
          ·cases q2
         ·cases hq
        ·cases hq
       refine ⟨_,_,?_,e⟩
       simp only [oval,M.1]
       unfold runS
       rw [hlow]
       exact if_pos hp
   ·cases hq
 | v f=>exact step_ok hc M e
 | l f=>exact step_ok hc M e
 | n f=>exact step_ok hc M e
 | c g xs=>exact step_ok hc M e
 | x f xs=>exact step_ok hc M e
theorem wanted_slot {ops:List Oper} {o:Oper} {gs:Nat} {w:Bool} {b:SV} (hs:slotOf ops o.guard=some (some (gs,w))) (hb:t.get gs=some b):wantedS ops t o=some (isB w b):=by
 unfold slotOf at hs
 split at hs
 ·cases hs
 ·rename_i j w' hg
  obtain ⟨g,h1,h2⟩:=bO_some hs
  cases h2
  unfold wantedS
  simp only [hg,yieldedS,h1,hb]
  cases b <;> rfl
theorem wanted_none {ops:List Oper} {o:Oper} (hs:slotOf ops o.guard=some none):wantedS ops t o=some true:=by
 unfold slotOf at hs
 split at hs
 ·rename_i hg
  simp only [wantedS,hg]
 ·rename_i j w' hg
  obtain ⟨g,h1,h2⟩:=bO_some hs
  cases h2
theorem guard_ok (hσ:Reads σ t t') {ops:List Oper} {o:Oper} {g:Option (Nat × Bool)} (hg:slotOf ops o.guard=some g) {s s':SF} (h1:guardTo σ s g=some s') {n m:Nat} {pc:PC} {A:Past} {h:H}
  (hs:∀ {K r},s c m t' h K=some r→∃ v h1,oval P (lim P X) (strictC m pc) o.op t h=some (v,h1)∧K v h1=some r∧SoftQ P pc A o.op t h) {K:SV→H→FR} {r:Flow × T × H} (e:s' c m t' h K=some r) :
  ∃ v h1,K v h1=some r∧(∀ t1,putT n t o.dst v=some t1→wantRun (wantedS ops t o) (opStep P (lim P X) n (strictC m pc) o t h) (skipT n o.dst t h)=some (t1,h1))∧(g=none→oval P (lim P X) (strictC m pc) o.op t h=some (v,h1))∧SoftP P ops pc A o t h:=by
 cases g with
 | none=>
  cases h1
  obtain ⟨v,h1,e1,e2,e3⟩:=hs e
  refine ⟨v,h1,e2,λ t1 hp=>?_,λ _=>e1,λ mask hm _=>e3 mask hm⟩
  rw [wanted_none hg]
  exact opStep_of e1 hp
 | some x=>
  obtain ⟨gs,w⟩:=x
  obtain ⟨f,h2,h3⟩:=bO_some (show bO (σ gs) (λ f=>some (sG f w s))=some s' from h1)
  cases h3
  obtain ⟨b,e1,e⟩:=bO_some (show bO (f t') (λ b=>bB (isB w b) (s c m t' h K) (K (.tuple []) h))=some r from e)
  have hb:=hσ _ _ h2 _ e1
  have hw:=wanted_slot hg hb
  cases hq:isB w b with
  | true=>
   rw [hq] at e hw
   obtain ⟨v,h1,e2,e3,e4⟩:=hs e
   refine ⟨v,h1,e3,λ t1 hp=>?_,(λ h=>by cases h),λ mask hm _=>e4 mask hm⟩
   rw [hw]
   exact opStep_of e2 hp
  | false=>
   rw [hq] at e hw
   refine ⟨_,_,e,λ t1 hp=>?_,(λ h=>by cases h),λ mask _ hw'=>by rw [hw] at hw';cases hw'⟩
   rw [hw]
   show skipT n o.dst t h=_
   simp only [skipT,hp,Option.map_some]
def Slots' (el:List Nat) (t t':T):Prop:=∀ d v,t'.get d=some v→hasN d el=false∧t.get d=some v
def KnownOK (subs:Known) (t:T):Prop:=∀ s,s ∈ subs→t.get s.1=some s.2
theorem findS_mem:∀ {subs:Known} {d:Nat} {v:SV},findS d subs=some v→(d,v) ∈ subs
 | [],_,_,h=>by cases h
 | s::l,d,v,h=>by
  cases hb:Nat.beq s.1 d
  ·have:findS d l=some v:=by simpa [findS,hb] using h
   exact List.mem_cons_of_mem _ (findS_mem this)
  ·have h2:some s.2=some v:=by simpa [findS,hb] using h
   cases h2
   have:=Nat.eq_of_beq_eq_true hb
   subst this
   exact List.mem_cons_self ..
theorem readOf_ok {el:List Nat} {subs:Known} (hR:Slots' el t t') (hK:KnownOK subs t):Reads (readOf subs) t t':=λ n f hf v hv=>by
 unfold readOf at hf
 cases hs:findS n subs with
 | none=>
  rw [hs] at hf
  cases hf
  rw [show xW n t'=t'.get n from getP_way n t'] at hv
  exact (hR n v hv).2
 | some u=>
  rw [hs] at hf
  cases hf
  cases hv
  exact hK _ (findS_mem hs)
theorem strike_mem:∀ {subs:Known} {d:Nat} {s:Nat × SV},s ∈ strike d subs→s ∈ subs∧s.1≠d
 | [],_,_,h=>by cases h
 | x::l,d,s,h=>by
  cases hb:Nat.beq x.1 d
  ·have h2:s ∈ x::strike d l:=by simpa [strike,hb] using h
   rcases List.mem_cons.1 h2 with rfl | h3
   ·exact ⟨List.mem_cons_self ..,λ e=>by rw [e] at hb;simp at hb⟩
   ·obtain ⟨a,b⟩:=strike_mem h3
    exact ⟨List.mem_cons_of_mem _ a,b⟩
  ·have h2:s ∈ strike d l:=by simpa [strike,hb] using h
   obtain ⟨a,b⟩:=strike_mem h2
   exact ⟨List.mem_cons_of_mem _ a,b⟩
theorem known_strike {subs:Known} (hK:KnownOK subs t) (d:Nat) (v:SV):KnownOK (strike d subs) (t.set d v):=λ s hs=>by
 obtain ⟨a,b⟩:=strike_mem hs
 rw [Tr.get_set,if_neg b]
 exact hK s a
theorem known_put {subs:Known} (hK:KnownOK subs t) (d:Nat) (v:SV):KnownOK ((d,v)::strike d subs) (t.set d v):=λ s hs=>by
 rcases List.mem_cons.1 hs with rfl | h
 ·rw [Tr.get_set,if_pos rfl]
 ·exact known_strike hK d v s h
theorem knows_ok {subs:Known} (hK:KnownOK subs t) {also:Option Nat} {d:Nat} {v:SV} (ha:∀ s,also=some s→s≠d∧t.get s=some v):KnownOK (knows also d v subs) (t.set d v):=by
 cases also with
 | none=>exact known_put hK d v
 | some s=>
  obtain ⟨h1,h2⟩:=ha s rfl
  intro x hx
  rcases List.mem_cons.1 hx with rfl | h
  ·rw [Tr.get_set,if_pos rfl]
  ·rcases List.mem_cons.1 h with rfl | h
   ·rw [Tr.get_set,if_neg h1];exact h2
   ·exact known_strike hK d v x h
theorem also_ok {g:Option (Nat × Bool)} {d:Nat} {o:Oper} {e:Ev} {st:Option Nat} {h h1:H} {v:SV} (hv:g=none→oval P e st o.op t h=some (v,h1)):∀ s,alsoOf g d o=some s→s≠d∧t.get s=some v:=by
 intro s hs
 have mv:∀ x,oval P e st (.move x) t h=some (v,h1)→opd t x=some v:=by
  intro x hx
  cases hq:opd t x with
  | none=>cases st with
   | none=>simp [oval,opN,nVal,hq,opM,runM] at hx
   | some m'=>simp [oval,opN,nVal,hq,runS_other (P:=P) (op:=.move x) rfl (λ _ _ _ h=>by cases h)] at hx
  | some u=>
   cases st <;> simp [oval,opN,nVal,hq,ovalN] at hx <;> rw [hx.1]
 have mv2:∀ x,oval P e st (.assign x) t h=some (v,h1)→opd t x=some v:=by
  intro x hx
  cases hq:opd t x with
  | none=>cases st with
   | none=>simp [oval,opN,nVal,hq,opM,runM] at hx
   | some m'=>simp [oval,opN,nVal,hq,runS_other (P:=P) (op:=.assign x) rfl (λ _ _ _ h=>by cases h)] at hx
  | some u=>
   cases st <;> simp [oval,opN,nVal,hq,ovalN] at hx <;> rw [hx.1]
 unfold alsoOf at hs
 split at hs
 ·rename_i s' ho
  cases hb:Nat.beq s' d
  ·rw [hb] at hs;cases hs
   exact ⟨λ e=>by rw [e] at hb;simp at hb,mv (.tmp _) (by rw [← ho];exact hv rfl)⟩
  ·rw [hb] at hs;cases hs
 ·rename_i s' ho
  cases hb:Nat.beq s' d
  ·rw [hb] at hs;cases hs
   exact ⟨λ e=>by rw [e] at hb;simp at hb,mv2 (.tmp _) (by rw [← ho];exact hv rfl)⟩
  ·rw [hb] at hs;cases hs
 ·cases hs
theorem force_eq {β:Type}:∀ (l:Known) (k:Known→β),@List.rec (Nat × SV) (λ _=>(Known→β)→β) (λ k=>k []) (λ x _ ih k=>ih λ xs=>k (x::xs)) l k=k l
 | [],_=>rfl
 | x::l,k=>force_eq l λ xs=>k (x::xs)
theorem struck_ok {el:List Nat} {subs:Known} {g:Option (Nat × Bool)} {o:Oper} {s:Nat × SV} (hK:KnownOK subs t) (h:struck el subs g o=some s):g=none∧o.dst=some s.1∧hasN s.1 el=true∧∀ e st h,oval P e st o.op t h=some (s.2,h):=by
 unfold struck at h
 cases g with
 | some x=>cases h
 | none=>
  obtain ⟨d,h1,h⟩:=bO_some h
  obtain ⟨x,h2,h⟩:=bO_some h
  obtain ⟨h3,h⟩:=bB_some h
  obtain ⟨v,h4,h⟩:=bO_some h
  cases h
  have hx:opd t x=some v:=by
   cases x with
   | tmp n=>exact hK _ (findS_mem h4)
   | const c=>exact h4
   | func f=>exact h4
   | global g=>cases h4
  refine ⟨rfl,h1,h3,λ e st h=>?_⟩
  unfold movedOf at h2
  split at h2 <;> cases h2 <;> rename_i ho <;> rw [ho] <;> cases st <;> simp [oval,opN,nVal,hx,ovalN]
theorem slots_bound {el:List Nat} (hR:Slots' el t t') {d:Nat} (hd:hasN d el=true) (v:SV):Slots' el (t.set d v) t':=λ k u hk=>by
 obtain ⟨h1,h2⟩:=hR k u hk
 refine ⟨h1,?_⟩
 rw [Tr.get_set,if_neg (λ e=>by rw [e,hd] at h1;cases h1)]
 exact h2
theorem slots_set {el:List Nat} (hR:Slots' el t t') {d:Nat} (hd:hasN d el=false) (v:SV):Slots' el (t.set d v) (setP (way d) v t'):=λ k u hk=>by
 rw [setP_way,Tr.get_set] at hk
 rw [Tr.get_set]
 by_cases e:k=d
 ·rw [if_pos e] at hk ⊢
  subst e
  exact ⟨hd,hk⟩
 ·rw [if_neg e] at hk ⊢
  exact hR k u hk
structure PastRel (A A':Past):Prop where
 hs:A'.hs=A.hs
 fresh:A'.fresh=A.fresh
 late:∀ x,x ∈ A.late→∃ y,y ∈ A'.late∧y.1=x.1∧∀ h,y.2 h=true→x.2 h=true
theorem PastRel.soft {A A':Past} (q:PastRel A A') {ops:List Oper} {pc:PC} {o:Oper} {h:H} (k:SoftP P ops pc A' o t h):SoftP P ops pc A o t h:=λ mask h1 h2 x hx hb=>by
 have:=k mask h1 h2 x (by rw [q.hs];exact hx) hb
 rw [q.fresh] at this
 exact this
theorem lateFs_mem {i:Nat}:∀ {l:List (Nat × (H→Bool))} {x:Nat × (H→Bool)},x ∈ l→bitAt x.1 i=true→x.2 ∈ lateFs i l
 | [],_,h,_=>by simp at h
 | y::l,x,h,hb=>by
  unfold lateFs
  rcases List.mem_cons.1 h with rfl | h
  ·rw [hb];exact List.mem_cons_self ..
  ·have:=lateFs_mem h hb
   split
   ·exact List.mem_cons_of_mem _ this
   ·exact this
theorem allH_mem {h:H}:∀ {l:List (H→Bool)} {f:H→Bool},allH h l=true→f ∈ l→f h=true
 | [],_,_,hf=>by simp at hf
 | g::l,f,ha,hf=>by
  simp only [allH,Bool.and_eq_true] at ha
  rcases List.mem_cons.1 hf with rfl | hf
  ·exact ha.1
  ·exact allH_mem ha.2 hf
theorem look_ok (hσ:∀ {k:KK} {o:Op},compK P σ o=some k→Means P t t' o k) (hr:Reads σ t t') {subs:Known} (hs:σ=readOf subs) {ops:List Oper} {o:Oper} {g:Option (Nat × Bool)} (hg:slotOf ops o.guard=some g) {h h':H} (hw:wantedS ops t o=some true)
  (e:lookTo P subs g o t' h h'=true):opN P h'.get t o.op=opN P h.get t o.op:=by
 have key:∀ {k:KK},Means P t t' o.op k→lookK k t' h h'=true→opN P h'.get t o.op=opN P h.get t o.op:=by
  intro k M e
  cases k with
  | l f=>
   have e:(match f h.get t',f h'.get t' with
    | some u,some v=>eqSV u v
    | _,_=>false)=true:=e
   split at e
   ·rename_i u v h1 h2
    rw [M _ _ h1,M _ _ h2,eqSV_eq e]
   ·cases e
  | v f=>
   have e:(match f t' with
    | some _=>true
    | none=>false)=true:=e
   split at e
   ·rename_i u h1
    rw [M _ _ h1,M _ _ h1]
   ·cases e
  | n f=>
   have e:(match f t' with
    | some _=>true
    | none=>false)=true:=e
   split at e
   ·rename_i u h1
    rw [M _ _ h1,M _ _ h1]
   ·cases e
  | m f=>cases e
  | c f xs=>cases e
  | x f xs=>cases e
 cases hq:(bO (compK P (readOf subs) o.op) λ k=>lookG (readOf subs) (lookK k) g) with
 | none=>simp only [lookTo,hq] at e;cases e
 | some q=>
  simp only [lookTo,hq] at e
  obtain ⟨k,h1,h2⟩:=bO_some hq
  rw [← hs] at h1 h2
  cases g with
  | none=>cases h2;exact key (hσ h1) e
  | some x=>
   obtain ⟨gs,w⟩:=x
   obtain ⟨f,h3,h4⟩:=bO_some (show bO (σ gs) (λ f=>some (seeG f w (lookK k)))=some q from h2)
   cases h4
   have e:(match f t' with
    | some b=>bB (isB w b) (lookK k t' h h') true
    | none=>false)=true:=e
   split at e
   ·rename_i b hb
    have:=wanted_slot hg (hr _ _ h3 _ hb)
    rw [hw] at this
    have hi:isB w b=true:=(Option.some.inj this).symm
    rw [hi] at e
    exact key (hσ h1) e
   ·cases e
open Classical in
theorem cap_some {A0 A:Past} (hr:PastRel A0 A) {ops:List Oper} {o:Oper} {pc:PC} {l:List PC} {q:T→H→H→Bool} {f:(H→Past)→OF} {m:Nat} {h:H} {K:T→H→FR} {r:Flow × T × H}
  (hq:wantedS ops t o=some true→∀ h',q t' h h'=true→opN P h'.get t o.op=opN P h.get t o.op) (e:capOf pc l A q f c m t' h K=some r) :
  ∃ B:H→Past,(∀ h1 (g:Past→OF) (t2:T) (K2:T→H→FR) (r2:Flow × T × H),capTo pc A B g c m t2 h1 K2=some r2→∃ A2,PastRel (A0.next pc h h1 (lookOf P ops pc l o t h)) A2∧LateP pc A0 h1∧g A2 c m t2 h1 K2=some r2)∧f B c m t' h K=some r:=by
 cases pc with
 | keep s i=>
  refine ⟨λ h'=>A.next (.keep s i) h h' none,λ h1 g t2 K2 r2 e2=>?_,e⟩
  refine ⟨A.next (.keep s i) h h1 none,⟨?_,rfl,hr.late⟩,?_,?_⟩
  ·show (i,h)::A.hs=(i,h)::A0.hs
   rw [hr.hs]
  ·intro s' i' hc x hx hb
   cases hc
   obtain ⟨y,hy,hy1,hy2⟩:=hr.late x hx
   have hm:=lateFs_mem hy (by rw [hy1];exact hb)
   cases hn:lateFs i A.late with
   | nil=>rw [hn] at hm;simp at hm
   | cons z zs=>
    rw [hn] at hm
    simp only [capTo,hn] at e2
    obtain ⟨e3,_⟩:=bB_some (show bB (allH h1 (z::zs)) (g (A.next (.keep s i) h h1 none) c m t2 h1 K2) none=some r2 from e2)
    exact hy2 _ (allH_mem e3 hm)
  ·cases hn:lateFs i A.late with
   | nil=>simp only [capTo,hn] at e2;exact e2
   | cons z zs=>
    simp only [capTo,hn] at e2
    exact (bB_some (show bB (allH h1 (z::zs)) (g (A.next (.keep s i) h h1 none) c m t2 h1 K2) none=some r2 from e2)).2
 | free=>exact ⟨λ _=>A,λ _ _ _ _ _ e2=>⟨A,hr,λ _ _ hc=>(by cases hc),e2⟩,e⟩
 | hard=>exact ⟨λ _=>A,λ _ _ _ _ _ e2=>⟨A,hr,λ _ _ hc=>(by cases hc),e2⟩,e⟩
 | soft mask=>
  unfold capOf at e
  dsimp only at e
  cases hl:laterBit (.soft mask) l with
  | false=>
   rw [hl] at e
   refine ⟨λ _=>A,λ h1 _ _ _ _ e2=>⟨A,?_,λ _ _ hc=>(by cases hc),e2⟩,e⟩
   unfold lookOf
   rw [if_neg (by rw [hl];simp)]
   exact hr
  | true=>
   rw [hl] at e
   refine ⟨λ _=>A.next (.soft mask) .empty .empty (some (q t' h)),λ h1 _ _ _ _ e2=>⟨A.next (.soft mask) .empty .empty (some (q t' h)),?_,λ _ _ hc=>(by cases hc),e2⟩,e⟩
   unfold lookOf
   by_cases hw:wantedS ops t o=some true
   ·rw [if_pos ⟨hl,hw⟩]
    refine ⟨hr.hs,hr.fresh,λ x hx=>?_⟩
    rcases List.mem_cons.1 (show x ∈ (mask,λ h'=>decide (opN P h'.get t o.op=opN P h.get t o.op))::A0.late from hx) with rfl | hx
    ·exact ⟨_,List.mem_cons_self ..,rfl,λ h' hh=>decide_eq_true (hq hw h' hh)⟩
    ·obtain ⟨y,h1,h2⟩:=hr.late x hx
     exact ⟨y,List.mem_cons_of_mem _ h1,h2⟩
   ·rw [if_neg (λ h=>hw h.2)]
    refine ⟨hr.hs,hr.fresh,λ x hx=>?_⟩
    obtain ⟨y,h1,h2⟩:=hr.late x hx
    exact ⟨y,List.mem_cons_of_mem _ h1,h2⟩
theorem compOs_ok (hc:CLe P X c) {n m:Nat} {el:List Nat} {ops:List Oper}:∀ {l:List Oper} {plan:List PC} {A0 A:Past} {subs:Known} {t t':T} {h:H} {K:T→H→FR} {r:Flow × T × H},PastRel A0 A→Slots' el t t'→KnownOK subs t →
  compOs P n el ops l plan A subs c m t' h K=some r→∃ t1 t1' h1,runOps P (lim P X) n m ops l plan A0 t h=some (t1,h1)∧Slots' el t1 t1'∧K t1' h1=some r
 | [],_,_,_,_,t,t',h,K,r,hA,hR,hK,e=>⟨t,t',h,rfl,hR,e⟩
 | o::l,plan,A0,A,subs,t,t',h,K,r,hA,hR,hK,e=>by
  cases hg:slotOf ops o.guard with
  | none=>simp only [compOs,hg] at e;cases e
  | some g=>
   simp only [compOs,hg] at e
   cases hs:struck el subs g o with
   | some s=>
    obtain ⟨rfl,h1,h2,h3⟩:=struck_ok (P:=P) hK hs
    simp only [hs] at e
    cases hlt:Nat.blt s.1 n with
    | false=>simp only [hlt] at e;cases e
    | true=>
     simp only [hlt] at e
     cases hpc:headC plan with
     | hard=>simp only [hpc] at e;cases e
     | soft mask=>simp only [hpc] at e;cases e
     | keep s i=>simp only [hpc] at e;cases e
     | free=>
      simp only [hpc] at e
      erw [force_eq] at e
      have hlt:s.1 < n:=by simpa [Nat.blt_eq] using hlt
      obtain ⟨t1,t1',h4,e1,e2,e3⟩:=compOs_ok hc hA (slots_bound hR h2 s.2) (known_put hK s.1 s.2) e
      refine ⟨t1,t1',h4,?_,e2,e3⟩
      rw [runOps_yes (by rw [hpc];intro mask hm;cases hm),wanted_none hg,hpc]
      have:=opStep_of (n:=n) (t1:=t.set s.1 s.2) (h3 (lim P X) (strictC m .free) h) (by rw [h1];simp [putT,hlt])
      simp only [wantRun,this,andThen]
      exact (lateRun_of (λ _ _ hc=>by cases hc)).trans e1
   | none=>
    simp only [hs] at e
    cases hs:compO P subs g (headC plan) A o with
    | none=>simp only [hs] at e;cases e
    | some s=>
     simp only [hs] at e
     obtain ⟨k,h1,h2⟩:=bO_some hs
     have hRd:=readOf_ok hR hK
     have hM:=compK_ok hRd h1
     have stp:∀ {K:SV→H→FR},s c m t' h K=some r→∃ v h1,K v h1=some r∧(∀ t1,putT n t o.dst v=some t1→wantRun (wantedS ops t o) (opStep P (lim P X) n (strictC m (headC plan)) o t h) (skipT n o.dst t h)=some (t1,h1))∧(g=none→oval P (lim P X) (strictC m (headC plan)) o.op t h=some (v,h1))∧SoftP P ops (headC plan) A o t h:=by
      intro K e
      exact guard_ok hRd hg h2 (λ {K r} e=>step_okS hRd hc hM e) e
     cases hd:o.dst with
     | none=>
      simp only [hd] at e
      obtain ⟨B,hB,e⟩:=cap_some (P:=P) (ops:=ops) (o:=o) hA (λ hw h'=>look_ok (λ h1=>compK_ok hRd h1) hRd rfl hg hw) e
      obtain ⟨v,h4,e1,e2,e3,e7⟩:=stp e
      obtain ⟨A2,hA2,hL,e1⟩:=hB _ _ _ _ _ e1
      have e2:=e2 t (by rw [hd];rfl)
      obtain ⟨t1,t1',h5,e4,e5,e6⟩:=compOs_ok hc hA2 hR hK e1
      exact ⟨t1,t1',h5,by rw [runOps_yes (hA.soft e7),e2];exact (lateRun_of hL).trans e4,e5,e6⟩
     | some d=>
      simp only [hd] at e
      cases hlt:Nat.blt d n with
      | false=>simp only [hlt] at e;cases e
      | true=>
       simp only [hlt] at e
       have hlt:d < n:=by simpa [Nat.blt_eq] using hlt
       cases hel:hasN d el with
       | true=>
        simp only [hel] at e
        obtain ⟨B,hB,e⟩:=cap_some (P:=P) (ops:=ops) (o:=o) hA (λ hw h'=>look_ok (λ h1=>compK_ok hRd h1) hRd rfl hg hw) e
        obtain ⟨v,h4,e1,e2,e3,e7⟩:=stp e
        dsimp only at e1
        erw [force_eq] at e1
        obtain ⟨A2,hA2,hL,e1⟩:=hB _ _ _ _ _ e1
        have e2:=e2 (t.set d v) (by rw [hd];simp [putT,hlt])
        obtain ⟨t1,t1',h5,e4,e5,e6⟩:=compOs_ok hc hA2 (slots_bound hR hel v) (knows_ok hK (also_ok e3)) e1
        exact ⟨t1,t1',h5,by rw [runOps_yes (hA.soft e7),e2];exact (lateRun_of hL).trans e4,e5,e6⟩
       | false=>
        simp only [hel] at e
        obtain ⟨B,hB,e⟩:=cap_some (P:=P) (ops:=ops) (o:=o) hA (λ hw h'=>look_ok (λ h1=>compK_ok hRd h1) hRd rfl hg hw) e
        obtain ⟨v,h4,e1,e2,e3,e7⟩:=stp e
        dsimp only at e1
        erw [force_eq] at e1
        obtain ⟨A2,hA2,hL,e1⟩:=hB _ _ _ _ _ e1
        have e2:=e2 (t.set d v) (by rw [hd];simp [putT,hlt])
        obtain ⟨t1,t1',h5,e4,e5,e6⟩:=compOs_ok hc hA2 (slots_set hR hel v) (knows_ok hK (also_ok e3)) e1
        exact ⟨t1,t1',h5,by rw [runOps_yes (hA.soft e7),e2];exact (lateRun_of hL).trans e4,e5,e6⟩
end
end Go.Sh
end
section
/- The compiled machine: code and calls. -/
namespace Go.Sh
section
variable {P:Program} {X:FuncId→Option (List SV→H→Option (SV × H))}
def SoundC (P:Program) (X:FuncId→Option (List SV→H→Option (SV × H))) (n:Nat) (el:List Nat) (code:Code) (a:Cd):Prop:=
 ∀ c,CLe P X c→∀ (k:Nat) (t t':T) (h:H) (fl:Flow) (t1':T) (h1:H),Slots' el t t'→a k c t' h=some (fl,t1',h1)→∃ t1,Slots' el t1 t1'∧(lim P X).job (.code code) n t h=some (fl,t1,h1)
theorem compR_ok {c:CF} (hc:CLe P X c) {n:Nat} {el:List Nat} {ops:Array Oper} {draw:Bool} {t t':T} {h:H} {K:T→H→FR} {r:Flow × T × H} (hR:Slots' el t t') (e:compR P n el ops.toList draw c h.next t' h K=some r) :
  ∃ t1 t1' h1,regionStep P (lim P X) n ops draw t h=some (t1,h1)∧Slots' el t1 t1'∧K t1' h1=some r:=by
 unfold compR at e
 unfold regionStep
 cases draw with
 | false=>
  simp only [Bool.false_eq_true,if_false]
  exact compOs_ok hc ⟨rfl,rfl,λ x hx=>by cases hx⟩ hR (λ s hs=>by cases hs) e
 | true=>
  simp only [if_true]
  cases hp:drawPlan P ops.toList with
  | none=>simp only [hp] at e;cases e
  | some plan=>
   simp only [hp] at e
   exact compOs_ok hc ⟨rfl,rfl,λ x hx=>by cases hx⟩ hR (λ s hs=>by cases hs) e
theorem knext_some {r:FR} {k:T→H→FR} {x:Flow × T × H} (e:knext r k=some x):(∃ t h,r=some (.normal,t,h)∧k t h=some x)∨(r=some x∧x.1≠.normal):=by
 cases r with
 | none=>cases e
 | some y=>
  obtain ⟨fl,t,h⟩:=y
  cases fl with
  | normal=>exact .inl ⟨t,h,rfl,e⟩
  | exit id=>cases e;exact .inr ⟨rfl,by simp⟩
  | goto l=>cases e;exact .inr ⟨rfl,by simp⟩
  | ret=>cases e;exact .inr ⟨rfl,by simp⟩
theorem job_seq_normal {a b:Code} {n:Nat} {t t1:T} {h h1:H} (e:(lim P X).job (.code a) n t h=some (.normal,t1,h1)):(lim P X).job (.code (.seq a b)) n t h=(lim P X).job (.code b) n t1 h1:=by
 rw [job_eq];simp only [jobStep,e]
theorem job_seq_other {a b:Code} {n:Nat} {t:T} {h:H} {x:Flow × T × H} (e:(lim P X).job (.code a) n t h=some x) (hx:x.1≠.normal):(lim P X).job (.code (.seq a b)) n t h=some x:=by
 rw [job_eq];simp only [jobStep,e]
 obtain ⟨fl,t1,h1⟩:=x
 cases fl <;> first | rfl | exact absurd rfl hx
theorem job_loop_normal {a:Code} {n:Nat} {t t1:T} {h h1:H} (e:(lim P X).job (.code a) n t h=some (.normal,t1,h1)):(lim P X).job (.code (.loop a)) n t h=(lim P X).job (.code (.loop a)) n t1 h1:=by
 rw [job_eq];simp only [jobStep,e]
theorem job_loop_other {a:Code} {n:Nat} {t:T} {h:H} {x:Flow × T × H} (e:(lim P X).job (.code a) n t h=some x) (hx:x.1≠.normal):(lim P X).job (.code (.loop a)) n t h=some x:=by
 rw [job_eq];simp only [jobStep,e]
 obtain ⟨fl,t1,h1⟩:=x
 cases fl <;> first | rfl | exact absurd rfl hx
theorem sound_seq {n:Nat} {el:List Nat} {a b:Code} {x y:Cd} (ha:SoundC P X n el a x) (hb:SoundC P X n el b y):SoundC P X n el (.seq a b) (cSeq x y):=λ c hc k t t' h fl t1' h1 hR e=>by
 rcases knext_some (show knext (x k c t' h) (y k c)=some (fl,t1',h1) from e) with ⟨t2,h2,e1,e2⟩ | ⟨e1,e2⟩
 ·obtain ⟨t3,h3,h4⟩:=ha c hc k t t' h _ _ _ hR e1
  obtain ⟨t4,h5,h6⟩:=hb c hc k t3 t2 h2 _ _ _ h3 e2
  exact ⟨t4,h5,by rw [job_seq_normal h4];exact h6⟩
 ·obtain ⟨t3,h3,h4⟩:=ha c hc k t t' h _ _ _ hR e1
  exact ⟨t3,h3,job_seq_other h4 e2⟩
theorem sound_loop {n:Nat} {el:List Nat} {a:Code} {x:Cd} (ha:SoundC P X n el a x):SoundC P X n el (.loop a) (cLoop x):=λ c hc k=>by
 induction k with
 | zero=>intro t t' h fl t1' h1 hR e;cases e
 | succ k ih=>
  intro t t' h fl t1' h1 hR e
  rcases knext_some (show knext (x (k+1) c t' h) (cLoop x k c)=some (fl,t1',h1) from e) with ⟨t2,h2,e1,e2⟩ | ⟨e1,e2⟩
  ·obtain ⟨t3,h3,h4⟩:=ha c hc (k+1) t t' h _ _ _ hR e1
   obtain ⟨t4,h5,h6⟩:=ih t3 t2 h2 _ _ _ h3 e2
   exact ⟨t4,h5,by rw [job_loop_normal h4];exact h6⟩
  ·obtain ⟨t3,h3,h4⟩:=ha c hc (k+1) t t' h _ _ _ hR e1
   exact ⟨t3,h3,job_loop_other h4 e2⟩
theorem sound_block {n id:Nat} {el:List Nat} {a:Code} {x:Cd} (ha:SoundC P X n el a x):SoundC P X n el (.block id a) (cBlock id x):=λ c hc k t t' h fl t1' h1 hR e=>by
 have e:kleave id (x k c t' h)=some (fl,t1',h1):=e
 cases hx:x k c t' h with
 | none=>rw [hx] at e;cases e
 | some y=>
  rw [hx] at e
  obtain ⟨fl2,t2,h2⟩:=y
  obtain ⟨t3,h3,h4⟩:=ha c hc k t t' h _ _ _ hR hx
  cases fl2 with
  | normal=>cases e;exact ⟨t3,h3,by rw [job_eq];simp only [jobStep,h4]⟩
  | goto l=>cases e;exact ⟨t3,h3,by rw [job_eq];simp only [jobStep,h4]⟩
  | ret=>cases e;exact ⟨t3,h3,by rw [job_eq];simp only [jobStep,h4]⟩
  | exit id'=>
   have e:bB (Nat.beq id' id) (some (Flow.normal,t2,h2)) (some (.exit id',t2,h2))=some (fl,t1',h1):=e
   cases hb:Nat.beq id' id
   ·rw [hb] at e;cases e
    exact ⟨t3,h3,by rw [job_eq];simp only [jobStep,h4];rw [if_neg (λ e=>by rw [e] at hb;simp at hb)]⟩
   ·rw [hb] at e;cases e
    exact ⟨t3,h3,by rw [job_eq];simp only [jobStep,h4];rw [if_pos (Nat.eq_of_beq_eq_true hb)]⟩
theorem sound_cond {n:Nat} {el:List Nat} {q:Operand} {f:XF} {a b:Code} {x y:Cd} (hq:compX (readOf []) q=some f) (ha:SoundC P X n el a x) (hb:SoundC P X n el b y):SoundC P X n el (.cond q a b) (cCond f x y):=λ c hc k t t' h fl t1' h1 hR e=>by
 obtain ⟨v,e1,e⟩:=bO_some (show bO (f t') (λ v=>bO (asB v) λ q=>bB q (x k c t' h) (y k c t' h))=some (fl,t1',h1) from e)
 obtain ⟨bb,e2,e⟩:=bO_some e
 have hv:=compX_ok (readOf_ok hR (λ s hs=>by cases hs)) hq e1
 rw [asB_some e2] at hv
 cases bb with
 | true=>
  obtain ⟨t3,h3,h4⟩:=ha c hc k t t' h _ _ _ hR e
  exact ⟨t3,h3,by rw [job_eq];simp only [jobStep,hv];exact h4⟩
 | false=>
  obtain ⟨t3,h3,h4⟩:=hb c hc k t t' h _ _ _ hR e
  exact ⟨t3,h3,by rw [job_eq];simp only [jobStep,hv];exact h4⟩
theorem sound_no {n:Nat} {el:List Nat} {a:Code}:SoundC P X n el a cNo:=λ c hc k t t' h fl t1' h1 hR e=>by cases e
theorem behind_ok {f:Code→Cd} {c:Code}:∀ {l:List Nat} {k:Nat} {b:Cd},behind (labsTo f c l) k=some b→∃ rest,findLabel c k=some rest∧b=f rest
 | [],_,_,h=>by cases h
 | i::l,k,b,h=>by
  unfold labsTo at h
  cases hf:findLabel c i with
  | none=>rw [hf] at h;exact behind_ok h
  | some r=>
   rw [hf] at h
   have h:bB (Nat.beq i k) (some (f r)) (behind (labsTo f c l) k)=some b:=h
   cases hb:Nat.beq i k
   ·rw [hb] at h;exact behind_ok h
   ·rw [hb] at h;cases h
    have:=Nat.eq_of_beq_eq_true hb
    subst this
    exact ⟨r,hf,rfl⟩
theorem within_goto {cur body rest:Code} {n l:Nat} {t t1:T} {h h1:H} (e:(lim P X).job (.code cur) n t h=some (.goto l,t1,h1)) (hl:findLabel body l=some rest):(lim P X).job (.within cur body) n t h=(lim P X).job (.within rest body) n t1 h1:=by
 rw [job_eq];simp only [jobStep,e,hl]
theorem within_other {cur body:Code} {n:Nat} {t:T} {h:H} {x:Flow × T × H} (e:(lim P X).job (.code cur) n t h=some x) (hx:∀ l,x.1≠.goto l):(lim P X).job (.within cur body) n t h=some x:=by
 rw [job_eq];simp only [jobStep,e]
 obtain ⟨fl,t1,h1⟩:=x
 cases fl <;> first | rfl | exact absurd rfl (hx _)
theorem sound_scope {n:Nat} {el:List Nat} {a:Code} {f:Code→Cd} (hf:∀ b,SoundC P X n el b (f b)):SoundC P X n el (.scope a) (cScope (f a) (labsTo f a (labels a))):=λ c hc k=>by
 have main:∀ k (cur:Code) t t' h fl t1' h1,Slots' el t t'→kscope (labsTo f a (labels a)) k c (f cur) t' h=some (fl,t1',h1)→∃ t1,Slots' el t1 t1'∧(lim P X).job (.within cur a) n t h=some (fl,t1,h1):=by
  intro k
  induction k with
  | zero=>intro cur t t' h fl t1' h1 hR e;cases e
  | succ k ih=>
   intro cur t t' h fl t1' h1 hR e
   have e:kjump (f cur (k+1) c t' h) (λ l t h=>match behind (labsTo f a (labels a)) l with
    | some b=>kscope (labsTo f a (labels a)) k c b t h
    | none=>none)=some (fl,t1',h1):=e
   cases hx:f cur (k+1) c t' h with
   | none=>rw [hx] at e;cases e
   | some y=>
    rw [hx] at e
    obtain ⟨fl2,t2,h2⟩:=y
    obtain ⟨t3,h3,h4⟩:=hf cur c hc (k+1) t t' h _ _ _ hR hx
    cases fl2 with
    | normal=>cases e;exact ⟨t3,h3,within_other h4 (λ l=>by simp)⟩
    | exit id=>cases e;exact ⟨t3,h3,within_other h4 (λ l=>by simp)⟩
    | ret=>cases e;exact ⟨t3,h3,within_other h4 (λ l=>by simp)⟩
    | goto l=>
     simp only [kjump] at e
     cases hb:behind (labsTo f a (labels a)) l with
     | none=>rw [hb] at e;cases e
     | some b=>
      rw [hb] at e
      obtain ⟨rest,h5,rfl⟩:=behind_ok hb
      obtain ⟨t4,h6,h7⟩:=ih rest t3 t2 h2 _ _ _ h3 e
      exact ⟨t4,h6,by rw [within_goto h4 h5];exact h7⟩
 intro t t' h fl t1' h1 hR e
 obtain ⟨t3,h3,h4⟩:=main k a t t' h fl t1' h1 hR e
 exact ⟨t3,h3,by rw [job_eq];simp only [jobStep];exact h4⟩
theorem compC_ok {n:Nat} {el:List Nat}:∀ (k:Nat) (a:Code),SoundC P X n el a (compC P n el k a)
 | 0,a=>sound_no
 | k+1,.skip=>λ c hc k t t' h fl t1' h1 hR e=>by cases e;exact ⟨t,hR,by rw [job_eq];rfl⟩
 | k+1,.label _=>λ c hc k t t' h fl t1' h1 hR e=>by cases e;exact ⟨t,hR,by rw [job_eq];rfl⟩
 | k+1,.ret=>λ c hc k t t' h fl t1' h1 hR e=>by cases e;exact ⟨t,hR,by rw [job_eq];rfl⟩
 | k+1,.exit _=>λ c hc k t t' h fl t1' h1 hR e=>by cases e;exact ⟨t,hR,by rw [job_eq];rfl⟩
 | k+1,.goto _=>λ c hc k t t' h fl t1' h1 hR e=>by cases e;exact ⟨t,hR,by rw [job_eq];rfl⟩
 | k+1,.region id ops draw=>λ c hc k t t' h fl t1' h1 hR e=>by
  obtain ⟨t1,t2,h2,e1,e2,e3⟩:=compR_ok hc hR (show compR P n el ops.toList draw c h.next t' h (λ t h=>some (.normal,t,h))=some (fl,t1',h1) from e)
  cases e3
  exact ⟨t1,e2,by rw [job_eq];simp only [jobStep,e1,Option.map_some]⟩
 | k+1,.seq a b=>sound_seq (compC_ok k a) (compC_ok k b)
 | k+1,.cond q a b=>by
  show SoundC P X n el _ (match compX (readOf []) q with
   | some c=>cCond c (compC P n el k a) (compC P n el k b)
   | none=>cNo)
  cases hq:compX (readOf []) q with
  | none=>exact sound_no
  | some f=>exact sound_cond hq (compC_ok k a) (compC_ok k b)
 | k+1,.block _ a=>sound_block (compC_ok k a)
 | k+1,.loop a=>sound_loop (compC_ok k a)
 | k+1,.scope a=>sound_scope (f:=compC P n el k) (λ b=>compC_ok k b)
 | k+1,.rangeFunc ..=>sound_no
 | k+1,.refuse _=>sound_no
def Compiled (P:Program) (f:FuncId) (kf:KF):Prop:=∃ fn el,P.funcs[f]?=some fn∧compF P el fn=some kf
theorem waysTo_len:∀ {k m:Nat},(waysTo m k).length=k
 | 0,_=>rfl
 | k+1,m=>by simp [waysTo,waysTo_len]
theorem argsP_ok:∀ {k m:Nat} {args:List SV} {t t1:T},argsP (waysTo m k) args t=some t1→t1=argsT args m t∧args.length=k
 | 0,m,[],t,t1,h=>by cases h;exact ⟨rfl,rfl⟩
 | 0,m,_::_,t,t1,h=>by cases h
 | k+1,m,[],t,t1,h=>by cases h
 | k+1,m,v::args,t,t1,h=>by
  obtain ⟨h1,h2⟩:=argsP_ok (show argsP (waysTo (m+1) k) args (setP (way m) v t)=some t1 from h)
  rw [setP_way] at h1
  exact ⟨h1,by simp [h2]⟩
theorem kresL_ok {el:List Nat} {t t':T} {h:H} (hR:Slots' el t t'):∀ {l:List ResultVar} {rs:List RF} {vs:List SV},compRes P l=some rs→kresL t' h rs=some vs→resultsS P t h l=some vs
 | [],rs,vs,h1,h2=>by cases h1;cases h2;rfl
 | .tmp i::l,rs,vs,h1,h2=>by
  obtain ⟨r,h3,h4⟩:=bO_some (show bO (compRes P l) (λ r=>some (RF.tmp (way i)::r))=some rs from h1)
  cases h4
  obtain ⟨v,h5,h6⟩:=bO_some (show bO (getP (way i) t') (λ v=>bO (kresL t' h r) λ vs=>some (v::vs))=some vs from h2)
  obtain ⟨ws,h7,h8⟩:=bO_some h6
  cases h8
  rw [getP_way] at h5
  simp only [resultsS,resultS,(hR _ _ h5).2,kresL_ok hR h3 h7]
 | .cell a ty::l,rs,vs,h1,h2=>by
  obtain ⟨s,h0,h1⟩:=bO_some (show bO (partTo P ty) (λ s=>bO (compRes P l) λ r=>some (RF.cell (way a) s::r))=some rs from h1)
  obtain ⟨r,h3,h4⟩:=bO_some h1
  cases h4
  obtain ⟨v,h5,h6⟩:=bO_some (show bO (kres t' h (.cell (way a) s)) (λ v=>bO (kresL t' h r) λ vs=>some (v::vs))=some vs from h2)
  obtain ⟨ws,h7,h8⟩:=bO_some h6
  cases h8
  obtain ⟨u,e1,e⟩:=bO_some (show bO (getP (way a) t') (λ u=>bO (asP u) λ a=>bO (rowCells h.get a.1) λ cs=>kpart s cs a.2)=some v from h5)
  obtain ⟨p,e2,e⟩:=bO_some e
  obtain ⟨cs,e3,e⟩:=bO_some e
  rw [getP_way] at e1
  have e4:=(hR _ _ e1).2
  rw [asP_some e2] at e4
  simp only [resultsS,resultS,e4,e3,part_ok h0 e,kresL_ok hR h3 h7]
theorem kenter_ok {c:CF} (hc:CLe P X c) {f:FuncId} {kf:KF} (hX:X f=none) (hk:Compiled P f kf) {k:Nat} {args:List SV} {h:H} {r:SV × H} (e:kenter kf k c args h=some r):(lim P X).call f args h=some r:=by
 obtain ⟨fn,el,hf,hk⟩:=hk
 obtain ⟨code,hb,hk⟩:=bO_some hk
 obtain ⟨rs,hr,hk⟩:=bO_some hk
 obtain ⟨hl,hk⟩:=bB_some hk
 cases hk
 simp only [Bool.and_eq_true,List.all_eq_true] at hl
 obtain ⟨hl1,hl2⟩:=hl
 have hl1:=Nat.le_of_ble_eq_true hl1
 obtain ⟨t',h1,e⟩:=bO_some e
 obtain ⟨h2,h3⟩:=argsP_ok h1
 subst h2
 have hR:Slots' el (argsT args 0 .leaf) (argsT args 0 .leaf):=λ d v hd=>by
  refine ⟨?_,hd⟩
  rw [argsT_get] at hd
  split at hd
  ·rename_i hlt
   cases hh:hasN d el with
   | false=>rfl
   | true=>
    exfalso
    have:∀ l:List Nat,hasN d l=true→d ∈ l:=by
     intro l
     induction l with
     | nil=>intro h;cases h
     | cons a l ih=>
      intro h
      simp only [hasN,Bool.or_eq_true] at h
      rcases h with h | h
      ·have:=Nat.eq_of_beq_eq_true h;subst this;exact List.mem_cons_self ..
      ·exact List.mem_cons_of_mem _ (ih h)
    have:=Nat.le_of_ble_eq_true (hl2 d (this el hh))
    omega
  ·simp [Tr.get_leaf] at hd
 have fin:∀ fl t1' h1,compC P fn.ntmps el 400 code k c (argsT args 0 .leaf) h=some (fl,t1',h1)→(fl=.normal∨fl=.ret)→bO (kresL t1' h1 rs) (λ vs=>some (oneS vs,h1))=some r→(lim P X).call f args h=some r:=by
  intro fl t1' h1 e1 hfl e2
  obtain ⟨vs,e3,e4⟩:=bO_some e2
  cases e4
  obtain ⟨t1,hR1,hj⟩:=compC_ok (P:=P) (X:=X) 400 code c hc k _ _ h _ _ _ hR e1
  rw [call_eq]
  unfold callStep
  simp only [hX,hf,hb]
  rw [if_pos (by omega),hj]
  rcases hfl with rfl | rfl <;> simp only [kresL_ok hR1 hr e3,Option.map_some]
 unfold kfin at e
 dsimp only at e
 split at e
 ·rename_i t1 h1 e1;exact fin _ _ _ e1 (.inl rfl) e
 ·rename_i t1 h1 e1;exact fin _ _ _ e1 (.inr rfl) e
 ·cases e
theorem kcall_ok {K:FuncId→Option KF} (hK:∀ f kf,K f=some kf→Compiled P f kf):∀ n,CLe P X (kcall K X n)
 | 0=>λ f args h r e=>by cases e
 | n+1=>λ f args h r e=>by
  have e:@Option.rec (List SV→H→Option (SV × H)) (λ _=>Option (SV × H)) (bO (K f) λ fn=>kenter fn (n+1) (kcall K X n) args h) (λ g=>g args h) (X f)=some r:=e
  cases hX:X f with
  | some g=>
   rw [hX] at e
   rw [call_eq];unfold callStep;simp only [hX];exact e
  | none=>
   rw [hX] at e
   obtain ⟨kf,h1,e⟩:=bO_some e
   exact kenter_ok (kcall_ok hK n) hX (hK _ _ h1) e
end
end Go.Sh
end
