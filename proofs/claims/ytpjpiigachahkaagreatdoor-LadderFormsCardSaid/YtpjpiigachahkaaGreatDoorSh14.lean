/- General laws of the proof: a shadow machine of the form, its soundness, and a compiled form of it. -/
import Derived.Test.YtpjpiigachahkaaGreatDoorSh13
import Derived.ChangeArms
set_option linter.unusedVariables false
set_option linter.unusedSimpArgs false
set_option linter.unusedSectionVars false
section
/- The entry: what can be read of arguments as data is a shadow heap of rows from outside. -/
namespace Go.Sh
def flatF (P:Program) (r:TypeId→Bool):List Field→Nat→Nat→Bool
 | [],off,n=>off == n
 | f::l,off,n=>(f.offset == off)&&(r f.type&&flatF P r l (off+P.cellsOf f.type) n)
def flatT (P:Program):Nat→TypeId→Bool
 | 0,_=>false
 | n+1,t=>match P.underlying t with
  | some .bool | some (.int _) | some .string=>true
  | some (.slice e)=>flatT P n e&&decide (0 < P.cellsOf e)
  | some (.struct fs)=>flatF P (flatT P n) fs.toList 0 (P.cellsOf t)
  | _=>false
section
variable {Hd:Type}
inductive Rep (P:Program) (g:Nat→Option SObj):TypeId→DataW Hd→List SV→Prop
 | bool {t:TypeId} {b:Bool} (ht:P.underlying t=some .bool):Rep P g t (.lit (.bool b)) [.bool b]
 | int {t:TypeId} {k:IntKind} {n:Int} (ht:P.underlying t=some (.int k)) (hw:(Lit.int k n).wf=true):Rep P g t (.lit (.int k n)) [.int k n]
 | str {t:TypeId} {s:List UInt8} (ht:P.underlying t=some .string) (hs:s.length≤maxLen):Rep P g t (.lit (.string s)) [.str s]
 | nil {t e:TypeId} (ht:P.underlying t=some (.slice e)):Rep P g t .nil [.nilslice]
 | slice {t e:TypeId} {id:Nat} {ds sp:List (DataW Hd)} {cells:List SV} (ht:P.underlying t=some (.slice e)) (hg:g id=some (.cells cells .ext)) (hl:cells.length=ds.length * P.cellsOf e) (hm:ds.length≤maxLen)
   (he:∀ (i:Nat) (d:DataW Hd),ds[i]?=some d→Rep P g e d ((cells.drop (i * P.cellsOf e)).take (P.cellsOf e))):Rep P g t (.slice ds sp) [.slice id 0 ds.length (P.cellsOf e) none]
 | struct {t:TypeId} {fs:Array Field} {ds:List (DataW Hd)} {cs:List SV} (ht:P.underlying t=some (.struct fs)) (hl:cs.length=P.cellsOf t) (hn:ds.length=fs.size)
   (hf:∀ (i:Nat) (f:Field) (d:DataW Hd),fs[i]?=some f→ds[i]?=some d→Rep P g f.type d ((cs.drop f.offset).take (P.cellsOf f.type))):Rep P g t (.agg ds) cs
theorem Rep.mono {P:Program} {g g':Nat→Option SObj} (hgg:∀ id o,g id=some o→g' id=some o) {t:TypeId} {d:DataW Hd} {xs:List SV} (h:Rep P g t d xs):Rep P g' t d xs:=by
 induction h with
 | bool ht=>exact .bool ht
 | int ht hw=>exact .int ht hw
 | str ht hs=>exact .str ht hs
 | nil ht=>exact .nil ht
 | slice ht hg hl hm _ ih=>exact .slice ht (hgg _ _ hg) hl hm ih
 | struct ht hl hn _ ih=>exact .struct ht hl hn ih
end
section
variable [Held] {Hd:Type} {enc:TypeId × Value→Hd} {P:Program} {w:World}
structure Outer (ι:Inj) (h:H) (w:World):Prop where
 st:St w.heap.size ι h w
 ext:∀ id x,ι id=some x→∃ cs,h.get id=some (.cells cs .ext)
structure Grew (ι:Inj) (h:H) (ι':Inj) (h':H):Prop where
 le:ι.le ι'
 keep:∀ id o,h.get id=some o→h'.get id=some o
theorem Grew.refl {ι:Inj} {h:H}:Grew ι h ι h:=⟨Inj.le_refl _,λ _ _ e=>e⟩
theorem Grew.trans {ι ι1 ι2:Inj} {h h1 h2:H} (a:Grew ι h ι1 h1) (b:Grew ι1 h1 ι2 h2):Grew ι h ι2 h2:=⟨Inj.le_trans a.le b.le,λ i o e=>b.keep i o (a.keep i o e)⟩
theorem Outer.push {ι:Inj} {h:H} (hs:Outer ι h w) {cs:List SV} {b o s:Nat} (hc:CRel ι cs .ext b o s w) :
  Outer (upd ι h.next (b,o,s)) (h.push (.cells cs .ext)) w∧Grew ι h (upd ι h.next (b,o,s)) (h.push (.cells cs .ext)):=by
 have hnew:ι h.next=none:=by
  cases e:ι h.next with
  | none=>rfl
  | some x=>exact absurd (hs.st.fresh _ _ e) (Nat.lt_irrefl _)
 have hle:ι.le (upd ι h.next (b,o,s)):=λ id x e=>by
  unfold upd
  split
  ·rename_i q;subst q;rw [hnew] at e;cases e
  ·exact e
 have hkeep:∀ id o',h.get id=some o'→(h.push (.cells cs .ext)).get id=some o':=λ id o' e=>by
  rw [H.get_push,if_neg (Nat.ne_of_lt (H.get_lt e))];exact e
 have hex:∀ id x,upd ι h.next (b,o,s) id=some x→∃ cs',(h.push (.cells cs .ext)).get id=some (.cells cs' .ext):=λ id x e=>by
  unfold upd at e
  split at e
  ·rename_i q;subst q;exact ⟨cs,by rw [H.get_push,if_pos rfl]⟩
  ·obtain ⟨cs',h1⟩:=hs.ext id x e
   exact ⟨cs',hkeep _ _ h1⟩
 obtain ⟨rc,el,fz,h1,h2,h3,h4,h5,h6,h7⟩:=hc
 have hb:b < w.heap.size:=(Array.getElem?_eq_some_iff.1 h1).1
 refine ⟨⟨⟨⟨λ id b' o' s' e=>?_,λ id x p cs' m e eg hp=>?_,λ i j oi oj b' b'' si sj obi obj _ ei ej _ gi gj _ _=>?_⟩,λ id x e=>?_,Nat.le_refl _,hs.st.held⟩,hex⟩,hle,hkeep⟩
 ·unfold upd at e
  split at e
  ·rename_i q;subst q;cases e
   exact ⟨.cells cs .ext,by rw [H.get_push,if_pos rfl],.inr ⟨rc,el,fz,h1,h2,h3,LRel.mono hle _ _ h4,h5,h6,h7⟩,hb,λ k=>absurd trivial k⟩
  ·obtain ⟨ob,k1,k2,k3,k4⟩:=hs.st.sim.obj _ _ _ _ e
   obtain ⟨cs',k5⟩:=hs.ext _ _ e
   rw [k1] at k5;cases k5
   refine ⟨_,hkeep _ _ k1,?_,k3,k4⟩
   rcases k2 with k2 | ⟨rc',el',fz',q1,q2,q3,q4,q5,q6,q7⟩
   ·exact .inl k2
   ·exact .inr ⟨rc',el',fz',q1,q2,q3,LRel.mono hle _ _ q4,q5,q6,q7⟩
 ·obtain ⟨cs2,k1⟩:=hex id x e
  rw [k1] at eg;cases eg;cases hp
 ·obtain ⟨c1,k1⟩:=hex i _ ei
  obtain ⟨c2,k2⟩:=hex j _ ej
  rw [k1] at gi;rw [k2] at gj;cases gi;cases gj
  exact .inl ⟨trivial,trivial⟩
 ·unfold upd at e
  split at e
  ·rename_i q;subst q;exact Nat.lt_succ_self _
  ·exact Nat.lt_succ_of_lt (hs.st.fresh _ _ e)
theorem row_cells {a:Addr} {n:Nat} {row:List Value} {rc:Array Value} {el:TypeId} {fz:Nat × Nat} (hb:w.heap[a.block]?=some (.cells rc el fz)) (h:w.cells? 0 a n=some row) :
  row=(rc.toList.drop a.off).take n∧row.length=n∧(0 < n→a.off+n≤rc.size∧a.spot=none):=by
 unfold World.cells? at h
 rw [if_pos (Nat.zero_le _)] at h
 have hlen:row.length=n:=by simpa using mapM_some_length h
 have hat:∀ j,j < n→rc[a.off+j]?=row[j]?∧(j=0→a.spot=none):=λ j hj=>by
  have h1:=mapM_some_get h j j (by simp [hj])
  obtain ⟨v,hv⟩:∃ v,row[j]?=some v:=⟨row[j]'(by omega),List.getElem?_eq_getElem (by omega)⟩
  rw [hv] at h1
  unfold World.cell? Addr.add at h1
  by_cases h0:j=0
  ·subst h0
   rw [if_pos rfl,hb] at h1
   simp only at h1
   split at h1
   ·cases h1
   ·rename_i hs
    exact ⟨by rw [hv];simpa using h1,λ _=>by cases e:a.spot with | none=>rfl | some x=>rw [e] at hs;simp at hs⟩
  ·rw [if_neg h0] at h1
   simp only [hb] at h1
   exact ⟨by rw [hv];simpa using h1,λ e=>absurd e h0⟩
 refine ⟨?_,hlen,λ hn=>⟨?_,(hat 0 hn).2 rfl⟩⟩
 ·apply List.ext_getElem?
  intro j
  rw [List.getElem?_take]
  split
  ·rename_i hj
   rw [List.getElem?_drop,← (hat j hj).1];simp
  ·rw [List.getElem?_eq_none (by omega)]
 ·have h1:=(hat (n - 1) (by omega)).1
  have h2:row[n - 1]?≠none:=by rw [List.getElem?_eq_getElem (by omega)];simp
  rw [← h1] at h2
  have h3:a.off+(n - 1) < rc.size:=by
   apply Nat.lt_of_not_le
   intro h4
   exact h2 (Array.getElem?_eq_none h4)
  omega
def RowSome (w:World) (cs:List Value):Prop:=(∃ (b:Nat) (rc:Array Value) (el:TypeId) (fz:Nat × Nat),w.heap[b]?=some (.cells rc el fz))∨∀ a l c,Value.slice (some a) l c ∉ cs
def Gives (Hd:Type) (enc:TypeId × Value→Hd) (P:Program) (w:World) (hd:Bool) (fuel:Nat):Prop:=∀ (n:Nat) (t:TypeId) (cs:List Value) (d:DataW Hd) (ps:List MemPlace) (ι:Inj) (h:H),
 flatT P n t=true→DataW.trod enc P w 0 (λ _=>true) hd fuel t cs=some (d,ps)→Outer ι h w→RowSome w cs →
 ∃ ι' h' xs,Outer ι' h' w∧Grew ι h ι' h'∧LRel ι' xs cs∧xs.all SV.isCell=true∧Rep P h'.get t d xs
theorem gives_elems {hd:Bool} {fuel:Nat} (hv:Gives Hd enc P w hd fuel) {n:Nat} {e:TypeId} (hf:flatT P n e=true) {a:Addr} {rc:Array Value} {el:TypeId} {fz:Nat × Nat} (hb:w.heap[a.block]?=some (.cells rc el fz))
  {len:Nat} {elems:List (DataW Hd × List MemPlace)} (hl:elems.length=len) (hel:∀ i,i < len→(w.cells? 0 (a.add (i * P.cellsOf e)) (P.cellsOf e)).bind (DataW.trod enc P w 0 (λ _=>true) hd fuel e)=elems[i]?) :
  ∀ k,k≤len→∀ ι h,Outer ι h w→∃ ι' h' xs,Outer ι' h' w∧Grew ι h ι' h'∧LRel ι' xs ((rc.toList.drop a.off).take (k * P.cellsOf e))∧xs.length=k * P.cellsOf e∧xs.all SV.isCell=true ∧
   ∀ (i:Nat) (d:DataW Hd),i < k→(elems[i]?).map (·.1)=some d→Rep P h'.get e d ((xs.drop (i * P.cellsOf e)).take (P.cellsOf e)):=by
 intro k
 induction k with
 | zero=>intro _ ι h hs;exact ⟨ι,h,[],hs,.refl,by simp [LRel],by simp,rfl,λ i d hi=>absurd hi (Nat.not_lt_zero _)⟩
 | succ k ih=>
  intro hk ι h hs
  obtain ⟨ι1,h1,xs,hs1,hg1,hl1,hn1,hc1,hr1⟩:=ih (by omega) ι h hs
  have h0:=hel k (by omega)
  obtain ⟨x,hx⟩:∃ x,elems[k]?=some x:=⟨elems[k]'(by omega),List.getElem?_eq_getElem (by omega)⟩
  rw [hx] at h0
  simp only [Option.bind_eq_some_iff] at h0
  obtain ⟨row,hrow,htr⟩:=h0
  have hb':w.heap[(a.add (k * P.cellsOf e)).block]?=some (.cells rc el fz):=by
   unfold Addr.add;split <;> exact hb
  obtain ⟨q1,q2,q3⟩:=row_cells hb' hrow
  have hoff:(a.add (k * P.cellsOf e)).off=a.off+k * P.cellsOf e:=by
   unfold Addr.add;split
   ·rename_i z;omega
   ·rfl
  rw [hoff] at q1
  obtain ⟨d,ps⟩:=x
  obtain ⟨ι2,h2,ys,hs2,hg2,hl2,hc2,hr2⟩:=hv n e row d ps ι1 h1 hf htr hs1 (.inl ⟨_,_,_,_,hb⟩)
  have hyl:ys.length=P.cellsOf e:=by rw [← q2,hl2.length]
  refine ⟨ι2,h2,xs++ys,hs2,hg1.trans hg2,?_,?_,?_,?_⟩
  ·have e1:(rc.toList.drop a.off).take ((k+1) * P.cellsOf e)=(rc.toList.drop a.off).take (k * P.cellsOf e)++row:=by
    rw [Nat.succ_mul,List.take_add,List.drop_drop,q1]
   rw [e1]
   exact (LRel.mono hg2.le _ _ hl1).append hl2
  ·rw [List.length_append,hn1,hyl,Nat.succ_mul]
  ·simp [hc1,hc2]
  ·intro i d' hi hd'
   by_cases hik:i < k
   ·have hle:i * P.cellsOf e+P.cellsOf e≤xs.length:=by
     rw [hn1,← Nat.succ_mul];exact Nat.mul_le_mul_right _ hik
    have:=(hr1 i d' hik hd').mono hg2.keep
    rw [List.drop_append_of_le_length (by omega),List.take_append_of_le_length (by simp;omega)]
    exact this
   ·have hik:i=k:=by omega
    subst hik
    rw [hx] at hd'
    cases hd'
    have:((xs++ys).drop (i * P.cellsOf e)).take (P.cellsOf e)=ys:=by
     rw [← hn1,List.drop_left,List.take_of_length_le (by omega)]
    rw [this]
    exact hr2
theorem gives_fields {hd:Bool} {fuel:Nat} (hv:Gives Hd enc P w hd fuel) {n:Nat} {cs:List Value} (hcs:RowSome w cs):∀ (fs:List Field) (off tot:Nat) (ds:List (DataW Hd × List MemPlace)),flatF P (flatT P n) fs off tot=true→tot=cs.length→ds.length=fs.length →
  (∀ (i:Nat) (f:Field),fs[i]?=some f→DataW.trod enc P w 0 (λ _=>true) hd fuel f.type ((cs.drop f.offset).take (P.cellsOf f.type))=ds[i]?) →
  ∀ ι h,Outer ι h w→off≤tot∧∃ ι' h' xs,Outer ι' h' w∧Grew ι h ι' h'∧LRel ι' xs (cs.drop off)∧xs.all SV.isCell=true ∧
   ∀ (i:Nat) (f:Field) (d:DataW Hd),fs[i]?=some f→(ds[i]?).map (·.1)=some d→off≤f.offset∧Rep P h'.get f.type d ((xs.drop (f.offset - off)).take (P.cellsOf f.type)):=by
 intro fs
 induction fs with
 | nil=>
  intro off tot ds hf ht _ _ ι h hs
  have:off=tot:=by simpa [flatF] using hf
  subst this
  refine ⟨Nat.le_refl _,ι,h,[],hs,.refl,?_,rfl,λ i f d hf=>by simp at hf⟩
  rw [ht,List.drop_length];rfl
 | cons f fs ih=>
  intro off tot ds hf ht hl hd ι h hs
  simp only [flatF,Bool.and_eq_true,beq_iff_eq] at hf
  obtain ⟨hof,hty,hrest⟩:=hf
  match ds,hl with
  | d0::ds,hl=>
   obtain ⟨d0,p0⟩:=d0
   have h0:=hd 0 f rfl
   simp only [List.getElem?_cons_zero] at h0
   have hcs':RowSome w ((cs.drop f.offset).take (P.cellsOf f.type)):=by
    rcases hcs with k | k
    ·exact .inl k
    ·exact .inr λ a l c hm=>k a l c (List.mem_of_mem_drop (List.mem_of_mem_take hm))
   obtain ⟨ι1,h1,xs,hs1,hg1,hl1,hc1,hr1⟩:=hv n f.type _ d0 p0 ι h hty h0 hs hcs'
   obtain ⟨hle,ι2,h2,ys,hs2,hg2,hl2,hc2,hr2⟩:=ih (off+P.cellsOf f.type) tot ds hrest ht (by simpa using hl) (λ i g hi=>by simpa using hd (i+1) g (by simpa using hi)) ι1 h1 hs1
   have hxl:xs.length=P.cellsOf f.type:=by
    rw [← hl1.length,List.length_take,List.length_drop,hof]
    omega
   refine ⟨by omega,ι2,h2,xs++ys,hs2,hg1.trans hg2,?_,by simp [hc1,hc2],?_⟩
   ·have e1:cs.drop off=(cs.drop f.offset).take (P.cellsOf f.type)++cs.drop (off+P.cellsOf f.type):=by
     rw [hof,← List.drop_drop,List.take_append_drop]
    rw [e1]
    exact (LRel.mono hg2.le _ _ hl1).append hl2
   ·intro i g d hi hdi
    match i with
    | 0=>
     simp only [List.getElem?_cons_zero,Option.some.injEq,Option.map_some] at hi hdi
     subst hi;subst hdi
     refine ⟨by omega,?_⟩
     have:((xs++ys).drop (f.offset - off)).take (P.cellsOf f.type)=xs:=by
      rw [hof,Nat.sub_self,List.drop_zero,← hxl,List.take_left]
     rw [this]
     exact hr1.mono hg2.keep
    | i+1=>
     simp only [List.getElem?_cons_succ] at hi hdi
     obtain ⟨k1,k2⟩:=hr2 i g d hi hdi
     refine ⟨by omega,?_⟩
     have:(xs++ys).drop (g.offset - off)=ys.drop (g.offset - (off+P.cellsOf f.type)):=by
      rw [List.drop_append,List.drop_of_length_le (by omega),List.nil_append,hxl]
      congr 1;omega
     rw [this]
     exact k2
theorem gives_slice {hd:Bool} {fuel:Nat} (hv:Gives Hd enc P w hd fuel) {n:Nat} {t e:TypeId} (ht:P.underlying t=some (.slice e)) (hf:flatT P n e=true) (hpos:0 < P.cellsOf e) {cs:List Value} {d:DataW Hd} {ps:List MemPlace} {ι:Inj} {h:H}
  (he:DataW.trod enc P w 0 (λ _=>true) hd (fuel+1) t cs=some (d,ps)) (hs:Outer ι h w) (hrow:RowSome w cs) :
  ∃ ι' h' xs,Outer ι' h' w∧Grew ι h ι' h'∧LRel ι' xs cs∧xs.all SV.isCell=true∧Rep P h'.get t d xs:=by
 rcases DataW.trod_slice ht he with ⟨rfl,hx⟩ | ⟨a,len,cap,elems,rest,m,hm,rfl,hx,_,hle,hmax,hlen,hel,hsp,_⟩
 ·cases hx
  exact ⟨ι,h,[.nilslice],hs,.refl,⟨_,_,rfl,rfl,rfl⟩,rfl,.nil ht⟩
 ·cases hx
  obtain rfl:m=fuel:=by omega
  obtain ⟨hrl,hrest⟩:=hsp rfl
  by_cases hc0:cap=0
  ·subst hc0
   obtain rfl:len=0:=by omega
   obtain rfl:elems=[]:=List.eq_nil_of_length_eq_zero hlen
   rcases hrow with ⟨b,rc,el,fz,hb⟩ | hno
   ·obtain ⟨k1,k2⟩:=hs.push (cs:=[]) (b:=b) (o:=0) (s:=rc.size) ⟨rc,el,fz,hb,rfl,by simp,by simp [LRel],rfl,λ q=>absurd rfl q,λ q=>by cases q⟩
    refine ⟨_,_,[.slice h.next 0 0 (P.cellsOf e) none],k1,k2,⟨_,_,rfl,⟨b,0,rc.size,0,by simp,λ _ q=>by (cases q),Nat.le_refl _,by simp,.inr ⟨rfl,rfl,a,rfl⟩⟩,rfl⟩,rfl,?_⟩
    exact .slice (ds:=[]) ht (by rw [H.get_push,if_pos rfl]) (by simp) (by simp) (λ i d q=>by simp at q)
   ·exact absurd (List.mem_singleton.2 rfl) (hno a 0 0)
  ·have hall:∀ i,i < cap→∃ row,w.cells? 0 (a.add (i * P.cellsOf e)) (P.cellsOf e)=some row:=λ i hi=>by
    by_cases hil:i < len
    ·have h1:=hel i hil
     rw [List.getElem?_eq_getElem (by omega)] at h1
     simp only [Option.bind_eq_some_iff] at h1
     obtain ⟨row,h2,_⟩:=h1
     exact ⟨row,h2⟩
    ·have h1:=hrest (i - len) (by omega)
     rw [List.getElem?_eq_getElem (by omega),show len+(i - len)=i by omega] at h1
     simp only [Option.bind_eq_some_iff] at h1
     obtain ⟨row,h2,_⟩:=h1
     exact ⟨row,h2⟩
   obtain ⟨row0,hr0⟩:=hall 0 (by omega)
   rw [Nat.zero_mul,show a.add 0=a by unfold Addr.add;rw [if_pos rfl]] at hr0
   obtain ⟨rc,el,fz,hb⟩:∃ (rc:Array Value) (el:TypeId) (fz:Nat × Nat),w.heap[a.block]?=some (.cells rc el fz):=by
    unfold World.cells? at hr0
    rw [if_pos (Nat.zero_le _)] at hr0
    have h1:=mapM_some_get hr0 0 0 (by simp [hpos])
    have h2:row0.length=P.cellsOf e:=by simpa using mapM_some_length hr0
    rw [List.getElem?_eq_getElem (by omega),show a.add 0=a by unfold Addr.add;rw [if_pos rfl]] at h1
    unfold World.cell? at h1
    split at h1
    ·exact ⟨_,_,_,by assumption⟩
    ·cases h1
   have hspot:=((row_cells hb hr0).2.2 hpos).2
   have hend:a.off+cap * P.cellsOf e≤rc.size:=by
    obtain ⟨row,hr⟩:=hall (cap - 1) (by omega)
    have hb':w.heap[(a.add ((cap - 1) * P.cellsOf e)).block]?=some (.cells rc el fz):=by
     unfold Addr.add;split <;> exact hb
    have h1:=((row_cells hb' hr).2.2 hpos).1
    have hoff:(a.add ((cap - 1) * P.cellsOf e)).off=a.off+(cap - 1) * P.cellsOf e:=by
     unfold Addr.add;split
     ·rename_i z;omega
     ·rfl
    rw [hoff] at h1
    have:cap * P.cellsOf e=(cap - 1) * P.cellsOf e+P.cellsOf e:=by
     rw [← Nat.succ_mul];congr 1;omega
    omega
   obtain ⟨ι1,h1,xs,hs1,hg1,hl1,hn1,hc1,hr1⟩:=gives_elems hv hf hb hlen hel len (Nat.le_refl _) ι h hs
   have hlc:len * P.cellsOf e≤cap * P.cellsOf e:=Nat.mul_le_mul_right _ hle
   obtain ⟨k1,k2⟩:=hs1.push (cs:=xs) (b:=a.block) (o:=a.off) (s:=rc.size) ⟨rc,el,fz,hb,rfl,by omega,by rw [hn1];exact hl1,hc1,λ q=>absurd rfl q,λ q=>by cases q⟩
   refine ⟨_,_,[.slice h1.next 0 (elems.map (·.1)).length (P.cellsOf e) none],k1,hg1.trans k2,⟨_,_,rfl,⟨a.block,a.off,rc.size,cap,by simp,λ _ q=>by (cases q),by simp;omega,by omega,.inl ?_⟩,rfl⟩,rfl,?_⟩
   ·obtain ⟨ab,ao,asp⟩:=a
    simp only at hspot
    subst hspot
    simp [hlen]
   ·refine .slice ht (by rw [H.get_push,if_pos rfl]) (by rw [List.length_map,hlen,hn1]) (by rw [List.length_map,hlen];omega) λ i d hd=>?_
    rw [List.getElem?_map] at hd
    have hi:i < len:=by
     rw [← hlen]
     apply Nat.lt_of_not_le
     intro q
     rw [List.getElem?_eq_none q] at hd
     cases hd
    exact (hr1 i d hi hd).mono k2.keep
theorem gives_all {hd:Bool}:∀ fuel,Gives Hd enc P w hd fuel
 | 0=>λ n t cs d ps ι h _ e=>by simp [DataW.trod] at e
 | fuel+1=>λ n t cs d ps ι h hf he hs hrow=>by
  cases n with
  | zero=>simp [flatT] at hf
  | succ n=>
   unfold flatT at hf
   split at hf
   ·rename_i ht
    obtain ⟨b,rfl,hx⟩:=DataW.trod_bool ht he
    cases hx
    exact ⟨ι,h,[.bool b],hs,.refl,⟨_,_,rfl,rfl,rfl⟩,rfl,.bool ht⟩
   ·rename_i k ht
    obtain ⟨b,rfl,hx,hw⟩:=DataW.trod_int ht he
    cases hx
    exact ⟨ι,h,[.int k b],hs,.refl,⟨_,_,rfl,rfl,rfl⟩,rfl,.int ht hw⟩
   ·rename_i ht
    obtain ⟨b,rfl,hx,hw⟩:=DataW.trod_string ht he
    cases hx
    exact ⟨ι,h,[.str b.data.toList],hs,.refl,⟨_,_,rfl,rfl,rfl⟩,rfl,.str ht (by simpa using hw)⟩
   ·rename_i e ht
    simp only [Bool.and_eq_true,decide_eq_true_eq] at hf
    exact gives_slice (gives_all fuel) ht hf.1 hf.2 he hs hrow
   ·rename_i fs ht
    obtain ⟨xs,m,hm,hx,hlen,hxl,hfd⟩:=DataW.trod_struct ht he
    cases hx
    obtain rfl:m=fuel:=by omega
    obtain ⟨_,ι1,h1,ys,hs1,hg1,hl1,hc1,hr1⟩:=gives_fields (gives_all m) hrow fs.toList 0 (P.cellsOf t) xs hf hlen.symm (by simpa using hxl) (λ i f hi=>hfd i f (by simpa using hi)) ι h hs
    rw [List.drop_zero] at hl1
    refine ⟨ι1,h1,ys,hs1,hg1,hl1,hc1,.struct ht (by rw [← hl1.length,hlen]) (by simpa using hxl) λ i f d hi hd=>?_⟩
    have:=(hr1 i f d (by simpa using hi) (by rw [List.getElem?_map] at hd;exact hd)).2
    simpa using this
   ·cases hf
end
end Go.Sh
end
