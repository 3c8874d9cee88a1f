/- General laws of the proof: a shadow machine of the form, its soundness, and a compiled form of it. -/
import Derived.Test.YtpjpiigachahkaaGreatDoorSh14
import Derived.Carry
set_option linter.unusedVariables false
set_option linter.unusedSimpArgs false
set_option linter.unusedSectionVars false
section
/- The entry of a law over plain data: from what the limit answers to what the row asks. -/
namespace Go.Sh
open Go.ChangeShapes Go.RowKit
section
variable [Held] {Hd:Type} {enc:TypeId × Value→Hd} {P:Program} {w:World}
def ArgIs (P:Program) (t:TypeId) (cs:List SV) (x:SV):Prop:=match P.underlying t with
  | some (.struct _)=>x=.agg cs
  | _=>cs=[x]
def ArgsRep (P:Program) (g:Nat→Option SObj):List TypeId→List (DataW Hd)→List SV→Prop
  | [],[],[]=>True
  | t::ts,d::ds,x::xs=>(∃ cs,Rep P g t d cs∧ArgIs P t cs x)∧ArgsRep P g ts ds xs
  | _,_,_=>False
theorem block_of_wide {b:Nat} {t:TypeId} {a:Addr} {l c:Nat} (h:Cell.okWide P w .any b t (.slice (some a) l c)):∃ (b:Nat) (rc:Array Value) (el:TypeId) (fz:Nat × Nat),w.heap[b]?=some (.cells rc el fz):=by
  have hh:∃ row cells,w.shape? a.block=some (row,cells):=by
    cases hp:P.underlying t with
    | none=>simp [Cell.okWide,Cell.ok,hp] at h
    | some d=>
      cases d <;> simp only [Cell.okWide,Cell.ok,hp] at h
      case slice e=>
        obtain ⟨_,_,_,_,row,cells,hs,_⟩:=h
        exact ⟨row,cells,hs⟩
  obtain ⟨row,cells,hs⟩:=hh
  unfold World.shape? at hs
  split at hs
  · exact ⟨_,_,_,_,by assumption⟩
  · cases hs
theorem rowSome_of_wide {b:Nat} {t:TypeId} {v:Value} (h:Value.okWide P w .any b t v):RowSome w v.cells.toList:=by
  by_cases hb:∃ (b:Nat) (rc:Array Value) (el:TypeId) (fz:Nat × Nat),w.heap[b]?=some (.cells rc el fz)
  · exact .inl hb
  · refine .inr λ a l c hm=>hb ?_
    unfold Value.okWide at h
    have hrow:∀ cs:Array Value,v=.agg cs→Row.okWide P w .any b t cs→∃ (b:Nat) (rc:Array Value) (el:TypeId) (fz:Nat × Nat),w.heap[b]?=some (.cells rc el fz):=λ cs e hr=>by
      subst e
      obtain ⟨ts,_,_,hat⟩:=hr
      obtain ⟨i,hi⟩:=List.mem_iff_getElem?.1 hm
      obtain ⟨u,_,hu⟩:=hat i _ (by simpa [Value.cells] using hi)
      exact block_of_wide hu
    split at h
    · obtain ⟨cs,e,_,hr⟩:=h
      exact hrow cs e hr
    · obtain ⟨cs,e,_,hr⟩:=h
      exact hrow cs e hr
    · have:v=.slice (some a) l c:=by
        cases v <;> simp only [Value.cells,List.mem_singleton,Array.mem_toList_iff,Array.mem_singleton] at hm <;> first | exact hm.symm | skip
        rename_i cs
        exfalso
        cases hp:P.underlying t with
        | none=>simp [Cell.okWide,Cell.ok,hp] at h
        | some d=>cases d <;> simp [Cell.okWide,Cell.ok,hp] at h
      subst this
      exact block_of_wide h
theorem arg_of {t:TypeId} {n:Nat} (hf:flatT P n t=true) {b:Nat} {v:Value} (hk:Value.okWide P w .any b t v) {ι:Inj} {xs:List SV} (hl:LRel ι xs v.cells.toList) (hc:xs.all SV.isCell=true):∃ x,ArgIs P t xs x∧VRel ι x v:=by
  unfold ArgIs
  unfold Value.okWide at hk
  split at hk
  · rename_i fs ht
    obtain ⟨cs,rfl,_,_⟩:=hk
    exact ⟨.agg xs,by simp only [ht],cs,rfl,by simpa [Value.cells] using hl,hc⟩
  · rename_i m e ht
    cases n with
    | zero=>simp [flatT] at hf
    | succ n=>simp [flatT,ht] at hf
  · rename_i hns _
    have hv:v.cells=#[v]:=by
      cases v <;> first | rfl | skip
      exfalso
      cases hp:P.underlying t with
      | none=>simp [Cell.okWide,Cell.ok,hp] at hk
      | some d=>cases d <;> simp [Cell.okWide,Cell.ok,hp] at hk
    rw [hv] at hl
    match xs,hl with
    | [x],⟨_,_,e,h1,h2⟩=>
      cases e
      refine ⟨x,?_,h1⟩
      split
      · rename_i fs ht;exact absurd ht (hns fs)
      · rfl
    | x::y::l,⟨_,_,e,_,h2⟩=>
      cases e
      obtain ⟨_,_,e,_⟩:=h2
      cases e
theorem args_outer {n:Nat} {b:Nat}:∀ (ts:List TypeId) (vs:List Value) (ds:List (DataW Hd)) (ps:List MemPlace) (ι:Inj) (h:H),(∀ t ∈ ts,flatT P n t=true)→DataW.TrodAll enc P w 0 (λ _=>true) true ts vs ds ps →
    (∀ (j:Nat) t v,ts[j]?=some t→vs[j]?=some v→Value.okWide P w .any b t v)→Outer ι h w →
    ∃ ι' h' xs,Outer ι' h' w∧Grew ι h ι' h'∧LRel ι' xs vs∧ArgsRep P h'.get ts ds xs:=by
  intro ts
  induction ts with
  | nil=>
    intro vs ds ps ι h _ htr _ hs
    match vs,ds,htr with
    | [],[],_=>exact ⟨ι,h,[],hs,.refl,rfl,trivial⟩
  | cons t ts ih=>
    intro vs ds ps ι h hf htr hk hs
    match vs,ds,htr with
    | v::vs,d::ds,⟨p,q,⟨fuel,h1⟩,h2,_⟩=>
      have hkv:=hk 0 t v rfl rfl
      obtain ⟨ι1,k1,ys,s1,g1,l1,c1,r1⟩:=gives_all fuel n t _ d p ι h (hf t (List.mem_cons_self ..)) h1 hs (rowSome_of_wide hkv)
      obtain ⟨x,ha,hx⟩:=arg_of (hf t (List.mem_cons_self ..)) hkv l1 c1
      obtain ⟨ι2,k2,xs,s2,g2,l2,r2⟩:=ih vs ds q ι1 k1 (λ t' ht'=>hf t' (List.mem_cons_of_mem _ ht')) h2 (λ j t' v' e1 e2=>hk (j+1) t' v' (by simpa using e1) (by simpa using e2)) s1
      exact ⟨ι2,k2,x::xs,s2,g1.trans g2,⟨_,_,rfl,hx.mono g2.le,l2⟩,⟨ys,r1.mono g2.keep,ha⟩,r2⟩
theorem outer_lim {X:FuncId→Option (List SV→H→Option (SV × H))} (hG:Good P) (hX:OracleOK P X) {f:FuncId} {args:List SV} {v:SV} {h h':H} (hr:(lim P X).call f args h=some (v,h')) {ι:Inj} (hs:Outer ι h w) {us:Array Value} (hl:LRel ι args us.toList) {fn:Func} {c:Code} (hf:P.funcs[f]?=some fn) (hb:fn.body=some c) :
    Calls P f us w λ en w'=>∃ v' ι',en=.returned v'∧VRel ι' v v'∧Below w.heap.size w w':=by
  rcases lim_ok hG hX f args h v h' hr w.heap.size ι w us hs.st hl with ⟨_,h1⟩ | ⟨v',w',h1,_⟩
  · refine Calls.mono h1 λ en w' ⟨v',h2,ι',h3,h4⟩=>?_
    exact ⟨v',ι',h2,h3,⟨h4.ext.os,h4.ext.tape,h4.ext.output,h4.ext.size,λ b hb=>h4.ext.frame b hb λ id x ob hi _ ho=>by
      obtain ⟨cs,k⟩:=hs.ext _ _ hi
      rw [k] at ho;cases ho;trivial⟩⟩
  · rw [enter_run hG hf hb us] at h1
    cases h1
theorem outer_empty (hw:HeldAt w.heap.size w):Outer none0 H.empty w:=⟨st_empty w hw,λ _ _ e=>by simp [none0] at e⟩
theorem trodAll_below (hl:laidOutB P=true) {W W':World} (hb:Below W.heap.size W W'):∀ {ts:List TypeId} {vs:List Value} {ds:List (DataW Hd)} {ps:List MemPlace},(∀ t ∈ ts,P.readableRec t=true∧t < P.types.size) →
    DataW.TrodAll enc P W 0 (λ _=>true) true ts vs ds ps→(∀ x ∈ ps,x.block < W.heap.size)→DataW.TrodAll enc P W' 0 (λ b=>decide (b < W.heap.size)) true ts vs ds ps
  | [],[],[],_,_,h,_=>h
  | t::ts,v::vs,d::ds,ps,ht,⟨p,q,h1,h2,e⟩,hlt=>by
    subst e
    exact ⟨p,q,Below.trod hl (ht t (List.mem_cons_self ..)).1 (ht t (List.mem_cons_self ..)).2 h1 hb (λ x hx=>hlt x (List.mem_append_left _ hx)),trodAll_below hl hb (λ t' ht'=>ht t' (List.mem_cons_of_mem _ ht')) h2 (λ x hx=>hlt x (List.mem_append_right _ hx)),rfl⟩
theorem law_post {f:Func} {s:ChangeSpec} {apart fresh handsOn:Bool} {W W':World} {args:Array Value} {ds gs:List (DataW Hd)} {before:List MemPlace} {bt:TypeId} (hl:laidOutB P=true) (hbt:P.underlying bt=some .bool) (hres:f.resultTypes=#[bt])
    (hps:∀ t ∈ f.params.toList,P.readableRec t=true∧t < P.types.size) (hW:DataW.Whole enc P f.params.toList s.vars apart W args.toList ds gs before) (hv:s.vars=[]) (hs:s.fn Hd ds={ results:=[.lit (.bool true)],args:=ds }) (hk:Below W.heap.size W W') :
    s.post enc P f apart fresh handsOn false W args (.bool true) W':=by
  have hlt:∀ p ∈ before,p.block < W.heap.size:=λ p hp=>hW.lt p hp
  have hW':=hW
  obtain ⟨p,q,hA,hV,e,hz,hn⟩:=hW
  rw [hv] at hV
  obtain ⟨rfl,rfl⟩:=trodVars_none hV
  rw [List.append_nil] at e
  subst e
  refine ⟨ds,[],before,[],before,[],hW',?_,?_,?_,World.keptBut_mono (λ x hx=>⟨hx,.inr (.inl hx)⟩) (hk.frame (· ∈ before)),λ q=>by cases q⟩
  · rw [List.append_nil,hs,hres]
    exact trodAll_mk1 (shut_bool hbt _)
  · rw [List.append_nil,hs]
    exact trodAll_below hl hk hps hA hlt
  · rw [List.append_nil,hs,hv]
    exact rfl
end
end Go.Sh
end
section
/- Reckoning with compiled code by hand: what stands in memory, what a piece of work leaves alone, texts of bytes that grow. -/
namespace Go.Sh
theorem idxX_get (n:Nat) (l:List SV):idxX n l=l[n]?:=by
  induction n generalizing l with
  | zero=>cases l <;> rfl
  | succ n ih=>cases l with
    | nil=>rfl
    | cons a l=>exact ih l
theorem kx:(∀ k n,asI k (.int k n)=some n)∧(∀ b,asB (.bool b)=some b)∧(∀ i o,asP (.ptr i o)=some (i,o))∧(∀ s,asS (.str s)=some s)∧(∀ k n,asInt (.int k n)=some n)∧(∀ cs,asA (.agg cs)=some cs):=by
  refine ⟨λ k n=>by cases k <;> rfl,λ _=>rfl,λ _ _=>rfl,λ _=>rfl,λ _ _=>rfl,λ _=>rfl⟩
theorem loop_succ (a:Cd) (n:Nat) (c:CF) (t:T) (h:H):cLoop a (n+1) c t h=knext (a (n+1) c t h) λ t h=>cLoop a n c t h:=rfl
structure Fr (S W:Nat→Prop) (h h':H):Prop where
  next:h.next≤h'.next
  keep:∀ q,q < h.next→¬S q→h'.get q=h.get q
  low:∀ m,m≤h.low→m≤h.next→(∀ q,W q→m≤q)→m≤h'.low
theorem Fr.refl {S W:Nat→Prop} {h:H}:Fr S W h h:=⟨Nat.le_refl _,λ _ _ _=>rfl,λ _ h _ _=>h⟩
theorem Fr.mono {S W S' W':Nat→Prop} {h h':H} (f:Fr S W h h') (hs:∀ q,q < h.next→S q→S' q) (hw:∀ q,W q→W' q∨h.next≤q):Fr S' W' h h':=
  ⟨f.next,λ q hq hn=>f.keep q hq λ k=>hn (hs q hq k),λ m h1 h2 h3=>f.low m h1 h2 λ q hq=>(hw q hq).elim (h3 q) (Nat.le_trans h2)⟩
theorem Fr.trans {S W:Nat→Prop} {a b c:H} (f:Fr S W a b) (g:Fr S W b c):Fr S W a c:=
  ⟨Nat.le_trans f.next g.next,λ q hq hn=>(g.keep q (Nat.lt_of_lt_of_le hq f.next) hn).trans (f.keep q hq hn),λ m h1 h2 h3=>g.low m (f.low m h1 h2 h3) (Nat.le_trans h2 f.next) h3⟩
theorem Fr.get {S W:Nat→Prop} {h h':H} (f:Fr S W h h') {q:Nat} {o:SObj} (e:h.get q=some o) (hn:¬S q):h'.get q=some o:=by
  rw [f.keep q (H.get_lt e) hn];exact e
theorem Fr.push {h:H} {o:SObj} {S W:Nat→Prop}:Fr S W h (h.push o):=
  ⟨Nat.le_succ _,λ q hq _=>by rw [H.get_push,if_neg (Nat.ne_of_lt hq)],λ m h1 _ _=>h1⟩
theorem Fr.put {h:H} {p:Nat} {o:SObj} (hp:p < h.next):Fr (·=p) (·=p) h (h.put p o):=
  ⟨Nat.le_refl _,λ q _ hn=>by rw [H.get_put _ _ _ _ hp,if_neg hn],λ m h1 _ h3=>Nat.le_min.2 ⟨h1,h3 p rfl⟩⟩
theorem Fr.mark {h:H} {p:Nat} {o:SObj} {W:Nat→Prop} (hp:p < h.next):Fr (·=p) W h (h.mark p o):=
  ⟨Nat.le_refl _,λ q _ hn=>by rw [H.get_mark _ _ _ _ hp,if_neg hn],λ m h1 _ _=>h1⟩
def u8s (bs:List UInt8):List SV:=bs.map λ c=>.int .u8 c.toNat
def Buf (h:H) (es:Nat) (v:SV) (n:Nat) (cs:List SV):Prop:=cs.length=n * es∧((v=.nilslice∧n=0)∨∃ id par,v=.slice id 0 n es none∧h.get id=some (.cells cs (.grown par)))
def isRow:SV→Nat→Prop
  | .slice id _ _ _ _,q=>q=id
  | _,_=>False
theorem Buf.keep {h h':H} {es n:Nat} {v:SV} {cs:List SV} {S W:Nat→Prop} (b:Buf h es v n cs) (f:Fr S W h h') (hn:∀ q,isRow v q→¬S q):Buf h' es v n cs:=by
  obtain ⟨h1,h2 | ⟨id,par,h2,h3⟩⟩:=b
  · exact ⟨h1,.inl h2⟩
  · subst h2
    exact ⟨h1,.inr ⟨id,par,rfl,f.get h3 (hn id rfl)⟩⟩
theorem Buf.append {h:H} {bytes es n:Nat} {v:SV} {cs:List SV} (b:Buf h es v n cs) (k:Nat) (new:List SV) (hes:0 < es) (hk:new.length=k * es) (hmax:(n+k) * (bytes+es+1)≤1099511627776) :
    ∃ v' h',kappend h bytes es k new v=some (v',h')∧Buf h' es v' (n+k) (cs++new)∧Fr (isRow v) (λ _=>False) h h'∧(∀ q,isRow v' q→isRow v q∨h.next≤q):=by
  obtain ⟨h1,⟨rfl,rfl⟩ | ⟨id,par,rfl,h3⟩⟩:=b
  · have hc:cs=[]:=List.eq_nil_of_length_eq_zero (by simpa using h1)
    subst hc
    by_cases k0:k=0
    · subst k0
      have hn:new=[]:=List.eq_nil_of_length_eq_zero (by simpa using hk)
      subst hn
      exact ⟨.nilslice,h,rfl,⟨by simp,.inl ⟨rfl,rfl⟩⟩,.refl,λ q hq=>hq.elim⟩
    · have e1:Nat.beq k 0=false:=by cases k with | zero=>exact absurd rfl k0 | succ k=>rfl
      have e2:Nat.ble (k * (bytes+es+1)) 1099511627776=true:=Nat.ble_eq_true_of_le (by simpa using hmax)
      refine ⟨.slice h.next 0 k es none,h.push (.cells new (.grown none)),?_,⟨by simp [hk],.inr ⟨h.next,none,by simp,by rw [H.get_push,if_pos rfl];simp⟩⟩,.push,λ q hq=>.inr (by show h.next≤q;rw [show q=h.next from hq];exact Nat.le_refl _)⟩
      show bB (Nat.beq k 0) _ (bB (Nat.ble _ _) _ _)=_
      rw [e1,e2];rfl
  · have hid:=H.get_lt h3
    have e2:(Nat.ble ((n+k) * (bytes+es+1)) 1099511627776&&Nat.beq es es)=true:=by
      rw [Nat.ble_eq_true_of_le hmax];simp
    by_cases k0:k=0
    · subst k0
      have hn:new=[]:=List.eq_nil_of_length_eq_zero (by simpa using hk)
      subst hn
      refine ⟨.slice id 0 n es none,h,?_,⟨by simpa using h1,.inr ⟨id,par,rfl,by simpa using h3⟩⟩,.refl,λ q hq=>.inl hq⟩
      show bB _ _ _=_
      rw [e2];rfl
    · have e1:Nat.beq k 0=false:=by cases k with | zero=>exact absurd rfl k0 | succ k=>rfl
      refine ⟨.slice h.next 0 (n+k) es none,(h.mark id (.cells cs (.stale par))).push (.cells (cs++new) (.grown (some id))),?_,⟨by rw [List.length_append,h1,hk,Nat.add_mul],.inr ⟨h.next,some id,rfl,by rw [H.get_push,H.next_mark,if_pos rfl]⟩⟩,?_,λ q hq=>.inr (by rw [show q=h.next from hq];exact Nat.le_refl _)⟩
      · show bB _ (bB (Nat.beq k 0) _ (growRow h id 0 n es k new)) _=_
        rw [e2,e1]
        show growRow h id 0 n es k new=_
        unfold growRow
        simp only [h3,Nat.zero_add,h1,if_pos,List.drop_zero]
      · exact ((Fr.mark hid).mono (λ q _ e=>e) (λ q e=>.inl e)).trans ((Fr.push).mono (λ q _ e=>e) λ q e=>.inl e)
end Go.Sh
end
section
/- Reckoning with compiled code by hand: rules of single steps; what a piece of work comes to. -/
namespace Go.Sh
theorem layX_one (v:SV) (off:Nat) (cs:List SV):layX [v] off cs=if off < cs.length then some (cs.set off v) else none:=by
  induction off generalizing cs with
  | zero=>cases cs with
    | nil=>rfl
    | cons a l=>rfl
  | succ off ih=>cases cs with
    | nil=>rfl
    | cons a l=>
      show bO (layX [v] off l) (λ q=>some (a::q))=_
      rw [ih]
      by_cases hl:off < l.length
      · rw [if_pos hl,if_pos (by simpa using hl)];rfl
      · rw [if_neg hl,if_neg (by simpa using hl)];rfl
theorem store_fixed {h:H} {p:Nat} {cs:List SV} (e:h.get p=some (.cells cs .fixed)) (off:Nat) (v:SV) (t:T) (ho:off < cs.length) (hv:v.cells?=some [v]) :
    tStore 1 (xC (.ptr p off)) (xC v) h t=some (.tuple [],h.put p (.cells (cs.set off v) .fixed)):=by
  have h1:storeX h p off [v]=some (h.put p (.cells (cs.set off v) .fixed)):=by
    unfold storeX
    rw [e]
    simp only [layX_one,if_pos ho,bO]
  show bO v.cells? (λ vs=>bB (hasLen 1 vs) (bO (storeX h p off vs) λ h=>some (SV.tuple [],h)) none)=_
  rw [hv]
  show bO (storeX h p off [v]) _=_
  rw [h1];rfl
theorem get_put_self {h:H} {p:Nat} {o o':SObj} (e:h.get p=some o'):(h.put p o).get p=some o:=by
  rw [H.get_put _ _ _ _ (H.get_lt e),if_pos rfl]
theorem bO_mk {α β:Type} (v:α) (k:α→Option β):bO (some v) k=k v:=rfl
def Gets (r:FR) (Q:Flow→T→H→Prop):Prop:=match r with
  | some (fl,t,h)=>Q fl t h
  | none=>False
theorem gets_some {fl:Flow} {t:T} {h:H} {Q:Flow→T→H→Prop}:Gets (some (fl,t,h)) Q=Q fl t h:=rfl
theorem Gets.mono {r:FR} {Q Q':Flow→T→H→Prop} (g:Gets r Q) (m:∀ fl t h,Q fl t h→Q' fl t h):Gets r Q':=by
  cases r with
  | none=>exact g
  | some x=>exact m _ _ _ g
@[congr] theorem gets_congr {r s:FR} (h:r=s) (Q:Flow→T→H→Prop):Gets r Q=Gets s Q:=by rw [h]
theorem gets_next {r:FR} {k:T→H→FR} {Q:Flow→T→H→Prop} (g:Gets r λ fl t h=>match fl with
    | .normal=>Gets (k t h) Q
    | fl=>Q fl t h):Gets (knext r k) Q:=by
  cases r with
  | none=>exact g
  | some x=>obtain ⟨fl,t,h⟩:=x;cases fl <;> exact g
theorem gets_leave {r:FR} {id:Nat} {Q:Flow→T→H→Prop} (g:Gets r λ fl t h=>match fl with
    | .exit j=>if j=id then Q .normal t h else Q (.exit j) t h
    | fl=>Q fl t h):Gets (kleave id r) Q:=by
  cases r with
  | none=>exact g
  | some x=>
    obtain ⟨fl,t,h⟩:=x
    cases fl with
    | exit j=>
      have g:if j=id then Q .normal t h else Q (.exit j) t h:=g
      have e:kleave id (some (.exit j,t,h))=if j=id then some (.normal,t,h) else some (.exit j,t,h):=kr.2.2.2.2.2.2.2.2.2.2.2.2.2.2.2.2.2.2.1 id j t h
      rw [e]
      by_cases hj:j=id
      · rw [if_pos hj] at g ⊢;exact g
      · rw [if_neg hj] at g ⊢;exact g
    | _=>exact g
theorem gets_fin {r:FR} {rs:List RF} {Q:SV→H→Prop} (g:Gets r λ fl t h=>(fl=.normal∨fl=.ret)∧∃ vs,kresL t h rs=some vs∧Q (oneS vs) h):∃ v h,kfin rs r=some (v,h)∧Q v h:=by
  cases r with
  | none=>exact g.elim
  | some x=>
    obtain ⟨fl,t,h⟩:=x
    obtain ⟨hf,vs,h1,h2⟩:=g
    refine ⟨oneS vs,h,?_,h2⟩
    rcases hf with rfl | rfl
    · show bO (kresL t h rs) _=_
      rw [h1];rfl
    · show bO (kresL t h rs) _=_
      rw [h1];rfl
theorem row_one (k:IntKind) (z:Int) (c:CF) (m:Nat) (t:T) (h:H) (K:SV→H→FR):sN (aRow 1 1 [1] [xC (.int k z)]) c m t h K=K (.slice h.next 0 1 1 (some 1)) (h.push (.cells [.int k z] .fixed)):=rfl
theorem append_one (bytes:Nat) (s v:SV) (t:T) (h:H):tAppend bytes 1 (xC s) (xC (.slice h.next 0 1 1 (some 1))) (h.push (.cells [v] .fixed)) t=kappend (h.push (.cells [v] .fixed)) bytes 1 1 [v] s:=by
  have e:srcCells (h.push (.cells [v] .fixed)).get 1 1 (.slice h.next 0 1 1 (some 1))=some [v]:=by
    simp only [srcCells,rowCells,H.get_push,if_true];rfl
  show bO (srcCells (h.push (.cells [v] .fixed)).get 1 1 (.slice h.next 0 1 1 (some 1))) _=_
  rw [e];rfl
theorem enter_eq (sl:List Pth) (b:Cd) (rs:List RF) (n:Nat) (c:CF) (args:List SV) (h:H):kenter ⟨sl,b,rs⟩ n c args h=bO (argsP sl args .leaf) λ t=>kfin rs (b n c t h):=rfl
theorem lim_enter [Held] {P:Program} {X:FuncId→Option (List SV→H→Option (SV × H))} {K:FuncId→Option KF} (hK:∀ f kf,K f=some kf→Compiled P f kf) {f:FuncId} {kf:KF} (hX:X f=none) (hk:K f=some kf) {n:Nat} {args:List SV} {h:H} {r:SV × H} (e:kenter kf n (lim P X).call args h=some r):(lim P X).call f args h=some r:=
  kenter_ok (λ _ _ _ _ e=>e) hX (hK _ _ hk) e
end Go.Sh
end
section
/- Reckoning with compiled code by hand: slices that are read. -/
namespace Go.Sh
def View (h:H) (es:Nat) (v:SV) (n:Nat) (cs:List SV):Prop:=cs.length=n * es∧((v=.nilslice∧n=0)∨∃ id off cap all,v=.slice id off n es cap∧rowCells h.get id=some all∧takeCells all off (n * es)=some cs∧∀ c,cap=some c→n≤c)
theorem rowCells_lt {h:H} {id:Nat} {cs:List SV} (e:rowCells h.get id=some cs):id < h.next:=by
  unfold rowCells at e
  cases g:h.get id with
  | none=>rw [g] at e;cases e
  | some o=>exact H.get_lt g
theorem rowCells_keep {h h':H} {id:Nat} {S W:Nat→Prop} (f:Fr S W h h') (hl:id < h.next) (hn:¬S id):rowCells h'.get id=rowCells h.get id:=by
  unfold rowCells;rw [f.keep id hl hn]
theorem View.keep {h h':H} {es n:Nat} {v:SV} {cs:List SV} {S W:Nat→Prop} (w:View h es v n cs) (f:Fr S W h h') (hn:∀ q,isRow v q→¬S q):View h' es v n cs:=by
  obtain ⟨h1,h2 | ⟨id,off,cap,all,rfl,h3,h4⟩⟩:=w
  · exact ⟨h1,.inl h2⟩
  · exact ⟨h1,.inr ⟨id,off,cap,all,rfl,by rw [rowCells_keep f (rowCells_lt h3) (hn id rfl)];exact h3,h4⟩⟩
theorem Buf.view {h:H} {es n:Nat} {v:SV} {cs:List SV} (b:Buf h es v n cs):View h es v n cs:=by
  obtain ⟨h1,h2 | ⟨id,par,rfl,h3⟩⟩:=b
  · exact ⟨h1,.inl h2⟩
  · refine ⟨h1,.inr ⟨id,0,none,cs,rfl,by unfold rowCells;rw [h3],?_,λ c q=>by cases q⟩⟩
    unfold takeCells
    rw [if_pos (by omega),List.drop_zero,← h1,List.take_length]
theorem View.src {h:H} {es n:Nat} {v:SV} {cs:List SV} (w:View h es v n cs):srcLen v=some n∧srcCells h.get es n v=some cs:=by
  obtain ⟨h1,⟨rfl,rfl⟩ | ⟨id,off,cap,all,rfl,h3,h4,_⟩⟩:=w
  · have:cs=[]:=List.eq_nil_of_length_eq_zero (by simpa using h1)
    subst this
    exact ⟨rfl,rfl⟩
  · exact ⟨rfl,by simp only [srcCells,h3,h4]⟩
theorem append_view {h h':H} {es m bytes:Nat} {s v v':SV} {new:List SV} (w:View h es v m new) (e:kappend h bytes es m new s=some (v',h')) (t:T):tAppend bytes es (xC s) (xC v) h t=some (v',h'):=by
  show bO (srcLen v) (λ k=>bO (srcCells h.get es k v) λ new=>kappend h bytes es k new s)=_
  rw [w.src.1]
  show bO (srcCells h.get es m v) _=_
  rw [w.src.2]
  exact e
theorem take_part {all cs:List SV} {off n l m:Nat} (e:takeCells all off n=some cs) (hl:l+m≤n):takeCells all (off+l) m=some ((cs.drop l).take m):=by
  unfold takeCells at e ⊢
  split at e
  · cases e
    rw [if_pos (by omega),List.drop_take,List.take_take,List.drop_drop,Nat.min_eq_left (by omega)]
  · cases e
theorem View.length {h:H} {es n:Nat} {v:SV} {cs:List SV} (w:View h es v n cs):lenV v=some n:=by
  obtain ⟨_,⟨rfl,rfl⟩ | ⟨id,off,cap,all,rfl,_,_,_⟩⟩:=w <;> rfl
theorem View.slice {h:H} {es n:Nat} {v:SV} {cs:List SV} (w:View h es v n cs) (l k:Nat) (hlk:l≤k) (hk:k≤n) :
    ∃ v',kslice es v (some (.int .i64 l)) (some (.int .i64 k)) none=some v'∧View h es v' (k - l) ((cs.drop (l * es)).take ((k - l) * es))∧(∀ q,isRow v' q→isRow v q):=by
  have hn:∀ m:Nat,boundOf 0 (some (.int .i64 (m:Int)))=some m:=λ m=>by simp [boundOf,intNat]
  have hn':∀ d m:Nat,boundOf d (some (.int .i64 (m:Int)))=some m:=λ d m=>by simp [boundOf,intNat]
  obtain ⟨h1,⟨rfl,rfl⟩ | ⟨id,off,cap,all,rfl,h2,h3,hcap⟩⟩:=w
  · obtain rfl:k=0:=by omega
    obtain rfl:l=0:=by omega
    have:cs=[]:=List.eq_nil_of_length_eq_zero (by simpa using h1)
    subst this
    exact ⟨.nilslice,rfl,⟨by simp,.inl ⟨rfl,rfl⟩⟩,λ q hq=>hq⟩
  · have hm:l * es+(k - l) * es≤n * es:=by rw [← Nat.add_mul];exact Nat.mul_le_mul_right _ (by omega)
    have hlen:((cs.drop (l * es)).take ((k - l) * es)).length=(k - l) * es:=by
      rw [List.length_take,List.length_drop,h1];omega
    have h4:=take_part h3 hm
    have hs:kslice es (.slice id off n es cap) (some (.int .i64 l)) (some (.int .i64 k)) none=(match cap with
         | none=>some (.slice id (off+l * es) (k - l) es none)
         | some c=>if c=l then some (.slice id off 0 es (some 0)) else some (.slice id (off+l * es) (k - l) es (some (c - l)))):=by
      show (if es=es then sliceRow id off n es cap _ _ none else none)=_
      rw [if_pos rfl]
      unfold sliceRow
      simp only [hn',if_pos (And.intro hlk hk)]
      cases cap <;> rfl
    cases cap with
    | none=>exact ⟨_,hs,⟨hlen,.inr ⟨id,off+l * es,none,all,rfl,h2,h4,λ c q=>by cases q⟩⟩,λ q hq=>hq⟩
    | some c=>
      by_cases hc:c=l
      · have hk0:k - l=0:=by have:=hcap c rfl;omega
        refine ⟨.slice id off 0 es (some 0),by rw [hs];simp [hc],⟨hlen,.inr ⟨id,off,some 0,all,by rw [hk0],h2,?_,λ c' q=>by cases q;omega⟩⟩,λ q hq=>hq⟩
        rw [hk0,Nat.zero_mul,List.take_zero]
        unfold takeCells at h3 ⊢
        split at h3
        · rw [if_pos (by omega)];simp
        · cases h3
      · exact ⟨_,by rw [hs];simp only [if_neg hc],⟨hlen,.inr ⟨id,off+l * es,some (c - l),all,rfl,h2,h4,λ c' q=>by cases q;have:=hcap c rfl;omega⟩⟩,λ q hq=>hq⟩
theorem scope_succ (a:Cd) (ls:List (Nat × Cd)) (n:Nat) (c:CF) (t:T) (h:H):cScope a ls (n+1) c t h=kjump (a (n+1) c t h) λ l t h=>match behind ls l with
    | some b=>cScope b ls n c t h
    | none=>none:=rfl
@[congr] theorem kjump_congr {r s:FR} (h:r=s) (k:Nat→T→H→FR):kjump r k=kjump s k:=by rw [h]
theorem kj:(∀ l t h k,kjump (some (.goto l,t,h)) k=k l t h)∧(∀ t h k,kjump (some (.normal,t,h)) k=some (.normal,t,h))∧(∀ t h k,kjump (some (.ret,t,h)) k=some (.ret,t,h))∧(∀ i t h k,kjump (some (.exit i,t,h)) k=some (.exit i,t,h)):=⟨λ _ _ _ _=>rfl,λ _ _ _=>rfl,λ _ _ _=>rfl,λ _ _ _ _=>rfl⟩
end Go.Sh
end
