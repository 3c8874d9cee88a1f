/- General laws of the proof: a shadow machine of the form, its soundness, and a compiled form of it. -/
import Derived.Test.YtpjpiigachahkaaGreatDoorTzG2
import Derived.Test.YtpjpiigachahkaaGreatDoorTzSP
set_option linter.unusedVariables false
set_option linter.unusedSimpArgs false
set_option linter.unusedSectionVars false
section
/- LadderForms: numbers, rows, edges that are written. -/
namespace Go.Proofs
open Go.Sh
set_option maxRecDepth 100000
attribute [local instance] powHeld
noncomputable section
def ints (l:List Int):List SV:=l.map (.int .i64)
theorem intsAt {l:List Int} {i:Nat} {x:Int} (h:l[i]?=some x):(ints l)[i]?=some (.int .i64 x):=by simp [ints,h]
def wNs (l:List Int) (st:WSt):WSt:=l.foldl (λ st n=>w2 n st) st
theorem wNs_len:∀ l st,(wNs l st).2.length≤st.2.length+2 * l.length
  | [],st=>Nat.le_refl _
  | s::l,st=>by
    have h1:=wNs_len l (w2 s st)
    have h2:=w2_len s st
    have e:(wNs (s::l) st)=wNs l (w2 s st):=rfl
    rw [e,List.length_cons]
    omega
theorem Tryz.nums_loop {h0:H} {v:SV} {l:List Int} {p:Nat} (w0:View h0 1 v l.length (ints l)) (hv:∀ q,isRow v q→q < p) (hl:l.length≤1073741824):∀ (j i k:Nat) (t:T) (h:H) (st:WSt),i+j=l.length→j < k→WrS h p st→Fr (p≤·) (p≤·) h0 h→st.2.length+2 * (l.drop i).length≤4294967296 →
    getP (way 3) t=some (.ptr p 0)→getP (way 50) t=some v→getP (way 51) t=some (.int .i64 l.length)→getP (way 52) t=some (.int .i64 i)→∀ (q:Nat) (x y z:SV),getP (way 35) t=some x→getP (way 36) t=some y→getP (way 37) t=some z→getP (way 1) t=some (.ptr q 0) →
    Gets (cLoop Tryz.l14_1 k Tryz.l2 t h) λ fl t' h'=>LoopW p h (.exit 4) (wNs (l.drop i) st) fl t' h'∧getP (way 3) t'=some (.ptr p 0)∧getP (way 35) t'=some x∧getP (way 36) t'=some y∧getP (way 37) t'=some z∧getP (way 1) t'=some (.ptr q 0):=by
  intro j
  induction j with
  | zero=>
    intro i k t h st hi hk w fr hsz t0 t10 t11 t12 q x y z t35 t36 t37 t1
    obtain ⟨k,rfl⟩:∃ m,k=m+1:=⟨k - 1,by omega⟩
    rw [loop_succ]
    generalize (λ t h=>cLoop Tryz.l14_1 k Tryz.l2 t h)=L
    unfold Tryz.l14_1
    have e1:ltI (i:Int) (l.length:Int)=false:=ltIf (by omega)
    rw [List.drop_eq_nil_of_le (by omega)]
    simp [↓ kq,kq,↓ ku,ku,↓ ko,ko,↓ kt,↓ kz,kb,kv,kt,kx,t0,t10,t11,t12,t35,t36,t37,t1,e1,gets_some,-bO_of,-bB_true,-bB_false,-H.next_push,-Int.natCast_add]
    exact ⟨rfl,w,.refl⟩
  | succ j ih=>
    intro i k t h st hi hk w fr hsz t0 t10 t11 t12 q x y z t35 t36 t37 t1
    obtain ⟨k,rfl⟩:∃ m,k=m+1:=⟨k - 1,by omega⟩
    rw [loop_succ]
    generalize hL:(λ t h=>cLoop Tryz.l14_1 k Tryz.l2 t h)=L
    obtain ⟨s,hs⟩:∃ s,l[i]?=some s:=⟨l[i]'(by omega),List.getElem?_eq_getElem (by omega)⟩
    have hd:=drop_at hs
    rw [hd] at hsz ⊢
    rw [List.length_cons] at hsz
    have vw:View h 1 v l.length (ints l):=w0.keep fr λ q hq hp=>by have:=hv q hq;omega
    obtain ⟨a,a1,a2⟩:=view_one vw (i:=i) (by omega)
    rw [intsAt hs] at a2
    obtain ⟨h1,k1,k2,k3,_⟩:=Tryz.u2S (x:=s) w (by omega)
    have hlen:=w2_len s st
    have e1:ltI (i:Int) (l.length:Int)=true:=ltIt (by omega)
    have e9:IntKind.i64.wrap ((i:Int)+1)=((i+1:Nat):Int):=by rw [wrapI64 (by omega) (by omega)];omega
    have e6:intN (i:Int)=some i:=intN_nat i
    unfold Tryz.l14_1
    simp [↓ kq,kq,↓ ku,ku,↓ ko,ko,↓ kt,↓ kz,kb,kv,kt,kx,t0,t10,t11,t12,t35,t36,t37,t1,a1,a2,k1,e1,e6,e9,gets_some,-bO_of,-bB_true,-bB_false,-H.next_push,-Int.natCast_add]
    rw [← hL]
    refine Gets.mono (ih (i+1) k _ h1 (w2 s st) (by omega) (by omega) k2 (fr.trans k3) (by omega) ?_ ?_ ?_ ?_ q x y z ?_ ?_ ?_ ?_) λ fl t' h' ⟨⟨b1,b2,b3⟩,b4⟩=>⟨⟨b1,b2,k3.trans b3⟩,b4⟩
    all_goals simp [kq,kb,t0,t10,t11,t12,t35,t36,t37,t1]
structure Row where
  var:List UInt8
  set:List Int
def rowCs (m:List (Row × SV)):List SV:=m.flatMap λ x=>[.str x.1.var,x.2]
theorem rowCs_len (m:List (Row × SV)):(rowCs m).length=m.length * 2:=by
  induction m with
  | nil=>rfl
  | cons x m ih=>show ([SV.str x.1.var,x.2]++rowCs m).length=(m.length+1) * 2;rw [List.length_append,ih];show 2+_=_;omega
theorem rowCs_at:∀ {m:List (Row × SV)} {i:Nat} {x:Row × SV},m[i]?=some x→((rowCs m).drop (i * 2)).take 2=[.str x.1.var,x.2]
  | y::m,0,x,h=>by
    simp at h;subst h;rfl
  | y::m,i+1,x,h=>by
    have h:m[i]?=some x:=by simpa using h
    have ih:=rowCs_at h
    show (([SV.str y.1.var,y.2]++rowCs m).drop ((i+1) * 2)).take 2=_
    rw [show (i+1) * 2=[SV.str y.1.var,y.2].length+i * 2 by show _=2+i * 2;omega,List.drop_append]
    simp only [Nat.add_sub_cancel_left]
    rw [List.drop_eq_nil_of_le (by omega),List.nil_append]
    exact ih
theorem load_row {h:H} {n:Nat} {v:SV} {m:List (Row × SV)} (w:View h 2 v n (rowCs m)) (hn:n=m.length) {i:Nat} {x:Row × SV} (hx:m[i]?=some x):∃ p,atIdx 2 i v=some p∧loadV (some 2) h.get p=some (.agg [.str x.1.var,x.2]):=by
  subst hn
  have hi:i < m.length:=(List.getElem?_eq_some_iff.1 hx).1
  obtain ⟨id,o,all,h1,h2,h3,h4,h5⟩:=w.at hi
  rw [rowCs_at hx] at h5
  refine ⟨_,h1,?_⟩
  show bO (rowCells h.get id) (λ cs=>kpart (some 2) cs o)=_
  rw [h3]
  show bO (dropX o all) (λ r=>bO (takeX 2 r) λ l=>some (SV.agg l))=_
  have e1:dropX o all=some (all.drop o):=by rw [dropX_eq,if_pos (by omega)]
  rw [e1]
  show bO (takeX 2 (all.drop o)) (λ l=>some (SV.agg l))=_
  have e2:takeX 2 (all.drop o)=some ((all.drop o).take 2):=by rw [takeX_eq,if_pos (by rw [List.length_drop];omega)]
  rw [e2,h5];rfl
def RowsV (h:H) (p:Nat) (v:SV) (m:List (Row × SV)):Prop:=View h 2 v m.length (rowCs m)∧(∀ q,isRow v q→q < p)∧∀ x ∈ m,View h 1 x.2 x.1.set.length (ints x.1.set)∧(∀ q,isRow x.2 q→q < p)∧x.2.cells?=some [x.2]
theorem RowsV.keep {h h':H} {p:Nat} {v:SV} {m:List (Row × SV)} (r:RowsV h p v m) {S W:Nat→Prop} (f:Fr S W h h') (hn:∀ q,q < p→¬S q):RowsV h' p v m:=
  ⟨r.1.keep f λ q hq=>hn q (r.2.1 q hq),r.2.1,λ x hx=>⟨(r.2.2 x hx).1.keep f λ q hq=>hn q ((r.2.2 x hx).2.1 q hq),(r.2.2 x hx).2⟩⟩
def wRow (x:Row) (st:WSt):WSt:=wNs x.set (w2 x.set.length (wT x.var st))
def szR:List Row→Nat
  | []=>0
  | x::l=>x.var.length+4+2 * x.set.length+szR l
def wRs (l:List Row) (st:WSt):WSt:=l.foldl (λ st x=>wRow x st) st
theorem wRow_len (x:Row) (st:WSt):(wRow x st).2.length≤st.2.length+(x.var.length+4+2 * x.set.length):=by
  have h1:=wNs_len x.set (w2 x.set.length (wT x.var st))
  have h2:=w2_len (x.set.length:Int) (wT x.var st)
  have h3:=wT_len x.var st
  unfold wRow
  omega
theorem wRs_len:∀ l st,(wRs l st).2.length≤st.2.length+szR l
  | [],st=>Nat.le_refl _
  | x::l,st=>by
    have h1:=wRs_len l (wRow x st)
    have h2:=wRow_len x st
    have e:(wRs (x::l) st)=wRs l (wRow x st):=rfl
    rw [e]
    show _≤st.2.length+(x.var.length+4+2 * x.set.length+szR l)
    omega
end
end Go.Proofs
end
section
/- LadderForms: rows that are written. -/
namespace Go.Proofs
open Go.Sh
set_option maxRecDepth 100000
attribute [local instance] powHeld
noncomputable section
theorem off_new {h:H} {p:Nat} {st:WSt} {o:SObj} (w:WrS h p st):Off (h.push o) p h.next:=by
  have f:Fr (λ _=>False) (λ _=>False) h (h.push o):=.push
  refine ⟨by simp,λ e=>?_⟩
  rcases e with e | ⟨buf,bad,e1,e2⟩
  · have:=w.here;omega
  · have hp:(h.push o).get p=h.get p:=f.keep p w.here λ k=>k
    rw [hp] at e1
    obtain ⟨buf',q1,q2,q3⟩:=w.wr
    rw [q1] at e1
    cases e1
    obtain ⟨_,⟨rfl,_⟩ | ⟨id,par,rfl,g⟩⟩:=q2
    · exact e2
    · have e2:h.next=id:=e2
      have:=H.get_lt g
      omega
theorem off_put {h:H} {p b:Nat} {o:SObj} {st:WSt} (w:WrS h p st) (hb:Off h p b):WrS (h.put b o) p st∧Off (h.put b o) p b:=by
  have hbp:b≠p:=λ e=>hb.2 (.inl e)
  have f:Fr (·=b) (·=b) h (h.put b o):=Fr.put hb.1
  have ow:∀ q,wrOwn (h.put b o) p q→wrOwn h p q:=λ q hq=>by
    rcases hq with e | ⟨buf,bad,e1,e2⟩
    · exact .inl e
    · rw [f.keep p w.here λ e=>hbp e.symm] at e1
      exact .inr ⟨buf,bad,e1,e2⟩
  refine ⟨⟨w.wr.keep f λ q hq e=>hb.2 (by have e:q=b:=e;subst e;exact hq),λ q hq=>w.own q (ow q hq),by rw [H.next_put];exact w.here⟩,by rw [H.next_put];exact hb.1,λ e=>hb.2 (ow _ e)⟩
theorem row_box {h:H} {b:Nat} {cs:List SV} (g:h.get b=some (.cells cs .fixed)):∀ o,loadV none h.get (.ptr b o)=cs[o]?:=loadB (rowCells_fixed g)
theorem row_mix {g h:H} {fr b:Nat} {cs:List SV} (e:g.get b=some (.cells cs .fixed)):∀ o,loadV none (mixTo g h fr) (.ptr b o)=cs[o]?:=loadB ((rowCells_mix (H.get_lt e)).trans (rowCells_fixed e))
theorem eqSV_view {h:H} {es n:Nat} {v:SV} {cs:List SV} (w:View h es v n cs):eqSV v v=true:=by
  obtain ⟨_,⟨rfl,_⟩ | ⟨id,off,cap,all,rfl,_⟩⟩:=w
  · rfl
  · exact eqS1_flat (v:=.slice id off n es cap) rfl
set_option maxHeartbeats 4000000 in
theorem Tryz.rows_loop {h0:H} {v:SV} {m:List (Row × SV)} {p:Nat} (r0:RowsV h0 p v m) (hl:m.length≤1073741824):∀ (j i k:Nat) (t:T) (h:H) (st:WSt),i+j=m.length→j+1073741828≤k→WrS h p st→Fr (p≤·) (p≤·) h0 h→st.2.length+szR ((m.map (·.1)).drop i)≤1073741824 →
    getP (way 3) t=some (.ptr p 0)→getP (way 35) t=some v→getP (way 36) t=some (.int .i64 m.length)→getP (way 37) t=some (.int .i64 i)→∀ q,getP (way 1) t=some (.ptr q 0) →
    Gets (cLoop Tryz.l14_2 k Tryz.l2 t h) λ fl t' h'=>LoopW p h (.exit 2) (wRs ((m.map (·.1)).drop i) st) fl t' h'∧getP (way 3) t'=some (.ptr p 0)∧getP (way 1) t'=some (.ptr q 0):=by
  intro j
  induction j with
  | zero=>
    intro i k t h st hi hk w fr hsz t0 t35 t36 t37 q t1
    obtain ⟨k,rfl⟩:∃ m,k=m+1:=⟨k - 1,by omega⟩
    rw [loop_succ]
    generalize (λ t h=>cLoop Tryz.l14_2 k Tryz.l2 t h)=L
    unfold Tryz.l14_2
    have e1:ltI (i:Int) (m.length:Int)=false:=ltIf (by omega)
    rw [List.drop_eq_nil_of_le (by rw [List.length_map];omega)]
    simp [↓ kq,kq,↓ ku,ku,↓ ko,ko,↓ kt,↓ kz,kb,kv,kt,kx,t0,t35,t36,t37,t1,e1,gets_some,-bO_of,-bB_true,-bB_false,-H.next_push,-Int.natCast_add]
    exact ⟨rfl,w,.refl⟩
  | succ j ih=>
    intro i k t h st hi hk w fr hsz t0 t35 t36 t37 q t1
    obtain ⟨k,rfl⟩:∃ m,k=m+1:=⟨k - 1,by omega⟩
    rw [loop_succ]
    generalize hL:(λ t h=>cLoop Tryz.l14_2 k Tryz.l2 t h)=L
    obtain ⟨x,hx⟩:∃ x,m[i]?=some x:=⟨m[i]'(by omega),List.getElem?_eq_getElem (by omega)⟩
    have hx':(m.map (·.1))[i]?=some x.1:=by simp [hx]
    have hd:=drop_at hx'
    rw [hd] at hsz ⊢
    have hsz':st.2.length+(x.1.var.length+4+2 * x.1.set.length+szR ((m.map (·.1)).drop (i+1)))≤1073741824:=hsz
    have rr:RowsV h p v m:=r0.keep fr λ q hq hp=>by have:p≤q:=hp;omega
    obtain ⟨a,a1,a2⟩:=load_row rr.1 rfl hx
    obtain ⟨s1,s2,s3⟩:=rr.2.2 x (List.mem_of_getElem? hx)
    obtain ⟨⟨xv,xs⟩,x2⟩:=x
    have hsz':st.2.length+(xv.length+4+2 * xs.length+szR ((m.map (·.1)).drop (i+1)))≤1073741824:=hsz'
    have s1:View h 1 x2 xs.length (ints xs):=s1
    have ez:=eqSV_view s1
    have e1:ltI (i:Int) (m.length:Int)=true:=ltIt (by omega)
    have e9:IntKind.i64.wrap ((i:Int)+1)=((i+1:Nat):Int):=by rw [wrapI64 (by omega) (by omega)];omega
    have e6:intN (i:Int)=some i:=intN_nat i
    generalize hh1:h.push (.cells [.str [],.nilslice] .fixed)=h1
    have f1:=calm_push hh1
    have w1:WrS h1 p st:=w.keep f1 λ _ _ k=>k
    have o1:Off h1 p h.next:=by rw [← hh1];exact off_new w
    have st2:storeV 2 h1 (.ptr h.next 0) (.agg [.str xv,x2])=some (.tuple [],h1.put h.next (.cells [.str xv,x2] .fixed)):=storeV_all (get_pushed hh1) rfl rfl
    obtain ⟨w2',o2⟩:=off_put (o:=.cells [.str xv,x2] .fixed) w1 o1
    have g2:(h1.put h.next (.cells [.str xv,x2] .fixed)).get h.next=some (.cells [.str xv,x2] .fixed):=get_put_self (get_pushed hh1)
    have f2:Fr (·=h.next) (·=h.next) h1 (h1.put h.next (.cells [.str xv,x2] .fixed)):=Fr.put (H.get_lt (get_pushed hh1))
    generalize h1.put h.next (.cells [.str xv,x2] .fixed)=h2 at *
    obtain ⟨h3,k1,w3,f3,n3⟩:=Tryz.textS (s:=xv) w2' (by omega) (by omega)
    obtain ⟨n3a,n3b⟩:=n3 _ o2
    have g3:=n3a.trans g2
    obtain ⟨h4,k2,w4,f4,n4⟩:=Tryz.u2S (x:=(xs.length:Int)) w3 (by have:=wT_len xv st;omega)
    obtain ⟨n4a,n4b⟩:=n4 _ n3b
    have g4:=n4a.trans g3
    have L2:=row_box g2
    have L3:=row_box g3
    have L4:=row_box g4
    have M2:∀ y n o,loadV none (mixTo h2 y n) (.ptr h.next o)=[SV.str xv,x2][o]?:=λ y n=>row_mix g2
    have M3:∀ y n o,loadV none (mixTo h3 y n) (.ptr h.next o)=[SV.str xv,x2][o]?:=λ y n=>row_mix g3
    have F12:Fr (p≤·) (p≤·) h h2:=by
      have:=w.here
      exact (f1.mono (λ _ _ k=>k.elim) (λ _ k=>k.elim)).trans (f2.mono (λ q _ e=>by have e:q=h.next:=e;show p≤q;omega) λ q e=>.inl (by have e:q=h.next:=e;show p≤q;omega))
    have F:Fr (p≤·) (p≤·) h h4:=(F12.trans f3).trans f4
    have v4:View h4 1 x2 xs.length (ints xs):=s1.keep F λ q hq hp=>by have:=s2 q hq;have:p≤q:=hp;omega
    have lv:=v4.length
    have sc:∀ k:SV→Option (SV × H),True:=λ _=>trivial
    have b1:w2 (xs.length:Int) (wT xv st)=w2 (xs.length:Int) (wT xv st):=rfl
    unfold Tryz.l14_2
    simp [↓ kq,kq,↓ ku,ku,↓ ko,ko,↓ kt,↓ kz,kb,kv,kt,kx,t0,t35,t36,t37,t1,a1,a2,e1,e6,hh1,st2,k1,k2,L2,L3,L4,M2,M3,lv,ez,gets_some,-bO_of,-bB_true,-bB_false,-H.next_push,-Int.natCast_add]
    refine gets_next (gets_next (gets_leave (gets_leave (Gets.mono (Tryz.nums_loop v4 s2 (by omega) xs.length 0 (k+1) _ h4 _ (by omega) (by omega) w4 .refl (by have:=wT_len xv st;have:=w2_len (xs.length:Int) (wT xv st);rw [List.drop_zero];omega) ?_ ?_ ?_ ?_ q v (.int .i64 m.length) (.int .i64 i) ?_ ?_ ?_ ?_) λ fl t' h' ⟨⟨c1,c2,c3⟩,c4,c5,c6,c7,c8⟩=>?_))))
    rotate_right
    · subst c1
      simp only [if_true]
      rw [List.drop_zero] at c2
      simp [↓ kq,kq,↓ ku,ku,↓ ko,ko,↓ kt,↓ kz,kb,kv,kt,kx,c4,c5,c6,c7,c8,e9,gets_some,-bO_of,-bB_true,-bB_false,-H.next_push,-Int.natCast_add]
      rw [← hL]
      refine Gets.mono (ih (i+1) k _ h' _ (by omega) (by omega) c2 ((fr.trans F).trans c3) (by
        have hw:(wNs xs (w2 (xs.length:Int) (wT xv st))).2.length≤st.2.length+(xv.length+4+2 * xs.length):=wRow_len ⟨xv,xs⟩ st
        omega) ?_ ?_ ?_ ?_ q ?_) λ fl t' h'' ⟨⟨b1,b2,b3⟩,b4⟩=>⟨⟨b1,b2,(F.trans c3).trans b3⟩,b4⟩
      all_goals simp [kq,kb,c4,c5,c6,c7,c8]
    all_goals simp [kq,kb,t0,t35,t36,t37,t1]
end
end Go.Proofs
end
section
/- LadderForms: edges that are written; Encode. -/
namespace Go.Proofs
open Go.Sh
set_option maxRecDepth 100000
attribute [local instance] powHeld
noncomputable section
theorem load_edge {h:H} {n:Nat} {v:SV} {l:List Edg} (w:View h 3 v n (edgs l)) (hn:n=l.length) {i:Nat} {e:Edg} (he:l[i]?=some e):∃ p,atIdx 3 i v=some p∧loadV (some 3) h.get p=some (.agg [.str e.src,.int .i64 e.pc,.str e.dst]):=by
  subst hn
  exact edge_load w he
def wE (e:Edg) (st:WSt):WSt:=wT e.dst (w2 e.pc (wT e.src st))
def wEs (l:List Edg) (st:WSt):WSt:=l.foldl (λ st e=>wE e st) st
def szE:List Edg→Nat
  | []=>0
  | e::l=>e.src.length+e.dst.length+6+szE l
theorem wE_len (e:Edg) (st:WSt):(wE e st).2.length≤st.2.length+(e.src.length+e.dst.length+6):=by
  have h1:=wT_len e.src st
  have h2:=w2_len e.pc (wT e.src st)
  have h3:=wT_len e.dst (w2 e.pc (wT e.src st))
  unfold wE
  omega
theorem wEs_len:∀ l st,(wEs l st).2.length≤st.2.length+szE l
  | [],st=>Nat.le_refl _
  | e::l,st=>by
    have h1:=wEs_len l (wE e st)
    have h2:=wE_len e st
    have h3:(wEs (e::l) st)=wEs l (wE e st):=rfl
    rw [h3]
    show _≤st.2.length+(e.src.length+e.dst.length+6+szE l)
    omega
set_option maxHeartbeats 4000000 in
theorem Tryz.edges_loop {h0:H} {v:SV} {l:List Edg} {p:Nat} (w0:View h0 3 v l.length (edgs l)) (hv:∀ q,isRow v q→q < p) (hl:l.length≤1073741824):∀ (j i k:Nat) (t:T) (h:H) (st:WSt),i+j=l.length→j < k→WrS h p st→Fr (p≤·) (p≤·) h0 h→st.2.length+szE (l.drop i)≤1073741824 →
    getP (way 3) t=some (.ptr p 0)→getP (way 67) t=some v→getP (way 68) t=some (.int .i64 l.length)→getP (way 69) t=some (.int .i64 i)→∀ q,getP (way 1) t=some (.ptr q 0) →
    Gets (cLoop Tryz.l14_0 k Tryz.l2 t h) λ fl t' h'=>LoopW p h (.exit 6) (wEs (l.drop i) st) fl t' h'∧getP (way 3) t'=some (.ptr p 0)∧getP (way 1) t'=some (.ptr q 0):=by
  intro j
  induction j with
  | zero=>
    intro i k t h st hi hk w fr hsz t0 t35 t36 t37 q t1
    obtain ⟨k,rfl⟩:∃ m,k=m+1:=⟨k - 1,by omega⟩
    rw [loop_succ]
    generalize (λ t h=>cLoop Tryz.l14_0 k Tryz.l2 t h)=L
    unfold Tryz.l14_0
    have e1:ltI (i:Int) (l.length:Int)=false:=ltIf (by omega)
    rw [List.drop_eq_nil_of_le (by omega)]
    simp [↓ kq,kq,↓ ku,ku,↓ ko,ko,↓ kt,↓ kz,kb,kv,kt,kx,t0,t35,t36,t37,t1,e1,gets_some,-bO_of,-bB_true,-bB_false,-H.next_push,-Int.natCast_add]
    exact ⟨rfl,w,.refl⟩
  | succ j ih=>
    intro i k t h st hi hk w fr hsz t0 t35 t36 t37 q t1
    obtain ⟨k,rfl⟩:∃ m,k=m+1:=⟨k - 1,by omega⟩
    rw [loop_succ]
    generalize hL:(λ t h=>cLoop Tryz.l14_0 k Tryz.l2 t h)=L
    obtain ⟨x,hx⟩:∃ x,l[i]?=some x:=⟨l[i]'(by omega),List.getElem?_eq_getElem (by omega)⟩
    have hd:=drop_at hx
    rw [hd] at hsz ⊢
    have hsz':st.2.length+(x.src.length+x.dst.length+6+szE (l.drop (i+1)))≤1073741824:=hsz
    have rr:View h 3 v l.length (edgs l):=w0.keep fr λ q hq hp=>by have:=hv q hq;have:p≤q:=hp;omega
    obtain ⟨a,a1,a2⟩:=load_edge rr rfl hx
    obtain ⟨xs,xp,xd⟩:=x
    have hsz':st.2.length+(xs.length+xd.length+6+szE (l.drop (i+1)))≤1073741824:=hsz'
    have e1:ltI (i:Int) (l.length:Int)=true:=ltIt (by omega)
    have e9:IntKind.i64.wrap ((i:Int)+1)=((i+1:Nat):Int):=by rw [wrapI64 (by omega) (by omega)];omega
    have e6:intN (i:Int)=some i:=intN_nat i
    generalize hh1:h.push (.cells [.str [],.int .i64 0,.str []] .fixed)=h1
    have f1:=calm_push hh1
    have w1:WrS h1 p st:=w.keep f1 λ _ _ k=>k
    have o1:Off h1 p h.next:=by rw [← hh1];exact off_new w
    have st2:storeV 3 h1 (.ptr h.next 0) (.agg [.str xs,.int .i64 xp,.str xd])=some (.tuple [],h1.put h.next (.cells [.str xs,.int .i64 xp,.str xd] .fixed)):=storeV_all (get_pushed hh1) rfl rfl
    obtain ⟨w2',o2⟩:=off_put (o:=.cells [.str xs,.int .i64 xp,.str xd] .fixed) w1 o1
    have g2:(h1.put h.next (.cells [.str xs,.int .i64 xp,.str xd] .fixed)).get h.next=some (.cells [.str xs,.int .i64 xp,.str xd] .fixed):=get_put_self (get_pushed hh1)
    have f2:Fr (·=h.next) (·=h.next) h1 (h1.put h.next (.cells [.str xs,.int .i64 xp,.str xd] .fixed)):=Fr.put (H.get_lt (get_pushed hh1))
    generalize h1.put h.next (.cells [.str xs,.int .i64 xp,.str xd] .fixed)=h2 at *
    have hl1:=wT_len xs st
    have hl2:=w2_len xp (wT xs st)
    obtain ⟨h3,k1,w3,f3,n3⟩:=Tryz.textS (s:=xs) w2' (by omega) (by omega)
    obtain ⟨n3a,n3b⟩:=n3 _ o2
    have g3:=n3a.trans g2
    obtain ⟨h4,k2,w4,f4,n4⟩:=Tryz.u2S (x:=xp) w3 (by omega)
    obtain ⟨n4a,n4b⟩:=n4 _ n3b
    have g4:=n4a.trans g3
    obtain ⟨h5,k3,w5,f5,n5⟩:=Tryz.textS (s:=xd) w4 (by omega) (by omega)
    have L2:=row_box g2
    have L3:=row_box g3
    have L4:=row_box g4
    have M2:∀ y n o,loadV none (mixTo h2 y n) (.ptr h.next o)=[SV.str xs,.int .i64 xp,.str xd][o]?:=λ y n=>row_mix g2
    have M3:∀ y n o,loadV none (mixTo h3 y n) (.ptr h.next o)=[SV.str xs,.int .i64 xp,.str xd][o]?:=λ y n=>row_mix g3
    have z1:=λ s=>show eqSV (.str s) (.str s)=true from eqS1_str s
    have z2:=λ n=>show eqSV (.int .i64 n) (.int .i64 n)=true from eqS1_int .i64 n
    have F12:Fr (p≤·) (p≤·) h h2:=by
      have:=w.here
      exact (f1.mono (λ _ _ k=>k.elim) (λ _ k=>k.elim)).trans (f2.mono (λ q _ e=>by have e:q=h.next:=e;show p≤q;omega) λ q e=>.inl (by have e:q=h.next:=e;show p≤q;omega))
    have F:Fr (p≤·) (p≤·) h h5:=((F12.trans f3).trans f4).trans f5
    unfold Tryz.l14_0
    simp [↓ kq,kq,↓ ku,ku,↓ ko,ko,↓ kt,↓ kz,kb,kv,kt,kx,t0,t35,t36,t37,t1,a1,a2,e1,e6,e9,hh1,st2,k1,k2,k3,L2,L3,L4,M2,M3,z1,z2,gets_some,-bO_of,-bB_true,-bB_false,-H.next_push,-Int.natCast_add]
    rw [← hL]
    refine Gets.mono (ih (i+1) k _ h5 _ (by omega) (by omega) w5 (fr.trans F) (by
        have hw:(wT xd (w2 xp (wT xs st))).2.length≤st.2.length+(xs.length+xd.length+6):=wE_len ⟨xs,xp,xd⟩ st
        omega) ?_ ?_ ?_ ?_ q ?_) λ fl t' h'' ⟨⟨b1,b2,b3⟩,b4⟩=>⟨⟨b1,b2,F.trans b3⟩,b4⟩
    all_goals simp [kq,kb,t0,t35,t36,t37,t1]
def wM (st:WSt):WSt:=w1 49 (w1 84 (w1 80 (w1 82 st)))
end
end Go.Proofs
end
section
/- LadderForms: the program's Encode. -/
namespace Go.Proofs
open Go.Sh
set_option maxRecDepth 100000
attribute [local instance] powHeld
noncomputable section
def magicB:List UInt8:=[82,80,84,49]
def wB (l:List UInt8) (st:WSt):WSt:=l.foldl (λ st c=>w1 c.toNat st) st
theorem w1_len (x:Int) (st:WSt):(w1 x st).2.length≤st.2.length+1:=Nat.le_trans (putW_len ..) (by rw [be_length];exact Nat.le_refl _)
theorem Tryz.magic_loop {p:Nat}:∀ (j i k:Nat) (t:T) (h:H) (st:WSt),i+j=4→j < k→WrS h p st→st.2.length+j≤4294967296→getP (way 3) t=some (.ptr p 0)→getP (way 13) t=some (.int .i64 i)→∀ q,getP (way 1) t=some (.ptr q 0) →
    Gets (cLoop Tryz.l14_3 k Tryz.l2 t h) λ fl t' h'=>LoopW p h (.exit 0) (wB (magicB.drop i) st) fl t' h'∧getP (way 3) t'=some (.ptr p 0)∧getP (way 1) t'=some (.ptr q 0):=by
  intro j
  induction j with
  | zero=>
    intro i k t h st hi hk w hsz t0 t13 q t1
    obtain ⟨k,rfl⟩:∃ m,k=m+1:=⟨k - 1,by omega⟩
    rw [loop_succ]
    generalize (λ t h=>cLoop Tryz.l14_3 k Tryz.l2 t h)=L
    unfold Tryz.l14_3
    have e1:ltI (i:Int) 4=false:=ltIf (by omega)
    rw [List.drop_eq_nil_of_le (by show 4≤i;omega)]
    simp [↓ kq,kq,↓ ku,ku,↓ ko,ko,↓ kt,↓ kz,kb,kv,kt,kx,t0,t13,t1,e1,gets_some,-bO_of,-bB_true,-bB_false,-H.next_push,-Int.natCast_add]
    exact ⟨rfl,w,.refl⟩
  | succ j ih=>
    intro i k t h st hi hk w hsz t0 t13 q t1
    obtain ⟨k,rfl⟩:∃ m,k=m+1:=⟨k - 1,by omega⟩
    rw [loop_succ]
    generalize hL:(λ t h=>cLoop Tryz.l14_3 k Tryz.l2 t h)=L
    have hlt:i < magicB.length:=by show i < 4;omega
    obtain ⟨c,hc⟩:∃ c,magicB[i]?=some c:=⟨magicB[i],List.getElem?_eq_getElem hlt⟩
    have hd:=drop_at hc
    rw [hd]
    have hc':([82,80,84,49]:List UInt8)[i]?=some c:=hc
    obtain ⟨h1,k1,k2,k3,_⟩:=Tryz.u1S (x:=(c.toNat:Int)) w (by omega)
    have hlen:=w1_len (c.toNat:Int) st
    have e1:ltI (i:Int) 4=true:=ltIt (by omega)
    have e9:IntKind.i64.wrap ((i:Int)+1)=((i+1:Nat):Int):=by rw [wrapI64 (by omega) (by omega)];omega
    have e6:intN (i:Int)=some i:=intN_nat i
    have ec:=c.toNat_lt
    have e7:IntKind.i64.wrap (c.toNat:Int)=(c.toNat:Int):=wrapI64 (by omega) (by omega)
    unfold Tryz.l14_3
    simp [↓ kq,kq,↓ ku,ku,↓ ko,ko,↓ kt,↓ kz,kb,kv,kt,kx,t0,t13,t1,e1,e6,e7,e9,hc',k1,vToI,wrapS_eq,gets_some,-bO_of,-bB_true,-bB_false,-H.next_push,-Int.natCast_add]
    rw [← hL]
    refine Gets.mono (ih (i+1) k _ h1 _ (by omega) (by omega) k2 (by omega) ?_ ?_ q ?_) λ fl t' h' ⟨⟨b1,b2,b3⟩,b4⟩=>⟨⟨b1,b2,k3.trans b3⟩,b4⟩
    all_goals simp [kq,kb,t0,t13,t1]
structure RD where
  entry:List UInt8
  sites:List (List UInt8)
  sets:List Row
  edges:List Edg
  reach:List (List UInt8)
  inits:List (List UInt8)
structure RepV (h:H) (p:Nat) (cs:List SV) (r:RD) (m:List (Row × SV)):Prop where
  cells:∃ sv tv ev rv iv,cs=[.str r.entry,sv,tv,ev,rv,iv]∧View h 1 sv r.sites.length (strs r.sites)∧(∀ q,isRow sv q→q < p)∧RowsV h p tv m∧View h 3 ev r.edges.length (edgs r.edges)∧(∀ q,isRow ev q→q < p) ∧
    View h 1 rv r.reach.length (strs r.reach)∧(∀ q,isRow rv q→q < p)∧View h 1 iv r.inits.length (strs r.inits)∧(∀ q,isRow iv q→q < p)
  rows:m.map (·.1)=r.sets
theorem RepV.keep {h h':H} {p:Nat} {cs:List SV} {r:RD} {m:List (Row × SV)} (R:RepV h p cs r m) {S W:Nat→Prop} (f:Fr S W h h') (hn:∀ q,q < p→¬S q):RepV h' p cs r m:=by
  obtain ⟨⟨sv,tv,ev,rv,iv,e,a1,a2,b,c1,c2,d1,d2,f1,f2⟩,hr⟩:=R
  exact ⟨⟨sv,tv,ev,rv,iv,e,a1.keep f λ q hq=>hn q (a2 q hq),a2,b.keep f hn,c1.keep f λ q hq=>hn q (c2 q hq),c2,d1.keep f λ q hq=>hn q (d2 q hq),d2,f1.keep f λ q hq=>hn q (f2 q hq),f2⟩,hr⟩
theorem RepV.up {h:H} {p p':Nat} {cs:List SV} {r:RD} {m:List (Row × SV)} (R:RepV h p cs r m) (hp:p≤p'):RepV h p' cs r m:=by
  obtain ⟨⟨sv,tv,ev,rv,iv,e,a1,a2,b,c1,c2,d1,d2,f1,f2⟩,hr⟩:=R
  have up:∀ {v:SV},(∀ q,isRow v q→q < p)→∀ q,isRow v q→q < p':=λ a q hq=>Nat.lt_of_lt_of_le (a q hq) hp
  exact ⟨⟨sv,tv,ev,rv,iv,e,a1,up a2,⟨b.1,up b.2.1,λ x hx=>⟨(b.2.2 x hx).1,up (b.2.2 x hx).2.1,(b.2.2 x hx).2.2⟩⟩,c1,up c2,d1,up d2,f1,up f2⟩,hr⟩
def szD (r:RD):Nat:=r.entry.length+szT r.sites+szR r.sets+szE r.edges+szT r.reach+szT r.inits+16
def encW (r:RD):WSt:=wTs r.inits (w2 r.inits.length (wTs r.reach (w2 r.reach.length (wEs r.edges (w2 r.edges.length (wRs r.sets (w2 r.sets.length (wTs r.sites (w2 r.sites.length (wT r.entry (wB magicB (false,[]))))))))))))
theorem szT_len:∀ l,l.length≤szT l
  | []=>Nat.le_refl _
  | s::l=>by have:=szT_len l;show l.length+1≤s.length+2+szT l;omega
theorem szR_len:∀ l,l.length≤szR l
  | []=>Nat.le_refl _
  | s::l=>by have:=szR_len l;show l.length+1≤s.var.length+4+2 * s.set.length+szR l;omega
theorem szE_len:∀ l,l.length≤szE l
  | []=>Nat.le_refl _
  | s::l=>by have:=szE_len l;show l.length+1≤s.src.length+s.dst.length+6+szE l;omega
theorem wrS_new {h h1:H} (e:h.push (.cells [.nilslice,.bool false] .fixed)=h1):WrS h1 h.next (false,[]):=by
  have g:=get_pushed e
  refine ⟨⟨.nilslice,g,⟨rfl,.inl ⟨rfl,rfl⟩⟩,λ q hq=>hq.elim⟩,λ q hq=>?_,H.get_lt g⟩
  rcases hq with e | ⟨buf,bad,e1,e2⟩
  · have e:q=h.next:=e;omega
  · rw [g] at e1;cases e1;exact e2.elim
set_option maxHeartbeats 8000000 in
theorem Tryz.encode14 {h:H} {cs:List SV} {r:RD} {m:List (Row × SV)} (R:RepV h h.next cs r m) (hsz:szD r≤536870912) :
    ∃ v h',Tryz.l2 14 [.agg cs] h=some (v,h')∧(View h' 1 v (if (encW r).1 then [] else (encW r).2).length (if (encW r).1 then [] else (encW r).2)∧∀ q,isRow v q→h.next≤q)∧Calms h h':=by
  refine Go.Sh.enG Tryz.kTab_ok (X:=Tryz.X2) (kf:=Tryz.k14) rfl (by kernel_rfl) 2147483656 rfl rfl ?_
  obtain ⟨⟨sv,tv,ev,rv,iv,rfl,a1,a2,b1,c1,c2,d1,d2,i1,i2⟩,hrows⟩:=R
  generalize hcs:[SV.str r.entry,sv,tv,ev,rv,iv]=cs at *
  have y0:cs[0]?=some (.str r.entry):=by rw [← hcs];rfl
  have y1:cs[1]?=some sv:=by rw [← hcs];rfl
  have y2:cs[2]?=some tv:=by rw [← hcs];rfl
  have y3:cs[3]?=some ev:=by rw [← hcs];rfl
  have y4:cs[4]?=some rv:=by rw [← hcs];rfl
  have y5:cs[5]?=some iv:=by rw [← hcs];rfl
  have es:eqSV sv sv=true:=eqSV_view a1
  generalize hh1:h.push (.cells cs .fixed)=h1
  have f1:=calm_push hh1
  have g1:=get_pushed hh1
  have n1:h1.next=h.next+1:=by rw [← hh1];rfl
  have e1:∀ t,vFill [.nilslice,.bool false] [] [] t=some (.agg [.nilslice,.bool false]):=λ _=>rfl
  generalize hh2:h1.push (.cells [.nilslice,.bool false] .fixed)=h2
  have f2:=calm_push hh2
  have w2':=wrS_new hh2
  have n2:h2.next=h1.next+1:=by rw [← hh2];rfl
  obtain ⟨p,hp⟩:∃ p,p=h1.next:=⟨_,rfl⟩
  rw [← hp] at w2'
  have up:∀ {v:SV},(∀ q,isRow v q→q < h.next)→∀ q,isRow v q→q < p:=λ a q hq=>by have:=a q hq;omega
  have F2:Calms h h2:=f1.trans f2
  have nn:∀ {v:SV},(∀ q,isRow v q→q < h.next)→∀ q,isRow v q→¬p≤q:=λ a q hq hle=>by have:=a q hq;omega
  have B2:h2.get h.next=some (.cells cs .fixed):=(f2.keep _ (by omega) λ k=>k).trans g1
  have kb':∀ {a b:H} {o:SObj},Fr (p≤·) (p≤·) a b→a.get h.next=some o→b.get h.next=some o:=λ f g=>f.get g (by show ¬p≤h.next;omega)
  have ld:∀ {a:H},a.get h.next=some (.cells cs .fixed)→∀ o,loadV none a.get (.ptr h.next o)=cs[o]?:=λ g=>row_box g
  have lm:∀ {a:H},a.get h.next=some (.cells cs .fixed)→∀ y n o,loadV none (mixTo a y n) (.ptr h.next o)=cs[o]?:=λ g y n=>row_mix g
  simp [↓ kq,kq,↓ ku,ku,↓ ko,ko,↓ kt,↓ kz,kb,kv,kt,kx,hh1,e1,hh2,gets_some,-bO_of,-bB_true,-bB_false,-H.next_push,-Int.natCast_add]
  refine gets_next (gets_leave (Gets.mono (Tryz.magic_loop 4 0 _ _ h2 (false,[]) rfl (by omega) w2' (by simp) (by simp [kq,kb,hp]) (by simp [kq,kb]) h.next (by simp [kq,kb])) λ fl t' h3 ⟨⟨x1,w3,f3⟩,t3,t1⟩=>?_))
  subst x1
  simp only [if_true]
  rw [List.drop_zero] at w3
  have B3:=kb' f3 B2
  have S0:(wB magicB (false,[])).2.length≤4:=by
    have e:wB magicB (false,[])=w1 49 (w1 84 (w1 80 (w1 82 (false,[])))):=rfl
    rw [e]
    have q1:=w1_len 82 (false,[])
    have q2:=w1_len 80 (w1 82 (false,[]))
    have q3:=w1_len 84 (w1 80 (w1 82 (false,[])))
    have q4:=w1_len 49 (w1 84 (w1 80 (w1 82 (false,[]))))
    have q0:(([]:List SV)).length=0:=rfl
    simp only at q1
    omega
  unfold szD at hsz
  generalize hst0:wB magicB (false,[])=st0 at *
  have S1:=wT_len r.entry st0
  obtain ⟨h4,k4,w4,f4,_⟩:=Tryz.textS (s:=r.entry) w3 (by omega) (by omega)
  have B4:=kb' f4 B3
  have F24:Fr (p≤·) (p≤·) h2 h4:=f3.trans f4
  generalize hst1:wT r.entry st0=st1 at *
  have Z1:=szT_len r.sites
  have Z2:=szR_len r.sets
  have Z3:=szE_len r.edges
  have Z4:=szT_len r.reach
  have Z5:=szT_len r.inits
  have sv4:View h4 1 sv r.sites.length (strs r.sites):=(a1.keep F2 λ _ _ k=>k).keep F24 (nn a2)
  obtain ⟨v5,h5,k5,w5,f5⟩:=Tryz.texts37 sv4 (up a2) (by omega) w4 (by omega)
  have B5:=kb' f5 B4
  have S2:=wTs_len r.sites (w2 r.sites.length st1)
  have S2':=w2_len (r.sites.length:Int) st1
  generalize hst2:wTs r.sites (w2 r.sites.length st1)=st2 at *
  obtain ⟨h6,k6,w6,f6,_⟩:=Tryz.u2S (x:=(r.sets.length:Int)) w5 (by omega)
  have B6:=kb' f6 B5
  have F26:Fr (p≤·) (p≤·) h2 h6:=(F24.trans f5).trans f6
  have S3:=w2_len (r.sets.length:Int) st2
  have b6:RowsV h6 p tv m:=by
    refine RowsV.keep ⟨b1.1.keep F2 λ _ _ k=>k,up b1.2.1,λ x hx=>⟨(b1.2.2 x hx).1.keep F2 λ _ _ k=>k,up (b1.2.2 x hx).2.1,(b1.2.2 x hx).2.2⟩⟩ F26 λ q hq hle=>by omega
  have hml:m.length=r.sets.length:=by rw [← hrows,List.length_map]
  have tl:lenV tv=some r.sets.length:=by rw [← hml];exact b1.1.length
  simp [↓ kq,kq,↓ ku,ku,↓ ko,ko,↓ kt,↓ kz,kb,kv,kt,kx,t3,t1,ld B3,ld B4,ld B5,ld B6,lm B3,lm B4,lm B5,y0,y1,y2,y3,y4,y5,es,k4,k5,k6,tl,gets_some,-bO_of,-bB_true,-bB_false,-H.next_push,-Int.natCast_add]
  refine gets_next (gets_leave (Gets.mono (Tryz.rows_loop b6 (by omega) m.length 0 _ _ h6 _ (by omega) (by omega) w6 .refl (by rw [List.drop_zero,hrows];omega) ?_ ?_ ?_ ?_ h.next ?_) λ fl t'' h7 ⟨⟨x1,w7,f7⟩,t3',t1'⟩=>?_))
  rotate_right
  · subst x1
    simp only [if_true]
    rw [List.drop_zero,hrows] at w7
    have B7:=kb' f7 B6
    have S4:=wRs_len r.sets (w2 r.sets.length st2)
    generalize hst3:wRs r.sets (w2 r.sets.length st2)=st3 at *
    obtain ⟨h8,k8,w8,f8,_⟩:=Tryz.u2S (x:=(r.edges.length:Int)) w7 (by omega)
    have B8:=kb' f8 B7
    have F28:Fr (p≤·) (p≤·) h2 h8:=(F26.trans f7).trans f8
    have S5:=w2_len (r.edges.length:Int) st3
    have c8:View h8 3 ev r.edges.length (edgs r.edges):=(c1.keep F2 λ _ _ k=>k).keep F28 (nn c2)
    have el:=c1.length
    simp [↓ kq,kq,↓ ku,ku,↓ ko,ko,↓ kt,↓ kz,kb,kv,kt,kx,t3',t1',ld B7,ld B8,y0,y1,y2,y3,y4,y5,es,k8,el,gets_some,-bO_of,-bB_true,-bB_false,-H.next_push,-Int.natCast_add]
    refine gets_next (gets_leave (Gets.mono (Tryz.edges_loop c8 (up c2) (by omega) r.edges.length 0 _ _ h8 _ (by omega) (by omega) w8 .refl (by rw [List.drop_zero];omega) ?_ ?_ ?_ ?_ h.next ?_) λ fl t5 h9 ⟨⟨x1,w9,f9⟩,t3b,t1b⟩=>?_))
    rotate_right
    · subst x1
      simp only [if_true]
      rw [List.drop_zero] at w9
      have B9:=kb' f9 B8
      have F29:Fr (p≤·) (p≤·) h2 h9:=F28.trans f9
      have S6:=wEs_len r.edges (w2 r.edges.length st3)
      generalize hst4:wEs r.edges (w2 r.edges.length st3)=st4 at *
      have d9:View h9 1 rv r.reach.length (strs r.reach):=(d1.keep F2 λ _ _ k=>k).keep F29 (nn d2)
      obtain ⟨va,ha,ka,wa,fa⟩:=Tryz.texts37 d9 (up d2) (by omega) w9 (by omega)
      have Ba:=kb' fa B9
      have S7:=wTs_len r.reach (w2 r.reach.length st4)
      have S7':=w2_len (r.reach.length:Int) st4
      generalize hst5:wTs r.reach (w2 r.reach.length st4)=st5 at *
      have ia:View ha 1 iv r.inits.length (strs r.inits):=((i1.keep F2 λ _ _ k=>k).keep F29 (nn i2)).keep fa (nn i2)
      obtain ⟨vb,hb,kb1,wb,fb⟩:=Tryz.texts37 ia (up i2) (by omega) wa (by omega)
      have S8:=wTs_len r.inits (w2 r.inits.length st5)
      have S8':=w2_len (r.inits.length:Int) st5
      have he:encW r=wTs r.inits (w2 r.inits.length st5):=by rw [← hst5,← hst4,← hst3,← hst2,← hst1,← hst0];rfl
      rw [he]
      generalize hst6:wTs r.inits (w2 r.inits.length st5)=st6 at *
      obtain ⟨vc,hc,kc1,wc,fc,oc⟩:=Tryz.bytes wb.wr (by omega)
      have hnx:h.next≤hb.next:=by have:=F29.next;have:=fa.next;have:=fb.next;omega
      simp [↓ kq,kq,↓ ku,ku,↓ ko,ko,↓ kt,↓ kz,kb,kv,kt,kx,t3b,t1b,ld B9,ld Ba,y0,y1,y2,y3,y4,y5,es,ka,kb1,kc1,gets_some,kc,oneS,-bO_of,-bB_true,-bB_false,-H.next_push,-Int.natCast_add]
      refine ⟨⟨?_,λ q hq=>Nat.le_trans hnx (oc q hq)⟩,?_⟩
      · cases hbd:st6.1 with
        | true=>rw [hbd] at wc;simpa using wc
        | false=>rw [hbd] at wc;simpa using wc
      · exact Fr.new F2 (((F29.trans fa).trans fb).trans (fc.mono (λ _ _ k=>k.elim) λ _ k=>k.elim)) (λ q hq=>by have:p≤q:=hq;omega) (λ q hq=>by have:p≤q:=hq;omega)
    all_goals simp [kq,kb,t3',t1',hp]
  all_goals simp [kq,kb,t3,t1,hp,hml]
end
end Go.Proofs
end
section
/- LadderForms: what can be written, and its bytes. -/
namespace Go.Proofs
open Go.Sh
set_option maxRecDepth 100000
attribute [local instance] powHeld
noncomputable section
def Step (f:WSt→WSt) (ok:Bool) (bs:List SV):Prop:=∀ st,(f st).1=(st.1 || !ok)∧((f st).1=false→(f st).2=st.2++bs)
theorem Step.comp {f g:WSt→WSt} {a b:Bool} {x y:List SV} (hf:Step f a x) (hg:Step g b y):Step (λ st=>g (f st)) (a&&b) (x++y):=λ st=>by
  obtain ⟨f1,f2⟩:=hf st
  obtain ⟨g1,g2⟩:=hg (f st)
  refine ⟨?_,λ h=>?_⟩
  · show (g (f st)).1=_
    rw [g1,f1]
    cases st.1 <;> cases a <;> cases b <;> rfl
  · have h:(g (f st)).1=false:=h
    have h2:(f st).1=false:=by
      rw [g1] at h
      simp at h
      exact h.1
    show (g (f st)).2=_
    rw [g2 h,f2 h2,List.append_assoc]
theorem Step.id:Step (λ st=>st) true []:=λ st=>⟨by simp,λ _=>by simp⟩
theorem Step.fold {α:Type} {w:α→WSt→WSt} {ok:α→Bool} {bs:α→List SV} (h:∀ x,Step (w x) (ok x) (bs x)):∀ l:List α,Step (λ st=>l.foldl (λ st x=>w x st) st) (l.all ok) (l.flatMap bs)
  | []=>Step.id
  | x::l=>(h x).comp (Step.fold h l)
theorem Step.put (x lo hi:Int) (new:List SV):Step (putW x lo hi new) (!(ltI x lo || ltI hi x)) new:=λ st=>by
  unfold putW outOf
  cases h:st.1 || (ltI x lo || ltI hi x) with
  | true=>exact ⟨by simpa using h.symm,λ e=>by simp at e⟩
  | false=>exact ⟨by simpa using h.symm,λ _=>by simp⟩
def two16 (x:Int):Bool:=!ltI x 0&&ltI x 65536
theorem two16_eq (x:Int):(!(ltI x 0 || ltI 65535 x))=two16 x:=by
  unfold two16
  by_cases h:x < 0
  · rw [ltIt h];rfl
  · rw [ltIf h]
    by_cases h2:x < 65536
    · rw [ltIt h2,ltIf (by omega)];rfl
    · rw [ltIf h2,ltIt (by omega)];rfl
theorem step2 (x:Int):Step (w2 x) (two16 x) (be 2 x):=by rw [← two16_eq];exact Step.put _ _ _ _
theorem stepT (s:List UInt8):Step (wT s) (two16 s.length) (be 2 s.length++u8s s):=by rw [← two16_eq];exact Step.put _ _ _ _
def bText (s:List UInt8):List SV:=be 2 s.length++u8s s
def okTs (l:List (List UInt8)):Bool:=l.all λ s=>two16 s.length
def bTs (l:List (List UInt8)):List SV:=l.flatMap bText
def okTexts (l:List (List UInt8)):Bool:=two16 l.length&&okTs l
def bTexts (l:List (List UInt8)):List SV:=be 2 l.length++bTs l
def okNs (l:List Int):Bool:=l.all two16
def bNs (l:List Int):List SV:=l.flatMap (be 2)
def okRow (x:Row):Bool:=two16 x.var.length&&(two16 x.set.length&&okNs x.set)
def bRow (x:Row):List SV:=bText x.var++(be 2 x.set.length++bNs x.set)
def okRs (l:List Row):Bool:=l.all okRow
def bRs (l:List Row):List SV:=l.flatMap bRow
def okE (e:Edg):Bool:=two16 e.src.length&&(two16 e.pc&&two16 e.dst.length)
def bE (e:Edg):List SV:=bText e.src++(be 2 e.pc++bText e.dst)
def okEs (l:List Edg):Bool:=l.all okE
def bEs (l:List Edg):List SV:=l.flatMap bE
theorem stepTs (l:List (List UInt8)):Step (wTs l) (okTs l) (bTs l):=Step.fold (λ s=>stepT s) l
theorem stepNs (l:List Int):Step (wNs l) (okNs l) (bNs l):=Step.fold (λ x=>step2 x) l
theorem stepRow (x:Row):Step (wRow x) (okRow x) (bRow x):=(stepT x.var).comp ((step2 x.set.length).comp (stepNs x.set))
theorem stepRs (l:List Row):Step (wRs l) (okRs l) (bRs l):=Step.fold stepRow l
theorem stepE (e:Edg):Step (wE e) (okE e) (bE e):=(stepT e.src).comp ((step2 e.pc).comp (stepT e.dst))
theorem stepEs (l:List Edg):Step (wEs l) (okEs l) (bEs l):=Step.fold stepE l
def okD (r:RD):Bool:=two16 r.entry.length&&(okTexts r.sites&&(two16 r.sets.length&&(okRs r.sets&&(two16 r.edges.length&&(okEs r.edges&&(okTexts r.reach&&okTexts r.inits))))))
def bD (r:RD):List SV:=u8s magicB++(bText r.entry++(bTexts r.sites++(be 2 r.sets.length++(bRs r.sets++(be 2 r.edges.length++(bEs r.edges++(bTexts r.reach++bTexts r.inits)))))))
theorem be_one (c:UInt8):be 1 (c.toNat:Int)=[.int .u8 (c.toNat:Int)]:=by
  have hc:=c.toNat_lt
  show [SV.int .u8 (wrapS .u8 (((c.toNat:Nat):Int).fdiv (2 ^ (8 * 0))))]=_
  rw [wrapS_eq]
  have:IntKind.u8.wrap (((c.toNat:Nat):Int).fdiv (2 ^ (8 * 0)))=(c.toNat:Int):=by
    rw [wrapU8]
    simp
    omega
  rw [this]
theorem flat_u8:∀ l:List UInt8,(l.flatMap λ c=>[SV.int .u8 (c.toNat:Int)])=u8s l
  | []=>rfl
  | c::l=>by rw [List.flatMap_cons,flat_u8 l];rfl
theorem stepB (l:List UInt8):Step (wB l) true (u8s l):=by
  have h:=Step.fold (w:=λ (c:UInt8) st=>w1 c.toNat st) (ok:=λ _=>true) (bs:=λ c=>[SV.int .u8 (c.toNat:Int)]) (λ c=>by
    have:=Step.put (c.toNat:Int) 0 255 (be 1 c.toNat)
    have hc:=c.toNat_lt
    rw [ltIf (by omega),ltIf (by omega),be_one] at this
    show Step (putW c.toNat 0 255 (be 1 c.toNat)) true [SV.int .u8 (c.toNat:Int)]
    rw [be_one]
    exact this) l
  have e1:(l.all λ _=>true)=true:=by simp
  rw [e1,flat_u8] at h
  exact h
theorem encW_eq (r:RD):(encW r).1=!okD r∧(okD r=true→(encW r).2=bD r):=by
  have h:=(stepB magicB).comp ((stepT r.entry).comp (((step2 r.sites.length).comp (stepTs r.sites)).comp ((step2 r.sets.length).comp ((stepRs r.sets).comp ((step2 r.edges.length).comp ((stepEs r.edges).comp (((step2 r.reach.length).comp (stepTs r.reach)).comp ((step2 r.inits.length).comp (stepTs r.inits)))))))))
  obtain ⟨h1,h2⟩:=h (false,[])
  have h1:(encW r).1=!okD r:=h1
  refine ⟨h1,λ ho=>?_⟩
  have h2:(encW r).1=false→(encW r).2=bD r:=h2
  exact h2 (by rw [h1,ho];rfl)
def encD (r:RD):List SV:=if okD r then bD r else []
theorem encD_eq (r:RD):(if (encW r).1 then [] else (encW r).2)=encD r:=by
  obtain ⟨h1,h2⟩:=encW_eq r
  unfold encD
  cases ho:okD r with
  | true=>rw [h1,ho,h2 ho];rfl
  | false=>rw [h1,ho];rfl
end
end Go.Proofs
end
section
/- LadderForms: the document's texts. -/
namespace Go.Proofs
open Go.Sh
set_option maxRecDepth 100000
attribute [local instance] powHeld
noncomputable section
theorem Tryz.two54 (x:Int) (h:H):Tryz.l2 54 [.int .i64 x] h=some (.bool (two16 x),h):=by
  have main:∃ v' h',Tryz.l2 54 [.int .i64 x] h=some (v',h')∧(v'=.bool (two16 x)∧h'=h):=by
    refine Go.Sh.enG Tryz.kTab_ok (X:=Tryz.X2) (kf:=Tryz.k54) rfl (by kernel_rfl) 2 rfl rfl ?_
    unfold two16
    cases c:ltI x 0 with
    | true=>
      simp [↓ kq,kq,↓ ku,ku,↓ ko,ko,↓ kt,↓ kz,kb,kv,kt,kx,c,gets_some,kc,oneS,-bO_of,-bB_true,-bB_false,-H.next_push,-Int.natCast_add]
    | false=>
      simp [↓ kq,kq,↓ ku,ku,↓ ko,ko,↓ kt,↓ kz,kb,kv,kt,kx,c,gets_some,kc,oneS,-bO_of,-bB_true,-bB_false,-H.next_push,-Int.natCast_add]
  obtain ⟨_,_,k1,rfl,rfl⟩:=main
  exact k1
structure BB (h:H) (lo:Nat) (v:SV) (n:Nat) (cs:List SV):Prop where
  buf:Buf h 1 v n cs
  own:∀ q,isRow v q→lo≤q
theorem BB.keep {h h':H} {lo n:Nat} {v:SV} {cs:List SV} {S W:Nat→Prop} (b:BB h lo v n cs) (f:Fr S W h h') (hn:∀ q,isRow v q→¬S q):BB h' lo v n cs:=⟨b.buf.keep f hn,b.own⟩
def Out (h:H) (v:SV) (b:Nat):Prop:=b < h.next∧¬isRow v b
theorem Out.keep {h h':H} {v:SV} {b:Nat} {S W:Nat→Prop} (o:Out h v b) (f:Fr S W h h'):Out h' v b:=⟨Nat.lt_of_lt_of_le o.1 f.next,o.2⟩
theorem bb_add {h:H} {lo n k:Nat} {v x:SV} {cs new:List SV} (g:BB h lo v n cs) (w:View h 1 x k new) (hk:n+k≤4294967296) (hlo:lo≤h.next):∃ v' h',appendV 1 1 h v x=some (v',h')∧BB h' lo v' (n+k) (cs++new)∧Fr (lo≤·) (λ _=>False) h h'∧∀ b,Out h v b→h'.get b=h.get b∧Out h' v' b:=by
  have hw:new.length=k:=by have:=w.1;omega
  obtain ⟨v',h',k1,k2,k3,k4⟩:=g.buf.append (bytes:=1) k new (by omega) (by omega) (by omega)
  exact ⟨v',h',append_V w k1,⟨k2,λ q hq=>(k4 q hq).elim (g.own q) λ h1=>Nat.le_trans hlo h1⟩,k3.mono (λ q _ e=>g.own q e) (λ q e=>.inl e),
    λ b hb=>⟨k3.keep b hb.1 hb.2,Nat.lt_of_lt_of_le hb.1 k3.next,λ e=>(k4 b e).elim hb.2 λ h1=>by have:=hb.1;omega⟩⟩
theorem Tryz.num_row (x:Int) (h:H):∃ v h',Tryz.l2 56 [.int .i64 x,.int .i64 2] h=some (v,h')∧View h' 1 v 2 (be 2 x)∧Calms h h':=by
  obtain ⟨h1,k1,k2,k3⟩:=Tryz.u x 2 (by omega) h
  exact ⟨_,h1,k1,view_row (rowCells_fixed k2) (be_length 2 x),k3⟩
def RefP (h0:H) (lo:Nat) (cs:List SV) (n:Nat) (ok0 ok:Bool) (bs:List SV) (N:Nat) (v:SV) (okv:Bool) (h':H):Prop:=
  okv=(ok0&&ok)∧(∃ n' cs',BB h' lo v n' cs'∧n'≤N∧(okv=true→cs'=cs++bs))∧Fr (lo≤·) (λ _=>False) h0 h'
def RtPost (h0:H) (lo:Nat) (cs:List SV) (n:Nat) (ok oks:Bool) (bs:List SV) (N:Nat) (fl:Flow) (t':T) (h':H):Prop:=fl=.exit 0∧∃ v' ok',getP (way 0) t'=some v'∧getP (way 6) t'=some (.bool ok')∧RefP h0 lo cs n ok oks bs N v' ok' h'
theorem Tryz.rtexts_loop {h0:H} {lo:Nat} {lv:SV} {l:List (List UInt8)} (w0:View h0 1 lv l.length (strs l)) (hlv:∀ q,isRow lv q→q < lo) (hlo:lo≤h0.next) (hl:l.length≤1073741824):∀ (j i k n N:Nat) (cs:List SV) (v:SV) (ok:Bool) (t:T) (h:H),i+j=l.length→j < k→BB h lo v n cs→n+szT (l.drop i)≤N→N≤1073741824→Fr (lo≤·) (λ _=>False) h0 h →
    getP (way 0) t=some v→getP (way 1) t=some lv→getP (way 6) t=some (.bool ok)→getP (way 7) t=some (.int .i64 i) →
    Gets (cLoop Tryz.l55_0 k Tryz.l2 t h) (RtPost h0 lo cs n ok (okTs (l.drop i)) (bTs (l.drop i)) N):=by
  intro j
  induction j with
  | zero=>
    intro i k n N cs v ok t h hi hk g hN hN2 fr t0 t1 t6 t7
    obtain ⟨k,rfl⟩:∃ m,k=m+1:=⟨k - 1,by omega⟩
    rw [loop_succ]
    generalize (λ t h=>cLoop Tryz.l55_0 k Tryz.l2 t h)=L
    unfold Tryz.l55_0
    have e1:ltI (i:Int) (l.length:Int)=false:=ltIf (by omega)
    have ln:=w0.length
    have hp:RefP h0 lo cs n ok (okTs (l.drop i)) (bTs (l.drop i)) N v ok h:=by
      rw [List.drop_eq_nil_of_le (by omega)]
      exact ⟨by simp [okTs],⟨n,cs,g,by omega,λ _=>by simp [bTs]⟩,fr⟩
    simp [↓ kq,kq,↓ ku,ku,↓ ko,ko,↓ kt,↓ kz,kb,kv,kt,kx,t0,t1,t6,t7,ln,e1,gets_some,-bO_of,-bB_true,-bB_false,-H.next_push,-Int.natCast_add]
    exact ⟨rfl,v,ok,by simp [kq,kb,t0],by simp [kq,kb,t6],hp⟩
  | succ j ih=>
    intro i k n N cs v ok t h hi hk g hN hN2 fr t0 t1 t6 t7
    obtain ⟨k,rfl⟩:∃ m,k=m+1:=⟨k - 1,by omega⟩
    rw [loop_succ]
    generalize hL:(λ t h=>cLoop Tryz.l55_0 k Tryz.l2 t h)=L
    have e1:ltI (i:Int) (l.length:Int)=true:=ltIt (by omega)
    have ln:=w0.length
    cases ok with
    | false=>
      have hp:RefP h0 lo cs n false (okTs (l.drop i)) (bTs (l.drop i)) N v false h:=⟨rfl,⟨n,cs,g,by omega,λ e=>by cases e⟩,fr⟩
      unfold Tryz.l55_0
      simp [↓ kq,kq,↓ ku,ku,↓ ko,ko,↓ kt,↓ kz,kb,kv,kt,kx,t0,t1,t6,t7,ln,e1,gets_some,-bO_of,-bB_true,-bB_false,-H.next_push,-Int.natCast_add]
      exact ⟨rfl,v,false,by simp [kq,kb,t0],by simp [kq,kb,t6],hp⟩
    | true=>
      obtain ⟨s,hs⟩:∃ s,l[i]?=some s:=⟨l[i]'(by omega),List.getElem?_eq_getElem (by omega)⟩
      have hd:=drop_at hs
      rw [hd] at hN ⊢
      have hN':n+(s.length+2+szT (l.drop (i+1)))≤N:=hN
      have vw:View h 1 lv l.length (strs l):=w0.keep fr λ q hq hp=>by have:=hlv q hq;have:lo≤q:=hp;omega
      obtain ⟨a,a1,a2⟩:=view_one vw (i:=i) (by omega)
      rw [strsAt hs] at a2
      have k1:=Tryz.two54 (s.length:Int) h
      obtain ⟨x,h1,k2,w2,f2,_⟩:=Tryz.text s h (by omega)
      obtain ⟨v',h2,k3,g3,f3,_⟩:=bb_add (g.keep f2 λ _ _ k=>k) w2 (by omega) (by have:=fr.next;have:=f2.next;omega)
      have e9:IntKind.i64.wrap ((i:Int)+1)=((i+1:Nat):Int):=by rw [wrapI64 (by omega) (by omega)];omega
      have e6:intN (i:Int)=some i:=intN_nat i
      have F:Fr (lo≤·) (λ _=>False) h0 h2:=(fr.trans (f2.mono (λ _ _ k=>k.elim) λ _ k=>k.elim)).trans f3
      unfold Tryz.l55_0
      simp [↓ kq,kq,↓ ku,ku,↓ ko,ko,↓ kt,↓ kz,kb,kv,kt,kx,t0,t1,t6,t7,ln,e1,e6,e9,a1,a2,k1,k2,k3,gets_some,-bO_of,-bB_true,-bB_false,-H.next_push,-Int.natCast_add]
      rw [← hL]
      refine Gets.mono (ih (i+1) k (n+(2+s.length)) N (cs++(be 2 s.length++u8s s)) v' (two16 s.length) _ h2 (by omega) (by omega) g3 (by omega) hN2 F ?_ ?_ ?_ ?_) ?_
      rotate_right
      · rintro fl t' h' ⟨b1,v2,ok2,b2,b3,b4,⟨n',cs',b5,b6,b7⟩,b8⟩
        refine ⟨b1,v2,ok2,b2,b3,?_,⟨n',cs',b5,b6,λ ho=>?_⟩,b8⟩
        · rw [b4];rfl
        · rw [b7 ho,List.append_assoc];rfl
      all_goals simp [kq,kb,t0,t1,t6,t7]
def RtEnd (h:H) (lo n:Nat) (cs:List SV) (l:List (List UInt8)) (x:SV) (h':H):Prop:=∃ v',x=.tuple [v',.bool (okTexts l)]∧∃ n' cs',BB h' lo v' n' cs'∧n'≤n+2+szT l∧(okTexts l=true→cs'=cs++bTexts l)
theorem Tryz.rtexts55 {h:H} {lo n:Nat} {v lv:SV} {cs:List SV} {l:List (List UInt8)} (g:BB h lo v n cs) (hlo:lo≤h.next) (w:View h 1 lv l.length (strs l)) (hlv:∀ q,isRow lv q→q < lo) (hn:n+2+szT l≤1073741824) :
    ∃ x h',Tryz.l2 55 [v,lv] h=some (x,h')∧RtEnd h lo n cs l x h'∧Fr (lo≤·) (λ _=>False) h h':=by
  refine Go.Sh.enG Tryz.kTab_ok (X:=Tryz.X2) (kf:=Tryz.k55) rfl (by kernel_rfl) (l.length+2) rfl rfl ?_
  have ln:=w.length
  have Z:=szT_len l
  have k1:=Tryz.two54 (l.length:Int) h
  obtain ⟨x,h1,k2,w2,f2⟩:=Tryz.num_row (l.length:Int) h
  obtain ⟨v',h2,k3,g3,f3,_⟩:=bb_add (g.keep f2 λ _ _ k=>k) w2 (by omega) (Nat.le_trans hlo f2.next)
  have F:Fr (lo≤·) (λ _=>False) h h2:=(f2.mono (λ _ _ k=>k.elim) λ _ k=>k.elim).trans f3
  have vw:View h2 1 lv l.length (strs l):=w.keep F λ q hq hp=>by have:=hlv q hq;have:lo≤q:=hp;omega
  simp [↓ kq,kq,↓ ku,ku,↓ ko,ko,↓ kt,↓ kz,kb,kv,kt,kx,ln,k1,k2,k3,gets_some,-bO_of,-bB_true,-bB_false,-H.next_push,-Int.natCast_add]
  refine gets_next (gets_leave (Gets.mono (Tryz.rtexts_loop vw hlv (Nat.le_trans hlo F.next) (by omega) l.length 0 (l.length+2) (n+2) (n+2+szT l) _ v' (two16 l.length) _ h2 (by omega) (by omega) g3 (by rw [List.drop_zero];omega) hn .refl ?_ ?_ ?_ ?_) ?_))
  rotate_right
  · rintro fl t' h' ⟨b1,v2,ok2,b2,b3,b4,⟨n',cs',b5,b6,b7⟩,b8⟩
    subst b1
    rw [List.drop_zero] at b4 b7
    simp only [if_true]
    have b4:ok2=okTexts l:=b4
    subst b4
    simp [↓ kq,kq,↓ ku,ku,↓ ko,ko,↓ kt,↓ kz,kb,kv,kt,kx,b2,b3,gets_some,kc,oneS,-bO_of,-bB_true,-bB_false,-H.next_push,-Int.natCast_add]
    exact ⟨⟨v2,rfl,n',cs',b5,b6,λ ho=>by rw [b7 ho,List.append_assoc];rfl⟩,F.trans b8⟩
  all_goals simp [kq,kb]
end
end Go.Proofs
end
section
/- LadderForms: the document's numbers, rows. -/
namespace Go.Proofs
open Go.Sh
set_option maxRecDepth 100000
attribute [local instance] powHeld
noncomputable section
def RnPost (e:Flow) (h0:H) (lo:Nat) (cs:List SV) (n:Nat) (ok oks:Bool) (bs:List SV) (N:Nat) (z1 z6:SV) (fl:Flow) (t':T) (h':H):Prop:=
  fl=e∧∃ v' ok',getP (way 3) t'=some v'∧getP (way 4) t'=some (.bool ok')∧RefP h0 lo cs n ok oks bs N v' ok' h'∧getP (way 1) t'=some z1∧getP (way 6) t'=some z6
set_option maxHeartbeats 4000000 in
theorem Tryz.rnums_loop {h0:H} {lo b:Nat} {x2:SV} {xv:List UInt8} {l:List Int} (w0:View h0 1 x2 l.length (ints l)) (hx2:∀ q,isRow x2 q→q < lo) (hlo:lo≤h0.next) (hl:l.length≤1073741824):∀ (j i k n N:Nat) (cs:List SV) (v:SV) (ok:Bool) (t:T) (h:H),i+j=l.length→j < k→BB h lo v n cs→n+2 * (l.drop i).length≤N→N≤1073741824→Fr (lo≤·) (λ _=>False) h0 h →
    h.get b=some (.cells [.str xv,x2] .fixed)→Out h v b→getP (way 3) t=some v→getP (way 4) t=some (.bool ok)→getP (way 7) t=some (.ptr b 0)→getP (way 8) t=some (.int .i64 i)→∀ z1 z6,getP (way 1) t=some z1→getP (way 6) t=some z6 →
    Gets (cLoop Tryz.l18_1 k Tryz.l2 t h) (RnPost (.exit 2) h0 lo cs n ok (okNs (l.drop i)) (bNs (l.drop i)) N z1 z6):=by
  intro j
  induction j with
  | zero=>
    intro i k n N cs v ok t h hi hk g hN hN2 fr hb ho t3 t4 t7 t8 z1 z6 t1 t6
    obtain ⟨k,rfl⟩:∃ m,k=m+1:=⟨k - 1,by omega⟩
    rw [loop_succ]
    generalize (λ t h=>cLoop Tryz.l18_1 k Tryz.l2 t h)=L
    unfold Tryz.l18_1
    have e1:ltI (i:Int) (l.length:Int)=false:=ltIf (by omega)
    have ln:=w0.length
    have L0:=row_box hb
    have hp:RefP h0 lo cs n ok (okNs (l.drop i)) (bNs (l.drop i)) N v ok h:=by
      rw [List.drop_eq_nil_of_le (by omega)]
      exact ⟨by simp [okNs],⟨n,cs,g,by omega,λ _=>by simp [bNs]⟩,fr⟩
    simp [↓ kq,kq,↓ ku,ku,↓ ko,ko,↓ kt,↓ kz,kb,kv,kt,kx,t3,t4,t7,t8,L0,ln,e1,gets_some,-bO_of,-bB_true,-bB_false,-H.next_push,-Int.natCast_add]
    exact ⟨rfl,v,ok,by simp [kq,kb,t3],by simp [kq,kb,t4],hp,by simp [kq,kb,t1],by simp [kq,kb,t6]⟩
  | succ j ih=>
    intro i k n N cs v ok t h hi hk g hN hN2 fr hb ho t3 t4 t7 t8 z1 z6 t1 t6
    obtain ⟨k,rfl⟩:∃ m,k=m+1:=⟨k - 1,by omega⟩
    rw [loop_succ]
    generalize hL:(λ t h=>cLoop Tryz.l18_1 k Tryz.l2 t h)=L
    have e1:ltI (i:Int) (l.length:Int)=true:=ltIt (by omega)
    have ln:=w0.length
    have L0:=row_box hb
    cases ok with
    | false=>
      have hp:RefP h0 lo cs n false (okNs (l.drop i)) (bNs (l.drop i)) N v false h:=⟨rfl,⟨n,cs,g,by omega,λ e=>by cases e⟩,fr⟩
      unfold Tryz.l18_1
      simp [↓ kq,kq,↓ ku,ku,↓ ko,ko,↓ kt,↓ kz,kb,kv,kt,kx,t3,t4,t7,t8,L0,ln,e1,gets_some,-bO_of,-bB_true,-bB_false,-H.next_push,-Int.natCast_add]
      exact ⟨rfl,v,false,by simp [kq,kb,t3],by simp [kq,kb,t4],hp,by simp [kq,kb,t1],by simp [kq,kb,t6]⟩
    | true=>
      obtain ⟨s,hs⟩:∃ s,l[i]?=some s:=⟨l[i]'(by omega),List.getElem?_eq_getElem (by omega)⟩
      have hd:=drop_at hs
      rw [hd] at hN ⊢
      rw [List.length_cons] at hN
      have vw:View h 1 x2 l.length (ints l):=w0.keep fr λ q hq hp=>by have:=hx2 q hq;have:lo≤q:=hp;omega
      obtain ⟨a,a1,a2⟩:=view_one vw (i:=i) (by omega)
      rw [intsAt hs] at a2
      have k1:=Tryz.two54 s h
      obtain ⟨x,h1,k2,w2,f2⟩:=Tryz.num_row s h
      obtain ⟨v',h2,k3,g3,f3,o3⟩:=bb_add (g.keep f2 λ _ _ k=>k) w2 (by omega) (by have:=fr.next;have:=f2.next;omega)
      obtain ⟨o4,o5⟩:=o3 b (ho.keep f2)
      have hb2:h2.get b=some (.cells [.str xv,x2] .fixed):=(o4.trans (f2.keep b ho.1 λ k=>k)).trans hb
      have e9:IntKind.i64.wrap ((i:Int)+1)=((i+1:Nat):Int):=by rw [wrapI64 (by omega) (by omega)];omega
      have e6:intN (i:Int)=some i:=intN_nat i
      have F:Fr (lo≤·) (λ _=>False) h0 h2:=(fr.trans (f2.mono (λ _ _ k=>k.elim) λ _ k=>k.elim)).trans f3
      unfold Tryz.l18_1
      simp [↓ kq,kq,↓ ku,ku,↓ ko,ko,↓ kt,↓ kz,kb,kv,kt,kx,t3,t4,t7,t8,L0,ln,e1,e6,e9,a1,a2,k1,k2,k3,gets_some,-bO_of,-bB_true,-bB_false,-H.next_push,-Int.natCast_add]
      rw [← hL]
      refine Gets.mono (ih (i+1) k (n+2) N (cs++be 2 s) v' (two16 s) _ h2 (by omega) (by omega) g3 (by omega) hN2 F hb2 o5 ?_ ?_ ?_ ?_ z1 z6 ?_ ?_) ?_
      rotate_right
      · rintro fl t' h' ⟨b1,v2,ok2,b2,b3,⟨b4,⟨n',cs',b5,b6,b7⟩,b8⟩,b9⟩
        refine ⟨b1,v2,ok2,b2,b3,⟨?_,⟨n',cs',b5,b6,λ ho=>?_⟩,b8⟩,b9⟩
        · rw [b4];rfl
        · rw [b7 ho,List.append_assoc];rfl
      all_goals simp [kq,kb,t3,t4,t7,t8,t1,t6]
set_option maxHeartbeats 8000000 in
theorem Tryz.rrows_loop {h0:H} {lo B:Nat} {tv:SV} {cells:List SV} {m:List (Row × SV)} (r0:RowsV h0 lo tv m) (hlo:lo≤h0.next) (hB:B < lo) (hcells:cells[2]?=some tv) (hl:m.length≤1073741824):∀ (j i k n N:Nat) (cs:List SV) (v:SV) (ok:Bool) (t:T) (h:H),i+j=m.length→j+1073741828≤k→BB h lo v n cs→n+szR ((m.map (·.1)).drop i)≤N→N≤1073741824→Fr (lo≤·) (λ _=>False) h0 h →
    h.get B=some (.cells cells .fixed)→getP (way 3) t=some v→getP (way 4) t=some (.bool ok)→getP (way 1) t=some (.ptr B 0)→getP (way 6) t=some (.int .i64 i) →
    Gets (cLoop Tryz.l18_2 k Tryz.l2 t h) λ fl t' h'=>∃ z6,RnPost (.exit 0) h0 lo cs n ok (okRs ((m.map (·.1)).drop i)) (bRs ((m.map (·.1)).drop i)) N (.ptr B 0) z6 fl t' h':=by
  intro j
  induction j with
  | zero=>
    intro i k n N cs v ok t h hi hk g hN hN2 fr hb t3 t4 t1 t6
    obtain ⟨k,rfl⟩:∃ m,k=m+1:=⟨k - 1,by omega⟩
    rw [loop_succ]
    generalize (λ t h=>cLoop Tryz.l18_2 k Tryz.l2 t h)=L
    unfold Tryz.l18_2
    have e1:ltI (i:Int) (m.length:Int)=false:=ltIf (by omega)
    have ln:=r0.1.length
    have L0:=row_box hb
    have hp:RefP h0 lo cs n ok (okRs ((m.map (·.1)).drop i)) (bRs ((m.map (·.1)).drop i)) N v ok h:=by
      rw [List.drop_eq_nil_of_le (by rw [List.length_map];omega)]
      exact ⟨by simp [okRs],⟨n,cs,g,by omega,λ _=>by simp [bRs]⟩,fr⟩
    simp [↓ kq,kq,↓ ku,ku,↓ ko,ko,↓ kt,↓ kz,kb,kv,kt,kx,t3,t4,t1,t6,L0,hcells,ln,e1,gets_some,-bO_of,-bB_true,-bB_false,-H.next_push,-Int.natCast_add]
    exact ⟨_,rfl,v,ok,by simp [kq,kb,t3],by simp [kq,kb,t4],hp,by simp [kq,kb,t1],by simp [kq,kb,t6];rfl⟩
  | succ j ih=>
    intro i k n N cs v ok t h hi hk g hN hN2 fr hb t3 t4 t1 t6
    obtain ⟨k,rfl⟩:∃ m,k=m+1:=⟨k - 1,by omega⟩
    rw [loop_succ]
    generalize hL:(λ t h=>cLoop Tryz.l18_2 k Tryz.l2 t h)=L
    have e1:ltI (i:Int) (m.length:Int)=true:=ltIt (by omega)
    have ln:=r0.1.length
    have L0:=row_box hb
    cases ok with
    | false=>
      have hp:RefP h0 lo cs n false (okRs ((m.map (·.1)).drop i)) (bRs ((m.map (·.1)).drop i)) N v false h:=⟨rfl,⟨n,cs,g,by omega,λ e=>by cases e⟩,fr⟩
      unfold Tryz.l18_2
      simp [↓ kq,kq,↓ ku,ku,↓ ko,ko,↓ kt,↓ kz,kb,kv,kt,kx,t3,t4,t1,t6,L0,hcells,ln,e1,gets_some,-bO_of,-bB_true,-bB_false,-H.next_push,-Int.natCast_add]
      exact ⟨_,rfl,v,false,by simp [kq,kb,t3],by simp [kq,kb,t4],hp,by simp [kq,kb,t1],by simp [kq,kb,t6];rfl⟩
    | true=>
    obtain ⟨x,hx⟩:∃ x,m[i]?=some x:=⟨m[i]'(by omega),List.getElem?_eq_getElem (by omega)⟩
    have hx':(m.map (·.1))[i]?=some x.1:=by simp [hx]
    have hd:=drop_at hx'
    rw [hd] at hN ⊢
    have hN':n+(x.1.var.length+4+2 * x.1.set.length+szR ((m.map (·.1)).drop (i+1)))≤N:=hN
    have rr:RowsV h lo tv m:=r0.keep fr λ q hq hp=>by have:lo≤q:=hp;omega
    obtain ⟨a,a1,a2⟩:=load_row rr.1 rfl hx
    obtain ⟨s1,s2,s3⟩:=rr.2.2 x (List.mem_of_getElem? hx)
    obtain ⟨⟨xv,xs⟩,x2⟩:=x
    have hN':n+(xv.length+4+2 * xs.length+szR ((m.map (·.1)).drop (i+1)))≤N:=hN'
    have hxl:xs.length≤1073741824:=by omega
    have s1:View h 1 x2 xs.length (ints xs):=s1
    have ez:=eqSV_view s1
    have lx:=s1.length
    have e9:IntKind.i64.wrap ((i:Int)+1)=((i+1:Nat):Int):=by rw [wrapI64 (by omega) (by omega)];omega
    have e6:intN (i:Int)=some i:=intN_nat i
    generalize hh1:h.push (.cells [.str [],.nilslice] .fixed)=h1
    have f1:=calm_push hh1
    have g1:=g.keep f1 λ _ _ k=>k
    have hle:=fr.next
    have st2:storeV 2 h1 (.ptr h.next 0) (.agg [.str xv,x2])=some (.tuple [],h1.put h.next (.cells [.str xv,x2] .fixed)):=storeV_all (get_pushed hh1) rfl rfl
    have o1:Out h1 v h.next:=⟨H.get_lt (get_pushed hh1),λ e=>by
      obtain ⟨_,⟨rfl,_⟩ | ⟨id,par,rfl,gg⟩⟩:=g.buf
      · exact e
      · have e:h.next=id:=e
        have:=H.get_lt gg
        omega⟩
    have B2:(h1.put h.next (.cells [.str xv,x2] .fixed)).get h.next=some (.cells [.str xv,x2] .fixed):=get_put_self (get_pushed hh1)
    have f2:Fr (·=h.next) (·=h.next) h1 (h1.put h.next (.cells [.str xv,x2] .fixed)):=Fr.put (H.get_lt (get_pushed hh1))
    have g2:=g1.keep f2 λ q hq e=>o1.2 (by have e:q=h.next:=e;subst e;exact hq)
    have o2:Out (h1.put h.next (.cells [.str xv,x2] .fixed)) v h.next:=o1.keep f2
    generalize h1.put h.next (.cells [.str xv,x2] .fixed)=h2 at *
    have F2:Fr (lo≤·) (λ _=>False) h0 h2:=by
      have q:Calms h h2:=Fr.new f1 f2 (λ q e=>by have e:q=h.next:=e;omega) (λ q e=>by have e:q=h.next:=e;omega)
      exact fr.trans (q.mono (λ _ _ k=>k.elim) λ _ k=>k.elim)
    have k1:=Tryz.two54 (xv.length:Int) h2
    have k1':=Tryz.two54 (xs.length:Int) h2
    obtain ⟨y,h3,k2,w3,f3,_⟩:=Tryz.text xv h2 (by omega)
    have B3:=(f3.keep _ o2.1 λ k=>k).trans B2
    obtain ⟨v4,h4,k3,g4,f4,o4⟩:=bb_add (g2.keep f3 λ _ _ k=>k) w3 (by omega) (by have:=F2.next;have:=f3.next;omega)
    obtain ⟨q4,o4⟩:=o4 _ (o2.keep f3)
    have B4:=q4.trans B3
    obtain ⟨y2,h5,k4,w5,f5⟩:=Tryz.num_row (xs.length:Int) h4
    have B5:=(f5.keep _ o4.1 λ k=>k).trans B4
    obtain ⟨v6,h6,k5,g6,f6,o6⟩:=bb_add (g4.keep f5 λ _ _ k=>k) w5 (by omega) (by have:=F2.next;have:=f3.next;have:=f4.next;have:=f5.next;omega)
    obtain ⟨q6,o6⟩:=o6 _ (o4.keep f5)
    have hb6:=q6.trans B5
    have F6:Fr (lo≤·) (λ _=>False) h0 h6:=(((F2.trans (f3.mono (λ _ _ k=>k.elim) λ _ k=>k.elim)).trans f4).trans (f5.mono (λ _ _ k=>k.elim) λ _ k=>k.elim)).trans f6
    have hB0:h0.get B=some (.cells cells .fixed):=by rw [← fr.keep B (by omega) (by show ¬lo≤B;omega)];exact hb
    have L2:=row_box B2
    have L4:=row_box B4
    have M2:∀ y n o,loadV none (mixTo h2 y n) (.ptr h.next o)=[SV.str xv,x2][o]?:=λ y n=>row_mix B2
    have M3:∀ y n o,loadV none (mixTo h3 y n) (.ptr h.next o)=[SV.str xv,x2][o]?:=λ y n=>row_mix B3
    obtain ⟨OKA,HA⟩:∃ o,two16 (xv.length:Int)=o:=⟨_,rfl⟩
    obtain ⟨OKC,HC⟩:∃ o,two16 (xs.length:Int)=o:=⟨_,rfl⟩
    rw [HA] at k1
    rw [HC] at k1'
    cases OKA with
    | true=>
      unfold Tryz.l18_2
      simp [↓ kq,kq,↓ ku,ku,↓ ko,ko,↓ kt,↓ kz,kb,kv,kt,kx,t3,t4,t1,t6,L0,hcells,ln,e1,a1,a2,e6,hh1,st2,L2,L4,M2,M3,lx,ez,k1,k1',k2,k3,k4,k5,gets_some,-bO_of,-bB_true,-bB_false,-H.next_push,-Int.natCast_add]
      refine gets_next (gets_next (gets_leave (gets_leave (Gets.mono (Tryz.rnums_loop (h0:=h0) (xv:=xv) (x2:=x2) (l:=xs) (r0.2.2 _ (List.mem_of_getElem? hx)).1 (r0.2.2 _ (List.mem_of_getElem? hx)).2.1 hlo hxl xs.length 0 (k+1) (n+(2+xv.length)+2) (n+(xv.length+4+2 * xs.length)) _ v6 OKC _ h6 (by omega) (by omega) g6 (by rw [List.drop_zero];omega) (by omega) F6 hb6 o6 ?_ ?_ ?_ ?_ (.ptr B 0) (.int .i64 i) ?_ ?_) ?_))))
      rotate_right
      · rintro fl t' h' ⟨b1,v2,ok2,b2,b3,⟨b4,⟨n',cs',b5,b6,b7⟩,b8⟩,b9,b10⟩
        subst b1
        rw [List.drop_zero] at b4 b7
        simp only [if_true]
        have hB':=b8.get hB0 (by show ¬lo≤B;omega)
        simp [↓ kq,kq,↓ ku,ku,↓ ko,ko,↓ kt,↓ kz,kb,kv,kt,kx,b2,b3,b9,b10,e9,gets_some,-bO_of,-bB_true,-bB_false,-H.next_push,-Int.natCast_add]
        rw [← hL]
        refine Gets.mono (ih (i+1) k n' N cs' v2 ok2 _ h' (by omega) (by omega) b5 (by omega) hN2 b8 hB' ?_ ?_ ?_ ?_) ?_
        rotate_right
        · rintro fl t'' h'' ⟨z,c1,v3,ok3,c2,c3,⟨c4,⟨n3,cs3,c5,c6,c7⟩,c8⟩,c9,c10⟩
          refine ⟨z,c1,v3,ok3,c2,c3,⟨?_,⟨n3,cs3,c5,c6,λ ho=>?_⟩,c8⟩,c9,c10⟩
          · rw [c4,b4]
            show _=(true&&(okRow ⟨xv,xs⟩&&okRs ((m.map (·.1)).drop (i+1))))
            unfold okRow
            rw [HA,HC]
            cases OKC <;> cases okNs xs <;> simp
          · have ho2:ok2=true:=by
              rw [c4] at ho
              simp at ho
              exact ho.1
            rw [c7 ho,b7 ho2]
            show _=cs++((bText xv++(be 2 xs.length++bNs xs))++bRs ((m.map (·.1)).drop (i+1)))
            simp [bText,List.append_assoc]
        all_goals simp [kq,kb,b2,b3,b9,b10]
      all_goals simp [kq,kb,t3,t4,t1,t6]
    | false=>
      unfold Tryz.l18_2
      simp [↓ kq,kq,↓ ku,ku,↓ ko,ko,↓ kt,↓ kz,kb,kv,kt,kx,t3,t4,t1,t6,L0,hcells,ln,e1,a1,a2,e6,hh1,st2,L2,L4,M2,M3,lx,ez,k1,k1',k2,k3,k4,k5,gets_some,-bO_of,-bB_true,-bB_false,-H.next_push,-Int.natCast_add]
      refine gets_next (gets_next (gets_leave (gets_leave (Gets.mono (Tryz.rnums_loop (h0:=h0) (xv:=xv) (x2:=x2) (l:=xs) (r0.2.2 _ (List.mem_of_getElem? hx)).1 (r0.2.2 _ (List.mem_of_getElem? hx)).2.1 hlo hxl xs.length 0 (k+1) (n+(2+xv.length)+2) (n+(xv.length+4+2 * xs.length)) _ v6 false _ h6 (by omega) (by omega) g6 (by rw [List.drop_zero];omega) (by omega) F6 hb6 o6 ?_ ?_ ?_ ?_ (.ptr B 0) (.int .i64 i) ?_ ?_) ?_))))
      rotate_right
      · rintro fl t' h' ⟨b1,v2,ok2,b2,b3,⟨b4,⟨n',cs',b5,b6,b7⟩,b8⟩,b9,b10⟩
        subst b1
        rw [List.drop_zero] at b4 b7
        simp only [if_true]
        have hB':=b8.get hB0 (by show ¬lo≤B;omega)
        simp [↓ kq,kq,↓ ku,ku,↓ ko,ko,↓ kt,↓ kz,kb,kv,kt,kx,b2,b3,b9,b10,e9,gets_some,-bO_of,-bB_true,-bB_false,-H.next_push,-Int.natCast_add]
        rw [← hL]
        refine Gets.mono (ih (i+1) k n' N cs' v2 ok2 _ h' (by omega) (by omega) b5 (by omega) hN2 b8 hB' ?_ ?_ ?_ ?_) ?_
        rotate_right
        · rintro fl t'' h'' ⟨z,c1,v3,ok3,c2,c3,⟨c4,⟨n3,cs3,c5,c6,c7⟩,c8⟩,c9,c10⟩
          refine ⟨z,c1,v3,ok3,c2,c3,⟨?_,⟨n3,cs3,c5,c6,λ ho=>?_⟩,c8⟩,c9,c10⟩
          · rw [c4,b4]
            show _=(true&&(okRow ⟨xv,xs⟩&&okRs ((m.map (·.1)).drop (i+1))))
            unfold okRow
            rw [HA]
            simp
          · have ho2:ok2=true:=by
              rw [c4] at ho
              simp at ho
              exact ho.1
            rw [c7 ho,b7 ho2]
            show _=cs++((bText xv++(be 2 xs.length++bNs xs))++bRs ((m.map (·.1)).drop (i+1)))
            simp [bText,List.append_assoc]
        all_goals simp [kq,kb,b2,b3,b9,b10]
      all_goals simp [kq,kb,t3,t4,t1,t6]
end
end Go.Proofs
end
section
/- LadderForms: the document's edges. -/
namespace Go.Proofs
open Go.Sh
set_option maxRecDepth 100000
attribute [local instance] powHeld
noncomputable section
def RePost (e:Flow) (h0:H) (lo:Nat) (cs:List SV) (n:Nat) (ok oks:Bool) (bs:List SV) (N:Nat) (z1:SV) (fl:Flow) (t':T) (h':H):Prop:=
  fl=e∧∃ v' ok',getP (way 3) t'=some v'∧getP (way 4) t'=some (.bool ok')∧RefP h0 lo cs n ok oks bs N v' ok' h'∧getP (way 1) t'=some z1
set_option maxHeartbeats 8000000 in
theorem Tryz.redges_loop {h0:H} {lo B:Nat} {ev:SV} {cells:List SV} {l:List Edg} (w0:View h0 3 ev l.length (edgs l)) (hev:∀ q,isRow ev q→q < lo) (hlo:lo≤h0.next) (hB:B < lo) (hcells:cells[3]?=some ev) (hl:l.length≤1073741824):∀ (j i k n N:Nat) (cs:List SV) (v:SV) (ok:Bool) (t:T) (h:H),i+j=l.length→j < k→BB h lo v n cs→n+szE (l.drop i)≤N→N≤1073741824→Fr (lo≤·) (λ _=>False) h0 h →
    h.get B=some (.cells cells .fixed)→getP (way 3) t=some v→getP (way 4) t=some (.bool ok)→getP (way 1) t=some (.ptr B 0)→getP (way 9) t=some (.int .i64 i) →
    Gets (cLoop Tryz.l18_0 k Tryz.l2 t h) (RePost (.exit 4) h0 lo cs n ok (okEs (l.drop i)) (bEs (l.drop i)) N (.ptr B 0)):=by
  intro j
  induction j with
  | zero=>
    intro i k n N cs v ok t h hi hk g hN hN2 fr hb t3 t4 t1 t9
    obtain ⟨k,rfl⟩:∃ m,k=m+1:=⟨k - 1,by omega⟩
    rw [loop_succ]
    generalize (λ t h=>cLoop Tryz.l18_0 k Tryz.l2 t h)=L
    unfold Tryz.l18_0
    have e1:ltI (i:Int) (l.length:Int)=false:=ltIf (by omega)
    have ln:=w0.length
    have L0:=row_box hb
    have hp:RefP h0 lo cs n ok (okEs (l.drop i)) (bEs (l.drop i)) N v ok h:=by
      rw [List.drop_eq_nil_of_le (by omega)]
      exact ⟨by simp [okEs],⟨n,cs,g,by omega,λ _=>by simp [bEs]⟩,fr⟩
    simp [↓ kq,kq,↓ ku,ku,↓ ko,ko,↓ kt,↓ kz,kb,kv,kt,kx,t3,t4,t1,t9,L0,hcells,ln,e1,gets_some,-bO_of,-bB_true,-bB_false,-H.next_push,-Int.natCast_add]
    exact ⟨rfl,v,ok,by simp [kq,kb,t3],by simp [kq,kb,t4],hp,by simp [kq,kb,t1]⟩
  | succ j ih=>
    intro i k n N cs v ok t h hi hk g hN hN2 fr hb t3 t4 t1 t9
    obtain ⟨k,rfl⟩:∃ m,k=m+1:=⟨k - 1,by omega⟩
    rw [loop_succ]
    generalize hL:(λ t h=>cLoop Tryz.l18_0 k Tryz.l2 t h)=L
    have e1:ltI (i:Int) (l.length:Int)=true:=ltIt (by omega)
    have ln:=w0.length
    have L0:=row_box hb
    cases ok with
    | false=>
      have hp:RefP h0 lo cs n false (okEs (l.drop i)) (bEs (l.drop i)) N v false h:=⟨rfl,⟨n,cs,g,by omega,λ e=>by cases e⟩,fr⟩
      unfold Tryz.l18_0
      simp [↓ kq,kq,↓ ku,ku,↓ ko,ko,↓ kt,↓ kz,kb,kv,kt,kx,t3,t4,t1,t9,L0,hcells,ln,e1,gets_some,-bO_of,-bB_true,-bB_false,-H.next_push,-Int.natCast_add]
      exact ⟨rfl,v,false,by simp [kq,kb,t3],by simp [kq,kb,t4],hp,by simp [kq,kb,t1]⟩
    | true=>
    obtain ⟨x,hx⟩:∃ x,l[i]?=some x:=⟨l[i]'(by omega),List.getElem?_eq_getElem (by omega)⟩
    have hd:=drop_at hx
    rw [hd] at hN ⊢
    have hN':n+(x.src.length+x.dst.length+6+szE (l.drop (i+1)))≤N:=hN
    have rr:View h 3 ev l.length (edgs l):=w0.keep fr λ q hq hp=>by have:=hev q hq;have:lo≤q:=hp;omega
    obtain ⟨a,a1,a2⟩:=load_edge rr rfl hx
    obtain ⟨xs,xp,xd⟩:=x
    have hN':n+(xs.length+xd.length+6+szE (l.drop (i+1)))≤N:=hN'
    have e9:IntKind.i64.wrap ((i:Int)+1)=((i+1:Nat):Int):=by rw [wrapI64 (by omega) (by omega)];omega
    have e6:intN (i:Int)=some i:=intN_nat i
    generalize hh1:h.push (.cells [.str [],.int .i64 0,.str []] .fixed)=h1
    have f1:=calm_push hh1
    have g1:=g.keep f1 λ _ _ k=>k
    have hle:=fr.next
    have st2:storeV 3 h1 (.ptr h.next 0) (.agg [.str xs,.int .i64 xp,.str xd])=some (.tuple [],h1.put h.next (.cells [.str xs,.int .i64 xp,.str xd] .fixed)):=storeV_all (get_pushed hh1) rfl rfl
    have o1:Out h1 v h.next:=⟨H.get_lt (get_pushed hh1),λ e=>by
      obtain ⟨_,⟨rfl,_⟩ | ⟨id,par,rfl,gg⟩⟩:=g.buf
      · exact e
      · have e:h.next=id:=e
        have:=H.get_lt gg
        omega⟩
    have B2:(h1.put h.next (.cells [.str xs,.int .i64 xp,.str xd] .fixed)).get h.next=some (.cells [.str xs,.int .i64 xp,.str xd] .fixed):=get_put_self (get_pushed hh1)
    have f2:Fr (·=h.next) (·=h.next) h1 (h1.put h.next (.cells [.str xs,.int .i64 xp,.str xd] .fixed)):=Fr.put (H.get_lt (get_pushed hh1))
    have g2:=g1.keep f2 λ q hq e=>o1.2 (by have e:q=h.next:=e;subst e;exact hq)
    have o2:Out (h1.put h.next (.cells [.str xs,.int .i64 xp,.str xd] .fixed)) v h.next:=o1.keep f2
    generalize h1.put h.next (.cells [.str xs,.int .i64 xp,.str xd] .fixed)=h2 at *
    have F2:Fr (lo≤·) (λ _=>False) h0 h2:=by
      have q:Calms h h2:=Fr.new f1 f2 (λ q e=>by have e:q=h.next:=e;omega) (λ q e=>by have e:q=h.next:=e;omega)
      exact fr.trans (q.mono (λ _ _ k=>k.elim) λ _ k=>k.elim)
    have up:∀ {a b:H},Calms a b→Fr (lo≤·) (λ _=>False) a b:=λ q=>q.mono (λ _ _ k=>k.elim) λ _ k=>k.elim
    have k1:=Tryz.two54 (xs.length:Int) h2
    have k1':=Tryz.two54 xp h2
    have k1x:=Tryz.two54 (xd.length:Int) h2
    obtain ⟨y,h3,k2,w3,f3,_⟩:=Tryz.text xs h2 (by omega)
    have B3:=(f3.keep _ o2.1 λ k=>k).trans B2
    obtain ⟨v4,h4,k3,g4,f4,o4⟩:=bb_add (g2.keep f3 λ _ _ k=>k) w3 (by omega) (by have:=F2.next;have:=f3.next;omega)
    obtain ⟨q4,o4⟩:=o4 _ (o2.keep f3)
    have B4:=q4.trans B3
    obtain ⟨y2,h5,k4,w5,f5⟩:=Tryz.num_row xp h4
    have B5:=(f5.keep _ o4.1 λ k=>k).trans B4
    obtain ⟨v6,h6,k5,g6,f6,o6⟩:=bb_add (g4.keep f5 λ _ _ k=>k) w5 (by omega) (by have:=F2.next;have:=f3.next;have:=f4.next;have:=f5.next;omega)
    obtain ⟨q6,o6⟩:=o6 _ (o4.keep f5)
    have B6:=q6.trans B5
    obtain ⟨y3,h7,k6,w7,f7,_⟩:=Tryz.text xd h6 (by omega)
    have F7:Fr (lo≤·) (λ _=>False) h0 h7:=((((F2.trans (up f3)).trans f4).trans (up f5)).trans f6).trans (up f7)
    obtain ⟨v8,h8,k7,g8,f8,_⟩:=bb_add (g6.keep f7 λ _ _ k=>k) w7 (by omega) (by have:=F7.next;omega)
    have F8:Fr (lo≤·) (λ _=>False) h0 h8:=F7.trans f8
    have hB0:h0.get B=some (.cells cells .fixed):=by rw [← fr.keep B (by omega) (by show ¬lo≤B;omega)];exact hb
    have hB8:=F8.get hB0 (by show ¬lo≤B;omega)
    have L2:=row_box B2
    have L4:=row_box B4
    have L6:=row_box B6
    have M2:∀ y n o,loadV none (mixTo h2 y n) (.ptr h.next o)=[SV.str xs,.int .i64 xp,.str xd][o]?:=λ y n=>row_mix B2
    have M3:∀ y n o,loadV none (mixTo h3 y n) (.ptr h.next o)=[SV.str xs,.int .i64 xp,.str xd][o]?:=λ y n=>row_mix B3
    have M4:∀ y n o,loadV none (mixTo h4 y n) (.ptr h.next o)=[SV.str xs,.int .i64 xp,.str xd][o]?:=λ y n=>row_mix B4
    have M5:∀ y n o,loadV none (mixTo h5 y n) (.ptr h.next o)=[SV.str xs,.int .i64 xp,.str xd][o]?:=λ y n=>row_mix B5
    have z1:=λ s=>show eqSV (.str s) (.str s)=true from eqS1_str s
    have z2:=λ n=>show eqSV (.int .i64 n) (.int .i64 n)=true from eqS1_int .i64 n
    obtain ⟨OKA,HA⟩:∃ o,two16 (xs.length:Int)=o:=⟨_,rfl⟩
    obtain ⟨OKC,HC⟩:∃ o,two16 xp=o:=⟨_,rfl⟩
    obtain ⟨OKD,HD⟩:∃ o,two16 (xd.length:Int)=o:=⟨_,rfl⟩
    rw [HA] at k1
    rw [HC] at k1'
    rw [HD] at k1x
    cases OKA with
    | false=>
      unfold Tryz.l18_0
      simp [↓ kq,kq,↓ ku,ku,↓ ko,ko,↓ kt,↓ kz,kb,kv,kt,kx,t3,t4,t1,t9,L0,hcells,ln,e1,a1,a2,e6,e9,hh1,st2,L2,L4,L6,M2,M3,M4,M5,z1,z2,k1,k1',k1x,k2,k3,k4,k5,k6,k7,gets_some,-bO_of,-bB_true,-bB_false,-H.next_push,-Int.natCast_add]
      rw [← hL]
      refine Gets.mono (ih (i+1) k (n+(2+xs.length)+2+(2+xd.length)) N _ v8 false _ h8 (by omega) (by omega) g8 (by omega) hN2 F8 hB8 ?_ ?_ ?_ ?_) ?_
      rotate_right
      · rintro fl t'' h'' ⟨c1,v3,ok3,c2,c3,⟨c4,⟨n3,cs3,c5,c6,c7⟩,c8⟩,c9⟩
        refine ⟨c1,v3,ok3,c2,c3,⟨?_,⟨n3,cs3,c5,c6,λ ho=>?_⟩,c8⟩,c9⟩
        · rw [c4]
          show _=(true&&(okE ⟨xs,xp,xd⟩&&okEs (l.drop (i+1))))
          unfold okE
          rw [HA]
          simp
        · rw [c7 ho]
          show _=cs++((bText xs++(be 2 xp++bText xd))++bEs (l.drop (i+1)))
          simp [bText,List.append_assoc]
      all_goals simp [kq,kb,t1]
    | true=>
    cases OKC with
    | false=>
      unfold Tryz.l18_0
      simp [↓ kq,kq,↓ ku,ku,↓ ko,ko,↓ kt,↓ kz,kb,kv,kt,kx,t3,t4,t1,t9,L0,hcells,ln,e1,a1,a2,e6,e9,hh1,st2,L2,L4,L6,M2,M3,M4,M5,z1,z2,k1,k1',k1x,k2,k3,k4,k5,k6,k7,gets_some,-bO_of,-bB_true,-bB_false,-H.next_push,-Int.natCast_add]
      rw [← hL]
      refine Gets.mono (ih (i+1) k (n+(2+xs.length)+2+(2+xd.length)) N _ v8 false _ h8 (by omega) (by omega) g8 (by omega) hN2 F8 hB8 ?_ ?_ ?_ ?_) ?_
      rotate_right
      · rintro fl t'' h'' ⟨c1,v3,ok3,c2,c3,⟨c4,⟨n3,cs3,c5,c6,c7⟩,c8⟩,c9⟩
        refine ⟨c1,v3,ok3,c2,c3,⟨?_,⟨n3,cs3,c5,c6,λ ho=>?_⟩,c8⟩,c9⟩
        · rw [c4]
          show _=(true&&(okE ⟨xs,xp,xd⟩&&okEs (l.drop (i+1))))
          unfold okE
          rw [HA,HC]
          simp
        · rw [c7 ho]
          show _=cs++((bText xs++(be 2 xp++bText xd))++bEs (l.drop (i+1)))
          simp [bText,List.append_assoc]
      all_goals simp [kq,kb,t1]
    | true=>
      unfold Tryz.l18_0
      simp [↓ kq,kq,↓ ku,ku,↓ ko,ko,↓ kt,↓ kz,kb,kv,kt,kx,t3,t4,t1,t9,L0,hcells,ln,e1,a1,a2,e6,e9,hh1,st2,L2,L4,L6,M2,M3,M4,M5,z1,z2,k1,k1',k1x,k2,k3,k4,k5,k6,k7,gets_some,-bO_of,-bB_true,-bB_false,-H.next_push,-Int.natCast_add]
      rw [← hL]
      refine Gets.mono (ih (i+1) k (n+(2+xs.length)+2+(2+xd.length)) N _ v8 OKD _ h8 (by omega) (by omega) g8 (by omega) hN2 F8 hB8 ?_ ?_ ?_ ?_) ?_
      rotate_right
      · rintro fl t'' h'' ⟨c1,v3,ok3,c2,c3,⟨c4,⟨n3,cs3,c5,c6,c7⟩,c8⟩,c9⟩
        refine ⟨c1,v3,ok3,c2,c3,⟨?_,⟨n3,cs3,c5,c6,λ ho=>?_⟩,c8⟩,c9⟩
        · rw [c4]
          show _=(true&&(okE ⟨xs,xp,xd⟩&&okEs (l.drop (i+1))))
          unfold okE
          rw [HA,HC,HD]
          cases OKD <;> simp
        · rw [c7 ho]
          show _=cs++((bText xs++(be 2 xp++bText xd))++bEs (l.drop (i+1)))
          simp [bText,List.append_assoc]
      all_goals simp [kq,kb,t1]
end
end Go.Proofs
end
section
/- LadderForms: the document's Encode. -/
namespace Go.Proofs
open Go.Sh
set_option maxRecDepth 100000
attribute [local instance] powHeld
noncomputable section
def Tryz.r18:Cd:=(cSeq (cSeq (cOps (oSet 6 (sV ((xC (.int .i64 0)))) λ v6=>oEnd))
 (cBlock 0 (cLoop Tryz.l18_2))) (cSeq (cOps (oLet (sV ((xW 3))) λ v109=>oLet (sV (vAddr 3 (xW 1))) λ v110=>oLet (sL (lLoad none (xC v110))) λ v111=>oLet (sV (vLen (xC v111))) λ v112=>oLet (sC 56 [(xC v112),(xC (.int .i64 2))]) λ v113=>oLet (sM (tAppend 1 1 (xC v109) (xC v113))) λ v114=>oSet 3 (sV ((xC v114))) λ v3=>oEnd)) (cSeq (cSeq (cOps (oSet 9 (sV ((xC (.int .i64 0)))) λ v9=>oEnd))
 (cBlock 4 (cLoop Tryz.l18_0))) (cSeq (cOps (oLet (sV ((xW 3))) λ v159=>oLet (sV (vAddr 4 (xW 1))) λ v160=>oLet (sL (lLoad none (xC v160))) λ v161=>oLet (sC 55 [(xC v159),(xC v161)]) λ v162=>oLet (sV (vExtract 0 (xC v162))) λ v163=>oLet (sV (vExtract 1 (xC v162))) λ v164=>oSet 3 (sV ((xC v163))) λ v3=>oSet 5 (sV ((xC v164))) λ v5=>oEnd)) (cSeq (cOps (oLet (sV ((xW 4))) λ v165=>oLet (sG (xC v165) true (sV ((xW 5)))) λ v167=>oLet (sV (vPick (xC v165) (xC v167) (xC (.bool false)))) λ v168=>oSet 4 (sV ((xC v168))) λ v4=>oEnd)) (cSeq (cOps (oLet (sV ((xW 3))) λ v170=>oLet (sV (vAddr 5 (xW 1))) λ v171=>oLet (sL (lLoad none (xC v171))) λ v172=>oLet (sC 55 [(xC v170),(xC v172)]) λ v173=>oLet (sV (vExtract 0 (xC v173))) λ v174=>oLet (sV (vExtract 1 (xC v173))) λ v175=>oSet 3 (sV ((xC v174))) λ v3=>oSet 5 (sV ((xC v175))) λ v5=>oEnd)) (cSeq (cSeq (cOps (oLet (sV ((xW 4))) λ v176=>oLet (sV (vUn .not (xC v176))) λ v177=>oLet (sG (xC v177) false (sV ((xW 5)))) λ v179=>oLet (sG (xC v177) false (sV (vUn .not (xC v179)))) λ v180=>oSet 181 (sV (vPick (xC v177) (xC (.bool true)) (xC v180))) λ v181=>oEnd))
 (cCond (xW 181) (cSeq (cOps (oSet 2 (sV ((xC (.nilslice)))) λ v2=>oEnd))
 cRet)
 cSkip)) (cSeq (cOps (oLet (sV ((xW 3))) λ v182=>oSet 2 (sV ((xC v182))) λ v2=>oEnd)) cRet))))))))
theorem Tryz.k18_eq2:Tryz.k18=⟨[(way 0)],(cSeq (cOps (oSet 1 (sN (aBox (xW 0))) λ v1=>oSet 2 (sV ((xC (.nilslice)))) λ v2=>oEnd)) (cSeq (cOps (oLet (sN (aRow 4 1 [1,1,1,1] [(xC (.int .u8 82)),(xC (.int .u8 80)),(xC (.int .u8 84)),(xC (.int .u8 49))])) λ v11=>oLet (sM (tFroze (xC v11))) λ v12=>oLet (sV (vAddr 0 (xW 1))) λ v13=>oLet (sL (lLoad none (xC v13))) λ v14=>oLet (sC 53 [(xC v14)]) λ v15=>oLet (sM (tAppend 1 1 (xC v12) (xC v15))) λ v16=>oSet 3 (sV ((xC v16))) λ v3=>oEnd)) (cSeq (cOps (oLet (sV (vAddr 0 (xW 1))) λ v17=>oLet (sL (lLoad none (xC v17))) λ v18=>oLet (sV (vLenS (xC v18))) λ v19=>oLet (sC 54 [(xC v19)]) λ v20=>oLet (sG (xC v20) true (sV (vAddr 2 (xW 1)))) λ v22=>oLet (sG (xC v20) true (sL (lLoad none (xC v22)))) λ v23=>oLet (sG (xC v20) true (sV (vLen (xC v23)))) λ v24=>oLet (sG (xC v20) true (sC 54 [(xC v24)])) λ v25=>oLet (sV (vPick (xC v20) (xC v25) (xC (.bool false)))) λ v26=>oLet (sG (xC v26) true (sV (vAddr 3 (xW 1)))) λ v28=>oLet (sG (xC v26) true (sL (lLoad none (xC v28)))) λ v29=>oLet (sG (xC v26) true (sV (vLen (xC v29)))) λ v30=>oLet (sG (xC v26) true (sC 54 [(xC v30)])) λ v31=>oLet (sV (vPick (xC v26) (xC v31) (xC (.bool false)))) λ v32=>oSet 4 (sV ((xC v32))) λ v4=>oEnd)) (cSeq (cOps (oLet (sV ((xW 3))) λ v34=>oLet (sV (vAddr 1 (xW 1))) λ v35=>oLet (sL (lLoad none (xC v35))) λ v36=>oLet (sC 55 [(xC v34),(xC v36)]) λ v37=>oLet (sV (vExtract 0 (xC v37))) λ v38=>oLet (sV (vExtract 1 (xC v37))) λ v39=>oSet 3 (sV ((xC v38))) λ v3=>oSet 5 (sV ((xC v39))) λ v5=>oEnd)) (cSeq (cOps (oLet (sV ((xW 4))) λ v40=>oLet (sG (xC v40) true (sV ((xW 5)))) λ v42=>oLet (sV (vPick (xC v40) (xC v42) (xC (.bool false)))) λ v43=>oSet 4 (sV ((xC v43))) λ v4=>oEnd)) (cSeq (cOps (oLet (sV ((xW 3))) λ v44=>oLet (sV (vAddr 2 (xW 1))) λ v45=>oLet (sL (lLoad none (xC v45))) λ v46=>oLet (sV (vLen (xC v46))) λ v47=>oLet (sC 56 [(xC v47),(xC (.int .i64 2))]) λ v48=>oLet (sM (tAppend 1 1 (xC v44) (xC v48))) λ v49=>oSet 3 (sV ((xC v49))) λ v3=>oEnd)) Tryz.r18)))))),[.tmp (way 2)]⟩:=rfl
def encInits (b:Bool) (x:List SV):List SV:=if b then x else []
def EncP (h0:H) (lo:Nat) (bs:List SV) (v:SV) (h':H):Prop:=View h' 1 v bs.length bs∧(∀ q,isRow v q→lo≤q)∧Fr (lo≤·) (λ _=>False) h0 h'
set_option maxHeartbeats 8000000 in
theorem Tryz.rest18 {h0:H} {lo B n N:Nat} {r:RD} {m:List (Row × SV)} {cells cs:List SV} {sv tv ev rv iv v:SV} {ok:Bool} {t:T} {h:H} (hcells:[SV.str r.entry,sv,tv,ev,rv,iv]=cells) (hlo:lo≤h0.next) (hB:B < lo) (b1:RowsV h0 lo tv m) (hrows:m.map (·.1)=r.sets)
    (c1:View h0 3 ev r.edges.length (edgs r.edges)) (c2:∀ q,isRow ev q→q < lo) (d1:View h0 1 rv r.reach.length (strs r.reach)) (d2:∀ q,isRow rv q→q < lo) (i1:View h0 1 iv r.inits.length (strs r.inits)) (i2:∀ q,isRow iv q→q < lo)
    (g:BB h lo v n cs) (hN:n+szR r.sets+2+szE r.edges+2+szT r.reach+2+szT r.inits≤N) (hN2:N≤536870912) (fr:Fr (lo≤·) (λ _=>False) h0 h) (hb:h.get B=some (.cells cells .fixed))
    (t3:getP (way 3) t=some v) (t4:getP (way 4) t=some (.bool ok)) (t1:getP (way 1) t=some (.ptr B 0)) :
    Gets (Tryz.r18 2147483656 Tryz.l2 t h) λ fl t h'=>(fl=.normal∨fl=.ret)∧∃ vs,kresL t h' [.tmp (way 2)]=some vs∧EncP h0 lo (encInits (ok&&(okRs r.sets&&(okEs r.edges&&(okTexts r.reach&&okTexts r.inits)))) (cs++(bRs r.sets++(be 2 r.edges.length++(bEs r.edges++(bTexts r.reach++bTexts r.inits)))))) (oneS vs) h':=by
  have y2:cells[2]?=some tv:=by rw [← hcells];rfl
  have y3:cells[3]?=some ev:=by rw [← hcells];rfl
  have y4:cells[4]?=some rv:=by rw [← hcells];rfl
  have y5:cells[5]?=some iv:=by rw [← hcells];rfl
  have Z2:=szR_len r.sets
  have Z3:=szE_len r.edges
  have hml:m.length=r.sets.length:=by rw [← hrows,List.length_map]
  have hB0:h0.get B=some (.cells cells .fixed):=by rw [← fr.keep B (by omega) (by show ¬lo≤B;omega)];exact hb
  have up:∀ {a b:H},Calms a b→Fr (lo≤·) (λ _=>False) a b:=λ q=>q.mono (λ _ _ k=>k.elim) λ _ k=>k.elim
  have el:=c1.length
  unfold Tryz.r18
  simp [↓ kq,kq,↓ ku,ku,↓ ko,ko,↓ kt,↓ kz,kb,kv,kt,kx,t3,t4,t1,gets_some,-bO_of,-bB_true,-bB_false,-H.next_push,-Int.natCast_add]
  refine gets_next (gets_leave (Gets.mono (Tryz.rrows_loop (h0:=h0) b1 hlo hB y2 (by omega) m.length 0 _ n (n+szR r.sets) cs v ok _ h (by omega) (by omega) g (by rw [List.drop_zero,hrows];omega) (by omega) fr hb ?_ ?_ ?_ ?_) ?_))
  rotate_right
  · rintro fl ta ha ⟨z6,x1,va,oka,a3,a4,⟨ao,⟨na,ca,ga,an,ac⟩,fa⟩,a1,a6⟩
    subst x1
    rw [List.drop_zero,hrows] at ao ac
    simp only [if_true]
    have La:=row_box (fa.get hB0 (by show ¬lo≤B;omega))
    obtain ⟨y,hb1,k2,w2,f2⟩:=Tryz.num_row (r.edges.length:Int) ha
    obtain ⟨vc,hc,k3,g3,f3,_⟩:=bb_add (ga.keep f2 λ _ _ k=>k) w2 (by omega) (by have:=fa.next;have:=f2.next;omega)
    have Fc:Fr (lo≤·) (λ _=>False) h0 hc:=(fa.trans (up f2)).trans f3
    simp [↓ kq,kq,↓ ku,ku,↓ ko,ko,↓ kt,↓ kz,kb,kv,kt,kx,a3,a4,a1,La,y3,el,k2,k3,gets_some,-bO_of,-bB_true,-bB_false,-H.next_push,-Int.natCast_add]
    refine gets_next (gets_leave (Gets.mono (Tryz.redges_loop (h0:=h0) c1 c2 hlo hB y3 (by omega) r.edges.length 0 _ (na+2) (na+2+szE r.edges) _ vc oka _ hc (by omega) (by omega) g3 (by rw [List.drop_zero];omega) (by omega) Fc (Fc.get hB0 (by show ¬lo≤B;omega)) ?_ ?_ ?_ ?_) ?_))
    rotate_right
    · rintro fl td hd ⟨x1,vd,okd,d3,d4,⟨dok,⟨nd,cd,gd,dn,dc⟩,fd⟩,d1'⟩
      subst x1
      rw [List.drop_zero] at dok dc
      simp only [if_true]
      have Ld:=row_box (fd.get hB0 (by show ¬lo≤B;omega))
      obtain ⟨x,he,k4,⟨ve,rfl,ne,ce,ge,en,ec⟩,fe⟩:=Tryz.rtexts55 gd (Nat.le_trans hlo fd.next) (d1.keep fd λ q hq hp=>by have:=d2 q hq;have:lo≤q:=hp;omega) d2 (by omega)
      have Fe:=fd.trans fe
      have Le:=row_box (Fe.get hB0 (by show ¬lo≤B;omega))
      obtain ⟨x,hf,k5,⟨vf,rfl,nf,cf,gf,fn,fc⟩,ff⟩:=Tryz.rtexts55 ge (Nat.le_trans hlo Fe.next) (i1.keep Fe λ q hq hp=>by have:=i2 q hq;have:lo≤q:=hp;omega) i2 (by omega)
      have Ff:=Fe.trans ff
      obtain ⟨ok2,hok2⟩:∃ o,okTexts r.reach=o:=⟨_,rfl⟩
      obtain ⟨ok3,hok3⟩:∃ o,okTexts r.inits=o:=⟨_,rfl⟩
      rw [hok2] at k4 ec
      rw [hok3] at k5 fc
      have dok2:okd=(ok&&okRs r.sets&&okEs r.edges):=by rw [dok,ao]
      cases okd with
      | false=>
        simp [↓ kq,kq,↓ ku,ku,↓ ko,ko,↓ kt,↓ kz,kb,kv,kt,kx,d3,d4,d1',Ld,Le,y4,y5,k4,k5,gets_some,kc,oneS,-bO_of,-bB_true,-bB_false,-H.next_push,-Int.natCast_add]
        have e:(ok&&(okRs r.sets&&(okEs r.edges&&(okTexts r.reach&&okTexts r.inits))))=false:=by
          cases ok <;> cases h1:okRs r.sets <;> cases h2:okEs r.edges <;> simp [h1,h2] at dok2 ⊢
        rw [e]
        exact ⟨⟨rfl,.inl ⟨rfl,rfl⟩⟩,λ q hq=>hq.elim,Ff⟩
      | true=>
        cases ok2 with
        | false=>
          simp [↓ kq,kq,↓ ku,ku,↓ ko,ko,↓ kt,↓ kz,kb,kv,kt,kx,d3,d4,d1',Ld,Le,y4,y5,k4,k5,gets_some,kc,oneS,-bO_of,-bB_true,-bB_false,-H.next_push,-Int.natCast_add]
          have e:(ok&&(okRs r.sets&&(okEs r.edges&&(okTexts r.reach&&okTexts r.inits))))=false:=by rw [hok2];simp
          rw [e]
          exact ⟨⟨rfl,.inl ⟨rfl,rfl⟩⟩,λ q hq=>hq.elim,Ff⟩
        | true=>
          cases ok3 with
          | false=>
            simp [↓ kq,kq,↓ ku,ku,↓ ko,ko,↓ kt,↓ kz,kb,kv,kt,kx,d3,d4,d1',Ld,Le,y4,y5,k4,k5,gets_some,kc,oneS,-bO_of,-bB_true,-bB_false,-H.next_push,-Int.natCast_add]
            have e:(ok&&(okRs r.sets&&(okEs r.edges&&(okTexts r.reach&&okTexts r.inits))))=false:=by rw [hok3];simp
            rw [e]
            exact ⟨⟨rfl,.inl ⟨rfl,rfl⟩⟩,λ q hq=>hq.elim,Ff⟩
          | true=>
            simp [↓ kq,kq,↓ ku,ku,↓ ko,ko,↓ kt,↓ kz,kb,kv,kt,kx,d3,d4,d1',Ld,Le,y4,y5,k4,k5,gets_some,kc,oneS,-bO_of,-bB_true,-bB_false,-H.next_push,-Int.natCast_add]
            have hall:ok=true∧okRs r.sets=true∧okEs r.edges=true:=by
              cases ok <;> cases h1:okRs r.sets <;> cases h2:okEs r.edges <;> simp [h1,h2] at dok2 ⊢
            obtain ⟨o1,o2,o3⟩:=hall
            have oa:oka=true:=by rw [ao,o1,o2];rfl
            rw [o1,o2,o3,hok2,hok3]
            show EncP h0 lo (cs++(bRs r.sets++(be 2 r.edges.length++(bEs r.edges++(bTexts r.reach++bTexts r.inits))))) _ _
            have hcf:cf=cs++(bRs r.sets++(be 2 r.edges.length++(bEs r.edges++(bTexts r.reach++bTexts r.inits)))):=by
              rw [fc rfl,ec rfl,dc rfl,ac oa]
              simp only [List.append_assoc]
            subst hcf
            have vw:=gf.buf.view'
            have ln:nf=(cs++(bRs r.sets++(be 2 r.edges.length++(bEs r.edges++(bTexts r.reach++bTexts r.inits))))).length:=by have:=vw.1;omega
            refine ⟨?_,gf.own,Ff⟩
            show View hf 1 vf (cs++(bRs r.sets++(be 2 r.edges.length++(bEs r.edges++(bTexts r.reach++bTexts r.inits))))).length _
            rw [← ln]
            exact vw
    all_goals simp [kq,kb,a3,a4,a1]
  all_goals simp [kq,kb,t3,t4,t1]
end
end Go.Proofs
end
section
/- LadderForms: the document's Encode, whole. -/
namespace Go.Proofs
open Go.Sh
set_option maxRecDepth 100000
attribute [local instance] powHeld
noncomputable section
theorem full_add {h:H} {id lo k:Nat} {cs new:List SV} {x:SV} (hr:rowCells h.get id=some cs) (hl:cs.length=4) (w:View h 1 x k new) (hk:0 < k) (hk2:k≤1073741824) (hlo:lo≤h.next):∃ v' h',appendV 1 1 h (.slice id 0 4 1 (some 4)) x=some (v',h')∧BB h' lo v' (4+k) (cs++new)∧Calms h h':=by
  have hw:new.length=k:=by have:=w.1;omega
  have e2:(Nat.ble ((4+k) * (1+1+1)) 1099511627776&&Nat.beq 1 1)=true:=by
    rw [Nat.ble_eq_true_of_le (by omega)];rfl
  have e:kappend h 1 1 k new (.slice id 0 4 1 (some 4))=appendKnown h id 0 4 1 4 k new:=by
    show bB (Nat.ble ((4+k) * (1+1+1)) 1099511627776&&Nat.beq 1 1) _ none=_
    rw [e2];rfl
  refine ⟨.slice h.next 0 (4+k) 1 none,h.push (.cells (cs++new) (.grown none)),append_V w (e.trans ?_),⟨⟨by simp [hl,hw],.inr ⟨h.next,none,rfl,by rw [H.get_push,if_pos rfl]⟩⟩,λ q hq=>by have hq:q=h.next:=hq;omega⟩,.push⟩
  unfold appendKnown
  rw [if_neg (by omega),hr]
  have:takeCells cs 0 (4 * 1)=some cs:=by
    unfold takeCells
    rw [if_pos (by omega),List.drop_zero,List.take_of_length_le (by omega)]
  simp only [this]
theorem froze_row {h:H} {id:Nat} {cs:List SV} (g:h.get id=some (.cells cs .fixed)):frozeS h (.slice id 0 4 1 (some 4))=some (.slice id 0 4 1 (some 4),h.put id (.cells cs (.grown none))):=by
  show (match Nat.blt 0 4,h.get id with
    | true,some (.cells cs .fixed)=>some (SV.slice id 0 4 1 (some 4),h.put id (.cells cs (.grown none)))
    | _,_=>none)=_
  rw [g];rfl
set_option maxHeartbeats 8000000 in
theorem Tryz.rencode18 {h:H} {cs:List SV} {r:RD} {m:List (Row × SV)} (R:RepV h h.next cs r m) (hsz:szD r≤268435456) :
    ∃ v h',Tryz.l2 18 [.agg cs] h=some (v,h')∧(View h' 1 v (encD r).length (encD r)∧∀ q,isRow v q→h.next≤q)∧Calms h h':=by
  refine Go.Sh.enG Tryz.kTab_ok (X:=Tryz.X2) (kf:=Tryz.k18) rfl (by kernel_rfl) 2147483656 Tryz.k18_eq2 rfl ?_
  obtain ⟨⟨sv,tv,ev,rv,iv,rfl,a1,a2,b1,c1,c2,d1,d2,i1,i2⟩,hrows⟩:=R
  generalize hcs:[SV.str r.entry,sv,tv,ev,rv,iv]=cs at *
  have y0:cs[0]?=some (.str r.entry):=by rw [← hcs];rfl
  have y1:cs[1]?=some sv:=by rw [← hcs];rfl
  have y2:cs[2]?=some tv:=by rw [← hcs];rfl
  have y3:cs[3]?=some ev:=by rw [← hcs];rfl
  generalize hh1:h.push (.cells cs .fixed)=h1
  have f1:=calm_push hh1
  have g1:=get_pushed hh1
  have n1:h1.next=h.next+1:=by rw [← hh1];rfl
  have eK:kcat [1,1,1,1] [.int .u8 82,.int .u8 80,.int .u8 84,.int .u8 49]=some [.int .u8 82,.int .u8 80,.int .u8 84,.int .u8 49]:=rfl
  generalize hh2:h1.push (.cells [.int .u8 82,.int .u8 80,.int .u8 84,.int .u8 49] .fixed)=h2
  have f2:=calm_push hh2
  have g2:=get_pushed hh2
  have n2:h2.next=h1.next+1:=by rw [← hh2];rfl
  have eF:∀ t,tFroze (xC (.slice h1.next 0 4 1 (some 4))) h2 t=some (.slice h1.next 0 4 1 (some 4),h2.put h1.next (.cells [.int .u8 82,.int .u8 80,.int .u8 84,.int .u8 49] (.grown none))):=λ t=>by
    exact froze_row g2
  have f3:Fr (·=h1.next) (·=h1.next) h2 (h2.put h1.next (.cells [.int .u8 82,.int .u8 80,.int .u8 84,.int .u8 49] (.grown none))):=Fr.put (H.get_lt g2)
  have g3:(h2.put h1.next (.cells [.int .u8 82,.int .u8 80,.int .u8 84,.int .u8 49] (.grown none))).get h1.next=_:=get_put_self g2
  generalize h2.put h1.next (.cells [.int .u8 82,.int .u8 80,.int .u8 84,.int .u8 49] (.grown none))=h3 at *
  have F3:Calms h h3:=Fr.new (f1.trans f2) f3 (λ q e=>by have e:q=h1.next:=e;omega) (λ q e=>by have e:q=h1.next:=e;omega)
  unfold szD at hsz
  have B3:h3.get h.next=some (.cells cs .fixed):=(f3.keep _ (by omega) (by show ¬h.next=h1.next;omega)).trans ((f2.keep _ (by omega) λ k=>k).trans g1)
  have L3:=row_box B3
  obtain ⟨x,h4,k4,w4,f4,_⟩:=Tryz.text r.entry h3 (by omega)
  have r4:rowCells h4.get h1.next=some (u8s magicB):=by
    have:h4.get h1.next=h3.get h1.next:=f4.keep _ (H.get_lt g3) λ k=>k
    unfold rowCells
    rw [this,g3];rfl
  have hn4:h1.next≤h4.next:=by have:=F3.next;have:=f4.next;have:=H.get_lt g3;omega
  obtain ⟨v5,h5,k5,g5,f5⟩:=full_add r4 rfl w4 (by omega) (by omega) hn4
  have F5:Calms h h5:=(F3.trans f4).trans f5
  have up:∀ {v:SV},(∀ q,isRow v q→q < h.next)→∀ q,isRow v q→q < h1.next:=λ a q hq=>by have:=a q hq;omega
  have B5:h5.get h.next=some (.cells cs .fixed):=(f5.keep _ (Nat.lt_of_lt_of_le (H.get_lt B3) f4.next) λ k=>k).trans ((f4.keep _ (H.get_lt B3) λ k=>k).trans B3)
  have L5:=row_box B5
  have hn5:h1.next≤h5.next:=Nat.le_trans hn4 f5.next
  have Z1:=szT_len r.sites
  have kA:=Tryz.two54 (r.entry.length:Int) h5
  have kS:=Tryz.two54 (r.sets.length:Int) h5
  have kE:=Tryz.two54 (r.edges.length:Int) h5
  have hml:m.length=r.sets.length:=by rw [← hrows,List.length_map]
  have lt:lenV tv=some r.sets.length:=by rw [← hml];exact b1.1.length
  have le:=c1.length
  have ls:=a1.length
  have b5:RowsV h5 h1.next tv m:=⟨b1.1.keep F5 λ _ _ k=>k,up b1.2.1,λ x hx=>⟨(b1.2.2 x hx).1.keep F5 λ _ _ k=>k,up (b1.2.2 x hx).2.1,(b1.2.2 x hx).2.2⟩⟩
  have c5:=c1.keep F5 λ _ _ k=>k
  have d5:=d1.keep F5 λ _ _ k=>k
  have i5:=i1.keep F5 λ _ _ k=>k
  obtain ⟨x,h6,k6,⟨v6,rfl,n6,cs6,g6,e6,c6⟩,f6⟩:=Tryz.rtexts55 g5 hn5 (a1.keep F5 λ _ _ k=>k) (up a2) (by omega)
  have B6:h6.get h.next=some (.cells cs .fixed):=f6.get B5 (by show ¬h1.next≤h.next;omega)
  have L6:=row_box B6
  obtain ⟨y,h7,k7,w7,f7⟩:=Tryz.num_row (r.sets.length:Int) h6
  obtain ⟨v8,h8,k8,g8,f8,_⟩:=bb_add (g6.keep f7 λ _ _ k=>k) w7 (by omega) (by have:=f6.next;have:=f7.next;omega)
  have F8:Fr (h1.next≤·) (λ _=>False) h5 h8:=(f6.trans (f7.mono (λ _ _ k=>k.elim) λ _ k=>k.elim)).trans f8
  have B8:h8.get h.next=some (.cells cs .fixed):=F8.get B5 (by show ¬h1.next≤h.next;omega)
  obtain ⟨okA,HA⟩:∃ o,two16 (r.entry.length:Int)=o:=⟨_,rfl⟩
  obtain ⟨okS,HS⟩:∃ o,two16 (r.sets.length:Int)=o:=⟨_,rfl⟩
  obtain ⟨okE',HE⟩:∃ o,two16 (r.edges.length:Int)=o:=⟨_,rfl⟩
  obtain ⟨okT,HT⟩:∃ o,okTexts r.sites=o:=⟨_,rfl⟩
  rw [HA] at kA
  rw [HS] at kS
  rw [HE] at kE
  rw [HT] at k6 c6
  cases okA with
  | false=>
    simp [↓ kq,kq,↓ ku,ku,↓ ko,ko,↓ kt,↓ kz,kb,kv,kt,kx,hh1,hh2,eK,eF,L3,L5,L6,y0,y1,y2,y3,k4,k5,kA,kS,kE,ls,lt,le,k6,k7,k8,gets_some,-bO_of,-bB_true,-bB_false,-H.next_push,-Int.natCast_add]
    refine Gets.mono (Tryz.rest18 (h0:=h5) (lo:=h1.next) (B:=h.next) (r:=r) (m:=m) (N:=536870912) (ok:=false) hcs (by omega) (by omega) b5 hrows c5 (up c2) d5 (up d2) i5 (up i2) g8 (by omega) (by omega) F8 B8 ?_ ?_ ?_) λ fl t' h' ⟨q1,vs,q2,q3,q4,q5⟩=>⟨q1,vs,q2,?_,?_⟩
    rotate_right
    · exact Fr.new F5 q5 (λ q hq=>by have:h1.next≤q:=hq;omega) (λ q hq=>hq.elim)
    rotate_right
    · have e:encInits (false&&(okRs r.sets&&(okEs r.edges&&(okTexts r.reach&&okTexts r.inits)))) (cs6++be 2 r.sets.length++(bRs r.sets++(be 2 r.edges.length++(bEs r.edges++(bTexts r.reach++bTexts r.inits)))))=encD r:=by
        unfold encD okD
        rw [HA,HS,HE,HT]
        simp [encInits]
      rw [e] at q3
      exact ⟨q3,λ q hq=>by have:=q4 q hq;omega⟩
    all_goals simp [kq,kb]
  | true=>
    cases okS with
    | false=>
      simp [↓ kq,kq,↓ ku,ku,↓ ko,ko,↓ kt,↓ kz,kb,kv,kt,kx,hh1,hh2,eK,eF,L3,L5,L6,y0,y1,y2,y3,k4,k5,kA,kS,kE,ls,lt,le,k6,k7,k8,gets_some,-bO_of,-bB_true,-bB_false,-H.next_push,-Int.natCast_add]
      refine Gets.mono (Tryz.rest18 (h0:=h5) (lo:=h1.next) (B:=h.next) (r:=r) (m:=m) (N:=536870912) (ok:=false) hcs (by omega) (by omega) b5 hrows c5 (up c2) d5 (up d2) i5 (up i2) g8 (by omega) (by omega) F8 B8 ?_ ?_ ?_) λ fl t' h' ⟨q1,vs,q2,q3,q4,q5⟩=>⟨q1,vs,q2,?_,?_⟩
      rotate_right
      · exact Fr.new F5 q5 (λ q hq=>by have:h1.next≤q:=hq;omega) (λ q hq=>hq.elim)
      rotate_right
      · have e:encInits (false&&(okRs r.sets&&(okEs r.edges&&(okTexts r.reach&&okTexts r.inits)))) (cs6++be 2 r.sets.length++(bRs r.sets++(be 2 r.edges.length++(bEs r.edges++(bTexts r.reach++bTexts r.inits)))))=encD r:=by
          unfold encD okD
          rw [HA,HS,HE,HT]
          simp [encInits]
        rw [e] at q3
        exact ⟨q3,λ q hq=>by have:=q4 q hq;omega⟩
      all_goals simp [kq,kb]
    | true=>
      cases okE' with
      | false=>
        simp [↓ kq,kq,↓ ku,ku,↓ ko,ko,↓ kt,↓ kz,kb,kv,kt,kx,hh1,hh2,eK,eF,L3,L5,L6,y0,y1,y2,y3,k4,k5,kA,kS,kE,ls,lt,le,k6,k7,k8,gets_some,-bO_of,-bB_true,-bB_false,-H.next_push,-Int.natCast_add]
        refine Gets.mono (Tryz.rest18 (h0:=h5) (lo:=h1.next) (B:=h.next) (r:=r) (m:=m) (N:=536870912) (ok:=false) hcs (by omega) (by omega) b5 hrows c5 (up c2) d5 (up d2) i5 (up i2) g8 (by omega) (by omega) F8 B8 ?_ ?_ ?_) λ fl t' h' ⟨q1,vs,q2,q3,q4,q5⟩=>⟨q1,vs,q2,?_,?_⟩
        rotate_right
        · exact Fr.new F5 q5 (λ q hq=>by have:h1.next≤q:=hq;omega) (λ q hq=>hq.elim)
        rotate_right
        · have e:encInits (false&&(okRs r.sets&&(okEs r.edges&&(okTexts r.reach&&okTexts r.inits)))) (cs6++be 2 r.sets.length++(bRs r.sets++(be 2 r.edges.length++(bEs r.edges++(bTexts r.reach++bTexts r.inits)))))=encD r:=by
            unfold encD okD
            rw [HA,HS,HE,HT]
            simp [encInits]
          rw [e] at q3
          exact ⟨q3,λ q hq=>by have:=q4 q hq;omega⟩
        all_goals simp [kq,kb]
      | true=>
        simp [↓ kq,kq,↓ ku,ku,↓ ko,ko,↓ kt,↓ kz,kb,kv,kt,kx,hh1,hh2,eK,eF,L3,L5,L6,y0,y1,y2,y3,k4,k5,kA,kS,kE,ls,lt,le,k6,k7,k8,gets_some,-bO_of,-bB_true,-bB_false,-H.next_push,-Int.natCast_add]
        refine Gets.mono (Tryz.rest18 (h0:=h5) (lo:=h1.next) (B:=h.next) (r:=r) (m:=m) (N:=536870912) (ok:=okT) hcs (by omega) (by omega) b5 hrows c5 (up c2) d5 (up d2) i5 (up i2) g8 (by omega) (by omega) F8 B8 ?_ ?_ ?_) λ fl t' h' ⟨q1,vs,q2,q3,q4,q5⟩=>⟨q1,vs,q2,?_,?_⟩
        rotate_right
        · exact Fr.new F5 q5 (λ q hq=>by have:h1.next≤q:=hq;omega) (λ q hq=>hq.elim)
        rotate_right
        · have e:encInits (okT&&(okRs r.sets&&(okEs r.edges&&(okTexts r.reach&&okTexts r.inits)))) (cs6++be 2 r.sets.length++(bRs r.sets++(be 2 r.edges.length++(bEs r.edges++(bTexts r.reach++bTexts r.inits)))))=encD r:=by
            unfold encD okD
            rw [HA,HS,HE,HT]
            cases okT with
            | false=>rfl
            | true=>
              rw [c6 rfl]
              unfold bD
              cases ho:(okRs r.sets&&(okEs r.edges&&(okTexts r.reach&&okTexts r.inits))) with
              | false=>simp [encInits,ho]
              | true=>simp only [encInits,ho,Bool.true_and,Bool.and_true,if_true,List.append_assoc,bText]
          rw [e] at q3
          exact ⟨q3,λ q hq=>by have:=q4 q hq;omega⟩
        all_goals simp [kq,kb]
end
end Go.Proofs
end
