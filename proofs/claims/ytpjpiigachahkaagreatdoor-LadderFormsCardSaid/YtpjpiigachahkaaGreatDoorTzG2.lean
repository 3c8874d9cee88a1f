/- LadderForms: what a writer has; texts that are written. -/
import Derived.Test.YtpjpiigachahkaaGreatDoorTzG1
import Derived.Test.YtpjpiigachahkaaGreatDoorTzLA
set_option linter.unusedVariables false
set_option linter.unusedSimpArgs false
set_option linter.unusedSectionVars false
namespace Go.Proofs
open Go.Sh
set_option maxRecDepth 100000
attribute [local instance] powHeld
noncomputable section
abbrev WSt:=Bool × List SV
def putW (x lo hi:Int) (new:List SV) (st:WSt):WSt:=if outOf st.1 x lo hi then (true,st.2) else (false,st.2++new)
def w1 (x:Int):WSt→WSt:=putW x 0 255 (be 1 x)
def w2 (x:Int):WSt→WSt:=putW x 0 65535 (be 2 x)
def wT (s:List UInt8):WSt→WSt:=putW s.length 0 65535 (be 2 s.length++u8s s)
theorem u8s_len (a:List UInt8):(u8s a).length=a.length:=by simp [u8s]
theorem putW_len (x lo hi:Int) (new:List SV) (st:WSt):(putW x lo hi new st).2.length≤st.2.length+new.length:=by
 unfold putW
 split
 ·exact Nat.le_add_right _ _
 ·simp
theorem w2_len (x:Int) (st:WSt):(w2 x st).2.length≤st.2.length+2:=Nat.le_trans (putW_len ..) (by rw [be_length];exact Nat.le_refl _)
theorem wT_len (s:List UInt8) (st:WSt):(wT s st).2.length≤st.2.length+(s.length+2):=Nat.le_trans (putW_len ..) (by rw [List.length_append,be_length,u8s_len];omega)
theorem wr_put {h:H} {p:Nat} {st:WSt} {x lo hi:Int} {new:List SV} {k:Nat} (hk:k=new.length) (w:Wr h p (outOf st.1 x lo hi) (if outOf st.1 x lo hi then st.2.length else st.2.length+k) (if outOf st.1 x lo hi then st.2 else st.2++new)):Wr h p (putW x lo hi new st).1 (putW x lo hi new st).2.length (putW x lo hi new st).2:=by
 unfold putW
 cases hb:outOf st.1 x lo hi with
 | true=>rw [hb] at w;simpa using w
 | false=>rw [hb] at w;subst hk;simpa using w
def Off (h:H) (p b:Nat):Prop:=b < h.next∧¬wrOwn h p b
structure WrS (h:H) (p:Nat) (st:WSt):Prop where
 wr:Wr h p st.1 st.2.length st.2
 own:∀ q,wrOwn h p q→p≤q
 here:p < h.next
theorem WrS.keep {h h':H} {p:Nat} {st:WSt} {S W:Nat→Prop} (w:WrS h p st) (f:Fr S W h h') (hn:∀ q,p≤q→¬S q):WrS h' p st:=by
 refine ⟨w.wr.keep f λ q hq=>hn q (w.own q hq),λ q hq=>?_,Nat.lt_of_lt_of_le w.here f.next⟩
 rcases hq with rfl | ⟨buf,bad,e1,e2⟩
 ·exact Nat.le_refl _
 ·exact w.own q (.inr ⟨buf,bad,by rw [← f.keep p w.here (hn p (Nat.le_refl _))];exact e1,e2⟩)
theorem WrS.next {h h':H} {p:Nat} {st st':WSt} (w:WrS h p st) (f:Fr (wrOwn h p) (·=p) h h') (w':Wr h' p st'.1 st'.2.length st'.2) (o:∀ q,wrOwn h' p q→wrOwn h p q∨h.next≤q):WrS h' p st'∧Fr (p≤·) (p≤·) h h'∧∀ b,Off h p b→h'.get b=h.get b∧Off h' p b:=
 ⟨⟨w',λ q hq=>(o q hq).elim (w.own q) λ hle=>Nat.le_trans (Nat.le_of_lt w.here) hle,Nat.lt_of_lt_of_le w.here f.next⟩,
  f.mono (λ q _ e=>w.own q e) λ q e=>.inl (by subst e;exact Nat.le_refl _),
  λ b hb=>⟨f.keep b hb.1 hb.2,Nat.lt_of_lt_of_le hb.1 f.next,λ e=>(o b e).elim hb.2 λ hle=>by have:=hb.1;omega⟩⟩
theorem Tryz.u1S {h:H} {p:Nat} {st:WSt} {x:Int} (w:WrS h p st) (hm:st.2.length≤4294967296):∃ h',Tryz.l2 36 [.ptr p 0,.int .i64 x] h=some (.ptr p 0,h')∧WrS h' p (w1 x st)∧Fr (p≤·) (p≤·) h h'∧∀ b,Off h p b→h'.get b=h.get b∧Off h' p b:=by
 obtain ⟨h',k1,k2,k3,k4⟩:=Tryz.u1 (x:=x) (by omega) w.wr
 exact ⟨h',k1,w.next k2 (wr_put (be_length 1 x).symm k3) k4⟩
theorem Tryz.u2S {h:H} {p:Nat} {st:WSt} {x:Int} (w:WrS h p st) (hm:st.2.length≤4294967296):∃ h',Tryz.l2 39 [.ptr p 0,.int .i64 x] h=some (.ptr p 0,h')∧WrS h' p (w2 x st)∧Fr (p≤·) (p≤·) h h'∧∀ b,Off h p b→h'.get b=h.get b∧Off h' p b:=by
 obtain ⟨h',k1,k2,k3,k4⟩:=Tryz.u2 (x:=x) (by omega) w.wr
 exact ⟨h',k1,w.next k2 (wr_put (be_length 2 x).symm k3) k4⟩
theorem Tryz.textS {h:H} {p:Nat} {st:WSt} {s:List UInt8} (w:WrS h p st) (hm:st.2.length≤4294967296) (hs:s.length≤4294967296):∃ h',Tryz.l2 38 [.ptr p 0,.str s] h=some (.ptr p 0,h')∧WrS h' p (wT s st)∧Fr (p≤·) (p≤·) h h'∧∀ b,Off h p b→h'.get b=h.get b∧Off h' p b:=by
 obtain ⟨h',k1,k2,k3,k4⟩:=Tryz.wtext (s:=s) (by omega) w.wr
 refine ⟨h',k1,w.next k2 (wr_put (k:=2+s.length) (by rw [List.length_append,be_length,u8s_len]) ?_) k4⟩
 rw [← Nat.add_assoc,← List.append_assoc]
 exact k3
theorem view_one {h:H} {n:Nat} {v:SV} {cs:List SV} (w:View h 1 v n cs) {i:Nat} (hi:i < n):∃ p,atIdx 1 i v=some p∧loadV none h.get p=cs[i]?:=by
 obtain ⟨p,h1,h2⟩:=w.load hi
 exact ⟨p,h1,h2 .leaf⟩
def wTs (l:List (List UInt8)) (st:WSt):WSt:=l.foldl (λ st s=>wT s st) st
def szT:List (List UInt8)→Nat
 | []=>0
 | s::l=>s.length+2+szT l
theorem wTs_len:∀ l st,(wTs l st).2.length≤st.2.length+szT l
 | [],st=>Nat.le_refl _
 | s::l,st=>by
  have h1:=wTs_len l (wT s st)
  have h2:=wT_len s st
  have e:(wTs (s::l) st)=wTs l (wT s st):=rfl
  rw [e]
  show _≤st.2.length+(s.length+2+szT l)
  omega
theorem strsAt {l:List (List UInt8)} {i:Nat} {s:List UInt8} (h:l[i]?=some s):(strs l)[i]?=some (.str s):=by simp [strs,h]
theorem drop_at {α:Type} {l:List α} {i:Nat} {x:α} (h:l[i]?=some x):l.drop i=x::l.drop (i+1):=by
 obtain ⟨hi,rfl⟩:=List.getElem?_eq_some_iff.1 h
 exact List.drop_eq_getElem_cons hi
def LoopW (p:Nat) (h:H) (e:Flow) (st:WSt) (fl:Flow) (t':T) (h':H):Prop:=fl=e∧WrS h' p st∧Fr (p≤·) (p≤·) h h'
theorem Tryz.texts_loop {h0:H} {v:SV} {l:List (List UInt8)} {p:Nat} (w0:View h0 1 v l.length (strs l)) (hv:∀ q,isRow v q→q < p) (hl:l.length≤4294967296):∀ (j i k:Nat) (t:T) (h:H) (st:WSt),i+j=l.length→j < k→WrS h p st→Fr (p≤·) (p≤·) h0 h→st.2.length+szT (l.drop i)≤4294967296 →
  getP (way 0) t=some (.ptr p 0)→getP (way 10) t=some v→getP (way 11) t=some (.int .i64 l.length)→getP (way 12) t=some (.int .i64 i)→Gets (cLoop Tryz.l37_0 k Tryz.l2 t h) (LoopW p h (.exit 0) (wTs (l.drop i) st)):=by
 intro j
 induction j with
 | zero=>
  intro i k t h st hi hk w fr hsz t0 t10 t11 t12
  obtain ⟨k,rfl⟩:∃ m,k=m+1:=⟨k - 1,by omega⟩
  rw [loop_succ]
  generalize (λ t h=>cLoop Tryz.l37_0 k Tryz.l2 t h)=L
  unfold Tryz.l37_0
  have e1:ltI (i:Int) (l.length:Int)=false:=ltIf (by omega)
  rw [List.drop_eq_nil_of_le (by omega)]
  simp [↓ kq,kq,↓ ku,ku,↓ ko,ko,↓ kt,↓ kz,kb,kv,kt,kx,t0,t10,t11,t12,e1,gets_some,-bO_of,-bB_true,-bB_false,-H.next_push,-Int.natCast_add]
  exact ⟨rfl,w,.refl⟩
 | succ j ih=>
  intro i k t h st hi hk w fr hsz t0 t10 t11 t12
  obtain ⟨k,rfl⟩:∃ m,k=m+1:=⟨k - 1,by omega⟩
  rw [loop_succ]
  generalize hL:(λ t h=>cLoop Tryz.l37_0 k Tryz.l2 t h)=L
  obtain ⟨s,hs⟩:∃ s,l[i]?=some s:=⟨l[i]'(by omega),List.getElem?_eq_getElem (by omega)⟩
  have hd:=drop_at hs
  rw [hd] at hsz ⊢
  have hsz':st.2.length+(s.length+2+szT (l.drop (i+1)))≤4294967296:=hsz
  have vw:View h 1 v l.length (strs l):=w0.keep fr λ q hq hp=>by have:=hv q hq;omega
  obtain ⟨a,a1,a2⟩:=view_one vw (i:=i) (by omega)
  rw [strsAt hs] at a2
  obtain ⟨h1,k1,k2,k3,_⟩:=Tryz.textS (s:=s) w (by omega) (by omega)
  have hlen:=wT_len s st
  have e1:ltI (i:Int) (l.length:Int)=true:=ltIt (by omega)
  have e9:IntKind.i64.wrap ((i:Int)+1)=((i+1:Nat):Int):=by rw [wrapI64 (by omega) (by omega)];omega
  have e6:intN (i:Int)=some i:=intN_nat i
  unfold Tryz.l37_0
  simp [↓ kq,kq,↓ ku,ku,↓ ko,ko,↓ kt,↓ kz,kb,kv,kt,kx,t0,t10,t11,t12,a1,a2,k1,e1,e6,e9,gets_some,-bO_of,-bB_true,-bB_false,-H.next_push,-Int.natCast_add]
  rw [← hL]
  refine Gets.mono (ih (i+1) k _ h1 (wT s st) (by omega) (by omega) k2 (fr.trans k3) (by omega) ?_ ?_ ?_ ?_) λ fl t' h' ⟨b1,b2,b3⟩=>⟨b1,b2,k3.trans b3⟩
  all_goals simp [kq,kb,t0,t10,t11,t12]
theorem Tryz.texts37 {h:H} {v:SV} {l:List (List UInt8)} {p:Nat} {st:WSt} (w0:View h 1 v l.length (strs l)) (hv:∀ q,isRow v q→q < p) (hl:l.length≤4294967296) (w:WrS h p st) (hsz:st.2.length+2+szT l≤4294967296) :
  ∃ v' h',Tryz.l2 37 [.ptr p 0,v] h=some (v',h')∧WrS h' p (wTs l (w2 l.length st))∧Fr (p≤·) (p≤·) h h':=by
 refine Go.Sh.enG Tryz.kTab_ok (X:=Tryz.X2) (kf:=Tryz.k37) rfl (by kernel_rfl) (l.length+2) rfl rfl ?_
 obtain ⟨h1,k1,k2,k3,_⟩:=Tryz.u2S (x:=(l.length:Int)) w (by omega)
 have lv:=w0.length
 have w1:View h1 1 v l.length (strs l):=w0.keep k3 λ q hq hp=>by have:=hv q hq;omega
 have hlen:=w2_len (l.length:Int) st
 simp [↓ kq,kq,↓ ku,ku,↓ ko,ko,↓ kt,↓ kz,kb,kv,kt,kx,k1,lv,gets_some,-bO_of,-bB_true,-bB_false,-H.next_push,-Int.natCast_add]
 refine gets_leave (Gets.mono (Tryz.texts_loop w1 hv hl l.length 0 (l.length+2) _ h1 _ (by omega) (by omega) k2 .refl (by rw [List.drop_zero];omega) (by simp [kq,kb]) (by simp [kq,kb]) (by simp [kq,kb]) (by simp [kq,kb])) λ fl t' h' ⟨b1,b2,b3⟩=>?_)
 subst b1
 rw [List.drop_zero] at b2
 simp only [if_true]
 simp [↓ kq,kq,kc]
 exact ⟨b2,k3.trans b3⟩
end
end Go.Proofs
