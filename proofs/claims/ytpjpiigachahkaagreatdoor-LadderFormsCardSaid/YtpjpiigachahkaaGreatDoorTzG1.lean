/- General laws of the proof: a shadow machine of the form, its soundness, and a compiled form of it. -/
import Derived.Test.YtpjpiigachahkaaGreatDoorTwNA
set_option linter.unusedVariables false
set_option linter.unusedSimpArgs false
set_option linter.unusedSectionVars false
section
/- Bytes: the contracts of the writer and of the reader. -/
namespace Go.Proofs
open Go.Sh
attribute [local instance] powHeld
noncomputable section
def be:Nat→Int→List SV
 | 0,_=>[]
 | s+1,x=>.int .u8 (wrapS .u8 (x.fdiv (2 ^ (8 * s))))::be s x
theorem be_length:∀ s x,(be s x).length=s
 | 0,_=>rfl
 | s+1,x=>by simp [be,be_length s x]
theorem Tryz.put_loop {p:Nat} {x:Int} (c:CF):∀ (s k:Nat) (t:T) (h:H) (buf:SV) (n:Nat) (cs:List SV),s < k→s≤8→(n+s) * 3≤1099511627776→getP (way 0) t=some (.ptr p 0)→getP (way 1) t=some (.int .i64 x)→getP (way 2) t=some (.int .i64 s) →
  h.get p=some (.cells [buf,.bool false] .fixed)→Buf h 1 buf n cs→(∀ q,isRow buf q→q≠p) →
  Gets (cLoop Tryz.l95_0 k c t h) λ fl t' h'=>fl=.exit 0∧getP (way 0) t'=some (.ptr p 0)∧Fr (λ q=>q=p∨isRow buf q) (·=p) h h'∧∃ buf',h'.get p=some (.cells [buf',.bool false] .fixed)∧Buf h' 1 buf' (n+s) (cs++be s x)∧(∀ q,isRow buf' q→q≠p)∧(∀ q,isRow buf' q→isRow buf q∨h.next≤q):=by
 intro s
 induction s with
 | zero=>
  intro k t h buf n cs hk _ _ h0 h1 h2 hw hb hd
  obtain ⟨k,rfl⟩:∃ m,k=m+1:=⟨k - 1,by omega⟩
  rw [loop_succ]
  generalize (λ t h=>cLoop Tryz.l95_0 k c t h)=L
  unfold Tryz.l95_0
  have e1:ltI 0 0=false:=rfl
  have h2:getP (way 2) t=some (.int .i64 0):=h2
  simp only [kr,bO_mk,h2,vGt,i2,kx,e1,gets_some,h0,Bool.false_eq_true,if_false,if_true]
  refine ⟨trivial,?_,.refl,buf,hw,by simpa [be] using hb,hd,λ q hq=>.inl hq⟩
  simp [h0]
 | succ s ih=>
  intro k t h buf n cs hk hs hmax h0 h1 h2 hw hb hd
  obtain ⟨k,rfl⟩:∃ m,k=m+1:=⟨k - 1,by omega⟩
  rw [loop_succ]
  generalize hL:(λ t h=>cLoop Tryz.l95_0 k c t h)=L
  unfold Tryz.l95_0
  have e1:ltI 0 ((s+1:Nat):Int)=true:=by rw [ltI_eq];simp
  have e2:wrapS .i64 (((s+1:Nat):Int) - 1)=s:=by
   rw [wrapS_eq,show ((s+1:Nat):Int) - 1=s by omega];exact wrap_i64 (by omega) (by omega)
  have e3:wrapS .i64 (8 * (s:Int))=8 * (s:Int):=by rw [wrapS_eq];exact wrap_i64 (by omega) (by omega)
  have e4:shiftInt .shr .i64 x (8 * (s:Int))=some (x.fdiv (2 ^ (8 * s))):=by
   unfold shiftInt
   rw [if_neg (by omega)]
   simp only
   have:min (8 * (s:Int)).toNat IntKind.i64.bits=8 * s:=by
    have h64:IntKind.i64.bits=64:=rfl
    rw [h64];omega
   rw [this]
  obtain ⟨buf',h',a1,a2,a3,a4⟩:=(hb.keep (S:=λ _=>False) (W:=λ _=>False) (Fr.push (o:=.cells [.int .u8 (wrapS .u8 (x.fdiv (2 ^ (8 * s))))] .fixed)) (λ q _ k=>k)).append (bytes:=1) 1 [.int .u8 (wrapS .u8 (x.fdiv (2 ^ (8 * s))))] (by omega) rfl (by omega)
  have hw':h'.get p=some (.cells [buf,.bool false] .fixed):=a3.get ((Fr.push (S:=λ _=>False) (W:=λ _=>False)).get hw λ k=>k) λ k=>hd p k rfl
  have hc':buf'.cells?=some [buf']:=by
   obtain ⟨_,⟨r,_⟩ | ⟨id,par,r,_⟩⟩:=a2 <;> subst r <;> rfl
  simp only [kr,bO_mk,h2,vGt,vSub,vMul,vSh,vToI,i2,kx,gets_some,h0,h1,e1,e2,e3,e4,vNil,nilV,vAddr,lLoad,rowCells,hw,kpart,idxX_get,Nat.reduceEqDiff,if_true,if_false,List.getElem?_cons_zero,List.set_cons_zero,Nat.zero_add,reduceIte,row_one,append_one,a1,store_fixed hw' 0 buf' _ (by simp) hc']
  have hp:p < h'.next:=H.get_lt hw'
  have hne:∀ q,isRow buf' q→q≠p:=λ q hq e=>by
   subst e
   rcases a4 _ hq with k1 | k1
   ·exact hd _ k1 rfl
   ·exact absurd (H.get_lt hw) (by have:h.next+1≤q:=k1;omega)
  have hb'':Buf (h'.put p (.cells [buf',.bool false] .fixed)) 1 buf' (n+1) (cs++[.int .u8 (wrapS .u8 (x.fdiv (2 ^ (8 * s))))]):=a2.keep (Fr.put hp) hne
  have f1:Fr (λ q=>q=p∨isRow buf q) (·=p) h (h'.put p (.cells [buf',.bool false] .fixed)):=
   (((Fr.push (o:=.cells [.int .u8 (wrapS .u8 (x.fdiv (2 ^ (8 * s))))] .fixed)).mono (λ _ _ k=>k) (λ _ k=>.inl k)).trans (a3.mono (λ q _ e=>.inr e) (λ q e=>e.elim))).trans ((Fr.put hp).mono (λ q _ e=>.inl e) (λ q e=>.inl e))
  rw [← hL]
  refine Gets.mono (ih k _ _ buf' (n+1) _ (by omega) (by omega) (by omega) (by simp [kr,h0]) (by simp [kr,h1]) (by simp [kr]) (get_put_self hw') hb'' hne) λ fl t' h2 ⟨b1,b2,b3,b',b4,b5,b6,b7⟩=>?_
  refine ⟨b1,b2,⟨Nat.le_trans f1.next b3.next,λ q hq hn=>?_,λ m k1 k2 k3=>b3.low m (f1.low m k1 k2 k3) (Nat.le_trans k2 f1.next) k3⟩,b',b4,?_,b6,λ q hq=>?_⟩
  ·rw [b3.keep q (Nat.lt_of_lt_of_le hq f1.next) λ k1=>hn ?_,f1.keep q hq hn]
   rcases k1 with k1 | k1
   ·exact .inl k1
   ·rcases a4 _ k1 with k2 | k2
    ·exact .inr k2
    ·exact absurd hq (by have:h.next+1≤q:=k2;omega)
  ·rw [show n+(s+1)=n+1+s by omega,show cs++be (s+1) x=cs++[.int .u8 (wrapS .u8 (x.fdiv (2 ^ (8 * s))))]++be s x by simp [be]]
   exact b5
  ·rcases b7 q hq with k1 | k1
   ·rcases a4 _ k1 with k2 | k2
    ·exact .inl k2
    ·exact .inr (by have:h.next+1≤q:=k2;omega)
   ·exact .inr (Nat.le_trans f1.next k1)
theorem Tryz.put_bad {p:Nat} {x lo hi s:Int} (k:Nat) (c:CF) (h:H) (buf:SV) (bad:Bool) (hc:buf.cells?=some [buf]) (hw:h.get p=some (.cells [buf,.bool bad] .fixed)) (hb:(bad || ltI x lo || ltI hi x)=true) :
  kenter Tryz.k95 k c [.ptr p 0,.int .i64 x,.int .i64 s,.int .i64 lo,.int .i64 hi] h=some (.ptr p 0,h.put p (.cells [buf,.bool true] .fixed)):=by
 have e:argsP Tryz.k95.slots [.ptr p 0,.int .i64 x,.int .i64 s,.int .i64 lo,.int .i64 hi] .leaf=some (setP (way 4) (.int .i64 hi) (setP (way 3) (.int .i64 lo) (setP (way 2) (.int .i64 s) (setP (way 1) (.int .i64 x) (setP (way 0) (.ptr p 0) .leaf))))):=rfl
 unfold kenter
 rw [e]
 unfold Tryz.k95
 have hst:=λ t=>store_fixed hw 1 (.bool true) t (by simp) rfl
 cases bad
 ·cases h1:ltI x lo
  ·have h2:ltI hi x=true:=by simpa [h1] using hb
   simp [kr,bO_mk,vLt,vGt,i2,kx,vNil,nilV,vAddr,lLoad,lEq,keq,rowCells,hw,kpart,idxX_get,vPick,bB,isB,h1,h2,hst,get_put_self hw,kfin,kresL,kres,oneS,SV.cells?]
  ·simp [kr,bO_mk,vLt,vGt,i2,kx,vNil,nilV,vAddr,lLoad,lEq,keq,rowCells,hw,kpart,idxX_get,vPick,bB,isB,h1,hst,get_put_self hw,kfin,kresL,kres,oneS,SV.cells?]
 ·simp [kr,bO_mk,vLt,vGt,i2,kx,vNil,nilV,vAddr,lLoad,lEq,keq,rowCells,hw,kpart,idxX_get,vPick,bB,isB,hst,get_put_self hw,kfin,kresL,kres,oneS,SV.cells?]
theorem Tryz.put_ok {p:Nat} {x lo hi:Int} (s k:Nat) (c:CF) (h:H) (buf:SV) (n:Nat) (cs:List SV) (hs:s < k) (hs8:s≤8) (hmax:(n+s) * 3≤1099511627776) (hw:h.get p=some (.cells [buf,.bool false] .fixed)) (h1:ltI x lo=false) (h2:ltI hi x=false)
  (hb:Buf h 1 buf n cs) (hd:∀ q,isRow buf q→q≠p) :
  ∃ v h',kenter Tryz.k95 k c [.ptr p 0,.int .i64 x,.int .i64 s,.int .i64 lo,.int .i64 hi] h=some (v,h')∧v=.ptr p 0∧Fr (λ q=>q=p∨isRow buf q) (·=p) h h'∧∃ buf',h'.get p=some (.cells [buf',.bool false] .fixed)∧Buf h' 1 buf' (n+s) (cs++be s x)∧(∀ q,isRow buf' q→q≠p)∧(∀ q,isRow buf' q→isRow buf q∨h.next≤q):=by
 have e:argsP Tryz.k95.slots [.ptr p 0,.int .i64 x,.int .i64 s,.int .i64 lo,.int .i64 hi] .leaf=some (setP (way 4) (.int .i64 hi) (setP (way 3) (.int .i64 lo) (setP (way 2) (.int .i64 s) (setP (way 1) (.int .i64 x) (setP (way 0) (.ptr p 0) .leaf))))):=rfl
 unfold kenter
 rw [e]
 refine gets_fin ?_
 rw [Tryz.k95]
 have hst:=λ t=>store_fixed hw 1 (.bool false) t (by simp) rfl
 have hg:=get_put_self (o:=.cells [buf,.bool false] .fixed) hw
 simp [kr,bO_mk,vLt,vGt,i2,kx,vNil,nilV,vAddr,lLoad,lEq,keq,rowCells,hw,kpart,idxX_get,vPick,bB,isB,h1,h2,hst,hg]
 have hb2:=hb.keep (Fr.put (o:=.cells [buf,.bool false] .fixed) (H.get_lt hw)) hd
 refine gets_next (gets_leave (Gets.mono (Tryz.put_loop (x:=x) c s k _ _ buf n cs hs hs8 hmax ?_ ?_ ?_ hg hb2 hd) ?_))
 ·simp [kr]
 ·simp [kr]
 ·simp [kr]
 ·intro fl t' h' ⟨b1,b2,b3,b4⟩
  subst b1
  simp [kr,bO_mk,gets_some,b2,kresL,kres,oneS]
  exact ⟨(((Fr.put (H.get_lt hw)).mono (λ q _ e=>.inl e) (λ q e=>.inl e)).trans b3),b4⟩
def Wr (h:H) (p:Nat) (bad:Bool) (n:Nat) (cs:List SV):Prop:=∃ buf,h.get p=some (.cells [buf,.bool bad] .fixed)∧Buf h 1 buf n cs∧∀ q,isRow buf q→q≠p
def wrOwn (h:H) (p q:Nat):Prop:=q=p∨∃ buf bad,h.get p=some (.cells [buf,.bool bad] .fixed)∧isRow buf q
theorem Wr.keep {h h':H} {p n:Nat} {bad:Bool} {cs:List SV} {S W:Nat→Prop} (w:Wr h p bad n cs) (f:Fr S W h h') (hn:∀ q,wrOwn h p q→¬S q):Wr h' p bad n cs:=by
 obtain ⟨buf,h1,h2,h3⟩:=w
 exact ⟨buf,f.get h1 (hn p (.inl rfl)),h2.keep f λ q hq=>hn q (.inr ⟨buf,bad,h1,hq⟩),h3⟩
theorem buf_cells {h:H} {es n:Nat} {v:SV} {cs:List SV} (b:Buf h es v n cs):v.cells?=some [v]:=by
 obtain ⟨_,⟨r,_⟩ | ⟨id,par,r,_⟩⟩:=b <;> subst r <;> rfl
def outOf (bad:Bool) (x lo hi:Int):Bool:=bad || (ltI x lo || ltI hi x)
theorem wrOwn_of {h h':H} {p:Nat} {buf buf':SV} {bad bad':Bool} (h1:h.get p=some (.cells [buf,.bool bad] .fixed)) (h2:h'.get p=some (.cells [buf',.bool bad'] .fixed)) (h3:∀ q,isRow buf' q→isRow buf q∨h.next≤q):∀ q,wrOwn h' p q→wrOwn h p q∨h.next≤q:=λ q hq=>by
 rcases hq with hq | ⟨b,c,h4,h5⟩
 ·exact .inl (.inl hq)
 ·rw [h2] at h4
  cases h4
  rcases h3 q h5 with k | k
  ·exact .inl (.inr ⟨buf,bad,h1,k⟩)
  ·exact .inr k
theorem Tryz.put {p:Nat} {x lo hi:Int} (s:Nat) {h:H} {bad:Bool} {n:Nat} {cs:List SV} (hs8:s≤8) (hmax:(n+s) * 3≤1099511627776) (w:Wr h p bad n cs) :
  ∃ h',Tryz.l2 95 [.ptr p 0,.int .i64 x,.int .i64 s,.int .i64 lo,.int .i64 hi] h=some (.ptr p 0,h')∧Fr (wrOwn h p) (·=p) h h'∧Wr h' p (outOf bad x lo hi) (if outOf bad x lo hi then n else n+s) (if outOf bad x lo hi then cs else cs++be s x)∧(∀ q,wrOwn h' p q→wrOwn h p q∨h.next≤q):=by
 obtain ⟨buf,h1,h2,h3⟩:=w
 cases hb:outOf bad x lo hi
 ·simp only [outOf,Bool.or_eq_false_iff] at hb
  obtain ⟨rfl,hb1,hb2⟩:=hb
  obtain ⟨v,h',k1,rfl,k2,buf',k3,k4,k5,k6⟩:=Tryz.put_ok (x:=x) (lo:=lo) (hi:=hi) s 9 Tryz.l2 h buf n cs (by omega) hs8 hmax h1 hb1 hb2 h2 h3
  refine ⟨h',Tryz.en (by kernel_rfl) k1,k2.mono (λ q _ k=>?_) (λ q k=>.inl k),⟨buf',k3,by simpa using k4,k5⟩,wrOwn_of h1 k3 k6⟩
  rcases k with k | k
  ·exact .inl k
  ·exact .inr ⟨buf,false,h1,k⟩
 ·have k1:=Tryz.put_bad (x:=x) (lo:=lo) (hi:=hi) (s:=s) 9 Tryz.l2 h buf bad (buf_cells h2) h1 (by simpa [outOf,Bool.or_assoc] using hb)
  refine ⟨_,Tryz.en (by kernel_rfl) k1,(Fr.put (H.get_lt h1)).mono (λ q _ k=>.inl k) (λ q k=>.inl k),⟨buf,get_put_self h1,?_,h3⟩,wrOwn_of h1 (get_put_self h1) λ q k=>.inl k⟩
  simpa using h2.keep (Fr.put (H.get_lt h1)) h3
theorem Tryz.u1 {p:Nat} {x:Int} {h:H} {bad:Bool} {n:Nat} {cs:List SV} (hmax:(n+1) * 3≤1099511627776) (w:Wr h p bad n cs) :
  ∃ h',Tryz.l2 36 [.ptr p 0,.int .i64 x] h=some (.ptr p 0,h')∧Fr (wrOwn h p) (·=p) h h'∧Wr h' p (outOf bad x 0 255) (if outOf bad x 0 255 then n else n+1) (if outOf bad x 0 255 then cs else cs++be 1 x)∧(∀ q,wrOwn h' p q→wrOwn h p q∨h.next≤q):=by
 obtain ⟨h',k1,k2⟩:=Tryz.put (x:=x) (lo:=0) (hi:=255) 1 (by omega) hmax w
 refine ⟨h',Tryz.en (n:=1) (kf:=Tryz.k36) (by kernel_rfl) ?_,k2⟩
 rw [Tryz.k36,enter_eq]
 have k1:Tryz.l2 95 [.ptr p 0,.int .i64 x,.int .i64 1,.int .i64 0,.int .i64 255] h=some (.ptr p 0,h'):=k1
 simp [argsP,kr,bO_mk,k1,kfin,kresL,kres,oneS]
theorem Tryz.u2 {p:Nat} {x:Int} {h:H} {bad:Bool} {n:Nat} {cs:List SV} (hmax:(n+2) * 3≤1099511627776) (w:Wr h p bad n cs) :
  ∃ h',Tryz.l2 39 [.ptr p 0,.int .i64 x] h=some (.ptr p 0,h')∧Fr (wrOwn h p) (·=p) h h'∧Wr h' p (outOf bad x 0 65535) (if outOf bad x 0 65535 then n else n+2) (if outOf bad x 0 65535 then cs else cs++be 2 x)∧(∀ q,wrOwn h' p q→wrOwn h p q∨h.next≤q):=by
 obtain ⟨h',k1,k2⟩:=Tryz.put (x:=x) (lo:=0) (hi:=65535) 2 (by omega) hmax w
 refine ⟨h',Tryz.en (n:=1) (kf:=Tryz.k39) (by kernel_rfl) ?_,k2⟩
 rw [Tryz.k39,enter_eq]
 have k1:Tryz.l2 95 [.ptr p 0,.int .i64 x,.int .i64 2,.int .i64 0,.int .i64 65535] h=some (.ptr p 0,h'):=k1
 simp [argsP,kr,bO_mk,k1,kfin,kresL,kres,oneS]
theorem Tryz.bad {p:Nat} {h:H} {bad:Bool} {n:Nat} {cs:List SV} (w:Wr h p bad n cs):Tryz.l2 96 [.ptr p 0] h=some (.bool bad,h):=by
 obtain ⟨buf,hw,_,_⟩:=w
 refine Tryz.en (n:=1) (kf:=Tryz.k96) (by kernel_rfl) ?_
 rw [Tryz.k96,enter_eq]
 simp [argsP,kr,bO_mk,kx,lEq,keq,vNil,nilV,vAddr,lLoad,rowCells,hw,kpart,idxX_get,vPick,kfin,kresL,kres,oneS,bB,isB]
theorem Tryz.bad_nil (h:H):Tryz.l2 96 [.nilptr] h=some (.bool true,h):=Tryz.en (n:=1) (kf:=Tryz.k96) (by kernel_rfl) rfl
theorem Tryz.put_nil (h:H) (a b c d:SV):Tryz.l2 95 [.nilptr,a,b,c,d] h=some (.nilptr,h):=by
 refine Tryz.en (n:=1) (kf:=Tryz.k95) (by kernel_rfl) ?_
 rw [Tryz.k95,enter_eq]
 simp [argsP,kr,bO_mk,kx,lEq,keq,kfin,kresL,kres,oneS]
theorem Tryz.u1_nil (h:H) (x:SV):Tryz.l2 36 [.nilptr,x] h=some (.nilptr,h):=by
 refine Tryz.en (n:=1) (kf:=Tryz.k36) (by kernel_rfl) ?_
 rw [Tryz.k36,enter_eq]
 simp [argsP,kr,bO_mk,Tryz.put_nil,kfin,kresL,kres,oneS]
theorem Tryz.u2_nil (h:H) (x:SV):Tryz.l2 39 [.nilptr,x] h=some (.nilptr,h):=by
 refine Tryz.en (n:=1) (kf:=Tryz.k39) (by kernel_rfl) ?_
 rw [Tryz.k39,enter_eq]
 simp [argsP,kr,bO_mk,Tryz.put_nil,kfin,kresL,kres,oneS]
theorem Tryz.clone {h:H} {v:SV} {n:Nat} {cs:List SV} (w:View h 1 v n cs) (hmax:n * 3≤1099511627776) :
  ∃ v' h',Tryz.l2 97 [v] h=some (v',h')∧View h' 1 v' n cs∧Fr (λ _=>False) (λ _=>False) h h'∧(∀ q,isRow v' q→h.next≤q):=by
 obtain ⟨h1,⟨rfl,rfl⟩ | ⟨id,off,cap,all,rfl,h2,h3,h4⟩⟩:=w
 ·refine ⟨.nilslice,h,Tryz.en (n:=1) (kf:=Tryz.k97) (by kernel_rfl) rfl,⟨h1,.inl ⟨rfl,rfl⟩⟩,.refl,λ q hq=>hq.elim⟩
 ·have hid:id < h.next:=by
   unfold rowCells at h2
   split at h2 <;> first | (cases h2;done) | skip
   rename_i e;exact H.get_lt e
  have hrow:rowCells (h.push (.cells [] .fixed)).get h.next=some []:=by
   unfold rowCells;rw [H.get_push,if_pos rfl]
  have w0:View h 1 (.slice id off n 1 cap) n cs:=⟨h1,.inr ⟨id,off,cap,all,rfl,h2,h3,h4⟩⟩
  have w':=w0.keep (Fr.push (o:=.cells [] .fixed) (S:=λ _=>False) (W:=λ _=>False)) λ q _ k=>k
  have run:∀ v' h',kappend (h.push (.cells [] .fixed)) 1 1 n cs (.slice h.next 0 0 1 (some 0))=some (v',h')→Tryz.l2 97 [.slice id off n 1 cap] h=some (v',h'):=λ v' h' e=>by
   refine Tryz.en (n:=1) (kf:=Tryz.k97) (by kernel_rfl) ?_
   rw [Tryz.k97,enter_eq]
   simp [argsP,kr,bO_mk,kx,lEq,keq,sN,aRow,kcat,xL]
   rw [append_view w' e]
   simp [kr,kfin,kresL,kres,oneS,bO_mk]
  by_cases n0:n=0
  ·subst n0
   have hc:cs=[]:=List.eq_nil_of_length_eq_zero (by simpa using h1)
   subst hc
   exact ⟨.slice h.next 0 0 1 (some 0),h.push (.cells [] .fixed),run _ _ rfl,⟨rfl,.inr ⟨h.next,0,some 0,[],rfl,hrow,rfl,λ c q=>by cases q;exact Nat.le_refl _⟩⟩,.push,λ q hq=>by rw [show q=h.next from hq];exact Nat.le_refl _⟩
  ·refine ⟨.slice (h.next+1) 0 n 1 none,(h.push (.cells [] .fixed)).push (.cells cs (.grown none)),run _ _ ?_,⟨h1,.inr ⟨h.next+1,0,none,cs,rfl,?_,?_,λ c q=>by cases q⟩⟩,Fr.push.trans .push,λ q hq=>by rw [show q=h.next+1 from hq];exact Nat.le_succ _⟩
   ·have e2:(Nat.ble ((0+n) * (1+1+1)) 1099511627776&&Nat.beq 1 1)=true:=by
     rw [Nat.ble_eq_true_of_le (by omega)];rfl
    show bB _ (appendKnown (h.push (.cells [] .fixed)) h.next 0 0 1 0 n cs) none=_
    rw [e2]
    show appendKnown (h.push (.cells [] .fixed)) h.next 0 0 1 0 n cs=_
    unfold appendKnown
    rw [if_neg (by omega),hrow]
    simp [takeCells]
   ·unfold rowCells;rw [H.get_push,if_pos (by simp)]
   ·unfold takeCells
    rw [if_pos (by omega),List.drop_zero,← h1,List.take_length]
theorem Tryz.bytes_nil (h:H):Tryz.l2 40 [.nilptr] h=some (.nilslice,h):=by
 refine Tryz.en (n:=1) (kf:=Tryz.k40) (by kernel_rfl) ?_
 rw [Tryz.k40,enter_eq]
 simp [argsP,kr,bO_mk,kx,Tryz.bad_nil,kfin,kresL,kres,oneS]
theorem Tryz.bytes {p:Nat} {h:H} {bad:Bool} {n:Nat} {cs:List SV} (w:Wr h p bad n cs) (hmax:n * 3≤1099511627776) :
  ∃ v' h',Tryz.l2 40 [.ptr p 0] h=some (v',h')∧View h' 1 v' (if bad then 0 else n) (if bad then [] else cs)∧Fr (λ _=>False) (λ _=>False) h h'∧(∀ q,isRow v' q→h.next≤q):=by
 have hbad:=Tryz.bad w
 obtain ⟨buf,hw,hb,_⟩:=w
 cases bad
 ·obtain ⟨v',h',k1,k2,k3,k4⟩:=Tryz.clone hb.view hmax
  refine ⟨v',h',Tryz.en (n:=1) (kf:=Tryz.k40) (by kernel_rfl) ?_,k2,k3,k4⟩
  rw [Tryz.k40,enter_eq]
  simp [argsP,kr,bO_mk,kx,hbad,vNil,nilV,vAddr,lLoad,rowCells,hw,kpart,idxX_get,k1,kfin,kresL,kres,oneS]
 ·refine ⟨.nilslice,h,Tryz.en (n:=1) (kf:=Tryz.k40) (by kernel_rfl) ?_,⟨rfl,.inl ⟨rfl,rfl⟩⟩,.refl,λ q hq=>hq.elim⟩
  rw [Tryz.k40,enter_eq]
  simp [argsP,kr,bO_mk,kx,hbad,kfin,kresL,kres,oneS]
end
end Go.Proofs
end
section
/- Bytes: the contracts of the reader. -/
namespace Go.Proofs
open Go.Sh
attribute [local instance] powHeld
noncomputable section
structure Rdr (h:H) (p n:Nat) (cs:List SV) (at':Nat) (failed:Bool) (b:SV):Prop where
 row:h.get p=some (.cells [b,.int .i64 at',.bool failed] .fixed)
 view:View h 1 b n cs
 apart:∀ q,isRow b q→q≠p
 here:at'≤n
 small:n≤1099511627776
theorem Rdr.keep {h h':H} {p n a:Nat} {f:Bool} {cs:List SV} {b:SV} {S W:Nat→Prop} (r:Rdr h p n cs a f b) (k:Fr S W h h') (hp:¬S p) (hn:∀ q,isRow b q→¬S q):Rdr h' p n cs a f b:=
 ⟨k.get r.row hp,r.view.keep k hn,r.apart,r.here,r.small⟩
theorem Tryz.at {h:H} {p n a:Nat} {f:Bool} {cs:List SV} {b:SV} (r:Rdr h p n cs a f b):Tryz.l2 99 [.ptr p 0] h=some (.int .i64 a,h):=by
 refine Tryz.en (n:=1) (kf:=Tryz.k99) (by kernel_rfl) ?_
 rw [Tryz.k99,enter_eq]
 simp [argsP,kr,bO_mk,kx,lEq,keq,vNil,nilV,vAddr,lLoad,rowCells,r.row,kpart,idxX_get,kfin,kresL,kres,oneS]
theorem Tryz.left {h:H} {p n a:Nat} {f:Bool} {cs:List SV} {b:SV} (r:Rdr h p n cs a f b):Tryz.l2 46 [.ptr p 0] h=some (.int .i64 (if f then 0 else (n:Int) - a),h):=by
 have e1:wrapS .i64 ((n:Int) - a)=(n:Int) - a:=by
  have:=r.here;have:=r.small
  rw [wrapS_eq];exact wrap_i64 (by omega) (by omega)
 refine Tryz.en (n:=1) (kf:=Tryz.k46) (by kernel_rfl) ?_
 rw [Tryz.k46,enter_eq]
 cases f
 ·simp [argsP,kr,bO_mk,kx,lEq,keq,vNil,nilV,vAddr,lLoad,rowCells,r.row,kpart,idxX_get,kfin,kresL,kres,oneS,isB,bB,vPick,vLen,r.view.length,vSub,i2,e1]
 ·simp [argsP,kr,bO_mk,kx,lEq,keq,vNil,nilV,vAddr,lLoad,rowCells,r.row,kpart,idxX_get,kfin,kresL,kres,oneS,isB,bB,vPick]
theorem Tryz.take_failed {h:H} {p n a:Nat} {cs:List SV} {b:SV} (r:Rdr h p n cs a true b) (m g:Int):Tryz.l2 100 [.ptr p 0,.int .i64 m,.int .i64 g] h=some (.tuple [.nilslice,.bool false],h):=by
 refine Tryz.en (n:=2) (kf:=Tryz.k100) (by kernel_rfl) ?_
 rw [Tryz.k100,enter_eq]
 simp [argsP,kr,bO_mk,kx,lEq,keq,vNil,nilV,vAddr,lLoad,rowCells,r.row,kpart,idxX_get,isB,bB,vPick,scope_succ,kj,behind,kfin,kresL,kres,oneS]
theorem Tryz.take_short {h:H} {p n a:Nat} {cs:List SV} {b:SV} (r:Rdr h p n cs a false b) (m g:Nat) (hm:n < a+m) (hg:g≤n) :
  ∃ h',Tryz.l2 100 [.ptr p 0,.int .i64 m,.int .i64 g] h=some (.tuple [.nilslice,.bool false],h')∧Rdr h' p n cs g true b∧Fr (·=p) (·=p) h h':=by
 have e1:wrapS .i64 ((n:Int) - a)=(n:Int) - a:=by
  have:=r.here;have:=r.small
  rw [wrapS_eq];exact wrap_i64 (by omega) (by omega)
 have e2:ltI ((n:Int) - a) m=true:=by rw [ltI_eq];simp;omega
 have hst:=λ t=>store_fixed r.row 2 (.bool true) t (by simp) rfl
 have hg1:=get_put_self (o:=.cells [b,.int .i64 a,.bool true] .fixed) r.row
 have hst2:=λ t=>store_fixed hg1 1 (.int .i64 g) t (by simp) rfl
 have hg2:=get_put_self (o:=.cells [b,.int .i64 g,.bool true] .fixed) hg1
 have f1:=(Fr.put (o:=.cells [b,.int .i64 a,.bool true] .fixed) (H.get_lt r.row)).trans (Fr.put (o:=.cells [b,.int .i64 g,.bool true] .fixed) (H.get_lt hg1))
 refine ⟨_,Tryz.en (n:=2) (kf:=Tryz.k100) (by kernel_rfl) ?_,⟨hg2,r.view.keep f1 r.apart,r.apart,hg,r.small⟩,f1⟩
 rw [Tryz.k100,enter_eq]
 simp [argsP,kr,bO_mk,kx,lEq,keq,vNil,nilV,vAddr,lLoad,rowCells,r.row,kpart,idxX_get,isB,bB,vPick,scope_succ,kj,behind,kfin,kresL,kres,oneS,vLen,r.view.length,vSub,vGt,i2,e1,e2,hst,hst2]
theorem Tryz.take_ok {h:H} {p n a:Nat} {cs:List SV} {b:SV} (r:Rdr h p n cs a false b) (m:Nat) (g:Int) (hm:a+m≤n) :
  ∃ v h',Tryz.l2 100 [.ptr p 0,.int .i64 m,.int .i64 g] h=some (.tuple [v,.bool true],h')∧Rdr h' p n cs (a+m) false b∧View h' 1 v m ((cs.drop a).take m)∧Fr (·=p) (·=p) h h':=by
 have hs:=r.small
 have e1:wrapS .i64 ((n:Int) - a)=(n:Int) - a:=by
  rw [wrapS_eq];exact wrap_i64 (by omega) (by omega)
 have e2:ltI ((n:Int) - a) m=false:=by rw [ltI_eq];simp;omega
 have e3:wrapS .i64 ((a:Int)+m)=((a+m:Nat):Int):=by
  rw [wrapS_eq,Int.natCast_add];exact wrap_i64 (by omega) (by omega)
 obtain ⟨v,k1,k2,k3⟩:=r.view.slice a (a+m) (by omega) hm
 have hst:=λ t=>store_fixed r.row 1 (.int .i64 ((a+m:Nat):Int)) t (by simp) rfl
 have hg1:=get_put_self (o:=.cells [b,.int .i64 ((a+m:Nat):Int),.bool false] .fixed) r.row
 have f1:=Fr.put (o:=.cells [b,.int .i64 ((a+m:Nat):Int),.bool false] .fixed) (H.get_lt r.row)
 refine ⟨v,_,Tryz.en (n:=2) (kf:=Tryz.k100) (by kernel_rfl) ?_,⟨hg1,r.view.keep f1 r.apart,r.apart,hm,r.small⟩,?_,f1⟩
 ·rw [Tryz.k100,enter_eq]
  simp [argsP,kr,bO_mk,kx,lEq,keq,vNil,nilV,vAddr,lLoad,rowCells,r.row,kpart,idxX_get,isB,bB,vPick,scope_succ,kj,behind,kfin,kresL,kres,oneS,vLen,r.view.length,vSub,vGt,vAdd,i2,e1,e2,e3,vSlice,xL,k1,hst,-Int.natCast_add]
 ·have:=k2.keep f1 λ q hq=>r.apart q (k3 q hq)
  simpa [Nat.add_sub_cancel_left] using this
end
end Go.Proofs
end
section
/- Bytes: numbers and texts that are read. -/
namespace Go.Sh
theorem intN_nat (i:Nat):intN (i:Int)=some i:=rfl
theorem View.load {h:H} {n:Nat} {v:SV} {cs:List SV} (w:View h 1 v n cs) {i:Nat} (hi:i < n):∃ p,atIdx 1 i v=some p∧∀ t,lLoad none (xC p) h.get t=cs[i]?:=by
 obtain ⟨h1,⟨rfl,rfl⟩ | ⟨id,off,cap,all,rfl,h2,h3,h4⟩⟩:=w
 ·omega
 ·refine ⟨.ptr id (off+i * 1),?_,λ t=>?_⟩
  ·show bB (Nat.blt i n) _ _=_
   rw [show Nat.blt i n=true from Nat.ble_eq_true_of_le hi];rfl
  ·show bO (rowCells h.get id) (λ cs=>idxX (off+i * 1) cs)=_
   rw [h2]
   show idxX (off+i * 1) all=_
   rw [idxX_get]
   unfold takeCells at h3
   split at h3
   ·cases h3
    rw [List.getElem?_take_of_lt (by omega),List.getElem?_drop,Nat.mul_one]
   ·cases h3
end Go.Sh
namespace Go.Proofs
open Go.Sh
attribute [local instance] powHeld
noncomputable section
def nstep (v z:Int):Int:=IntKind.i64.wrap (BitVec.ofInt 64 (IntKind.i64.wrap (v * 256)) ||| BitVec.ofInt 64 (IntKind.i64.wrap z)).toNat
def u8z (zs:List Int):List SV:=zs.map λ z=>.int .u8 z
theorem Tryz.num_loop {h:H} {v:SV} {m:Nat} {zs:List Int} (w:View h 1 v m (u8z zs)) (hm:m≤1099511627776) (c:CF):∀ (j i k:Nat) (acc:Int) (t:T),i+j=m→j < k→getP (way 17) t=some v→getP (way 18) t=some (.int .i64 m)→getP (way 19) t=some (.int .i64 i)→getP (way 4) t=some (.int .i64 acc) →
  Gets (cLoop Tryz.l98_0 k c t h) λ fl t' h'=>fl=.exit 0∧h'=h∧getP (way 4) t'=some (.int .i64 ((zs.drop i).foldl nstep acc)):=by
 have hz:zs.length=m:=by have:=w.1;simpa [u8z] using this
 intro j
 induction j with
 | zero=>
  intro i k acc t hi hk h17 h18 h19 h4
  obtain ⟨k,rfl⟩:∃ m,k=m+1:=⟨k - 1,by omega⟩
  rw [loop_succ]
  generalize (λ t h=>cLoop Tryz.l98_0 k c t h)=L
  unfold Tryz.l98_0
  have e1:ltI (i:Int) m=false:=by rw [ltI_eq];simp;omega
  simp [kr,bO_mk,vLt,i2,kx,h17,h18,h19,h4,e1,gets_some]
  rw [List.drop_eq_nil_of_le (by omega)]
  rfl
 | succ j ih=>
  intro i k acc t hi hk h17 h18 h19 h4
  obtain ⟨k,rfl⟩:∃ m,k=m+1:=⟨k - 1,by omega⟩
  rw [loop_succ]
  generalize hL:(λ t h=>cLoop Tryz.l98_0 k c t h)=L
  unfold Tryz.l98_0
  have e1:ltI (i:Int) m=true:=by rw [ltI_eq];simp;omega
  obtain ⟨p,k1,k2⟩:=w.load (i:=i) (by omega)
  obtain ⟨z,hzi⟩:∃ z,zs[i]?=some z:=⟨zs[i]'(by omega),List.getElem?_eq_getElem (by omega)⟩
  have k3:∀ t,lLoad none (xC p) h.get t=some (.int .u8 z):=λ t=>by rw [k2];simp [u8z,hzi]
  have e2:IntKind.i64.wrap ((i:Int)+1)=((i+1:Nat):Int):=by
   rw [Int.natCast_add];exact wrap_i64 (by omega) (by omega)
  have e3:shiftInt .shl .i64 acc 8=some (IntKind.i64.wrap (acc * 256)):=rfl
  have e4:arithInt .or .i64 (IntKind.i64.wrap (acc * 256)) (IntKind.i64.wrap z)=some (nstep acc z):=rfl
  simp [kr,bO_mk,vLt,vIdx,vSh,vToI,vAr,vAdd,i2,kx,h17,h18,h19,h4,e1,e2,e3,e4,intN_nat,k1,k3,wrapS_eq,-Int.natCast_add]
  rw [← hL]
  refine Gets.mono (ih (i+1) k (nstep acc z) _ (by omega) (by omega) ?_ ?_ ?_ ?_) λ fl t' h' ⟨b1,b2,b3⟩=>⟨b1,b2,?_⟩
  ·simp [kr,h17]
  ·simp [kr,h18]
  ·simp [kr,-Int.natCast_add]
  ·simp [kr]
  ·rw [b3,List.drop_eq_getElem_cons (by omega:i < zs.length)]
   rw [List.getElem?_eq_getElem (by omega)] at hzi
   cases hzi
   rfl
theorem Tryz.num_failed {h:H} {p n a:Nat} {cs:List SV} {b:SV} (r:Rdr h p n cs a true b) (m:Int):Tryz.l2 98 [.ptr p 0,.int .i64 m] h=some (.int .i64 0,h):=by
 refine Tryz.en (n:=2) (kf:=Tryz.k98) (by kernel_rfl) ?_
 rw [Tryz.k98,enter_eq]
 have e0:∀ k,Gets (cLoop Tryz.l98_0 (k+1) Tryz.l2 (setP (way 19) (.int .i64 0) (setP (way 18) (.int .i64 0) (setP (way 17) .nilslice (setP (way 5) .nilslice (setP (way 4) (.int .i64 0) (setP (way 1) (.int .i64 m) (setP (way 0) (.ptr p 0) .leaf))))))) h) λ fl t' h'=>fl=.exit 0∧h'=h∧getP (way 4) t'=some (.int .i64 0):=λ k=>
  Gets.mono (Tryz.num_loop (v:=.nilslice) (m:=0) (zs:=[]) ⟨rfl,.inl ⟨rfl,rfl⟩⟩ (by omega) Tryz.l2 0 0 (k+1) 0 _ rfl (by omega) (by simp [kr]) (by simp [kr]) (by simp [kr]) (by simp [kr])) λ _ _ _ q=>q
 simp [argsP,kr,bO_mk,Tryz.at r,Tryz.take_failed r,vExtract,vLen,lenV]
 obtain ⟨v,h',k1,rfl,k2⟩:=gets_fin (rs:=[.tmp (way 4)]) (Q:=λ v h'=>v=.int .i64 0∧h'=h) (gets_next (k:=cSeq (cOps (oLet (sV (xW 4)) λ v29=>oSet 4 (sV (xC v29)) λ v4=>oEnd)) cRet 2 Tryz.l2) (gets_leave (id:=0) (Gets.mono (e0 1) λ fl t' h' ⟨b1,b2,b3⟩=>by
  subst b1 b2
  simp [kr,bO_mk,gets_some,b3,kresL,kres,oneS])))
 subst k2
 exact k1
theorem Tryz.num_short {h:H} {p n a:Nat} {cs:List SV} {b:SV} (r:Rdr h p n cs a false b) (m:Nat) (hm:n < a+m) :
  ∃ h',Tryz.l2 98 [.ptr p 0,.int .i64 m] h=some (.int .i64 0,h')∧Rdr h' p n cs a true b∧Fr (·=p) (·=p) h h':=by
 obtain ⟨h',k1,k2,k3⟩:=Tryz.take_short r m a hm r.here
 refine ⟨h',Tryz.en (n:=2) (kf:=Tryz.k98) (by kernel_rfl) ?_,k2,k3⟩
 rw [Tryz.k98,enter_eq]
 have e0:∀ k,Gets (cLoop Tryz.l98_0 (k+1) Tryz.l2 (setP (way 19) (.int .i64 0) (setP (way 18) (.int .i64 0) (setP (way 17) .nilslice (setP (way 5) .nilslice (setP (way 4) (.int .i64 0) (setP (way 1) (.int .i64 m) (setP (way 0) (.ptr p 0) .leaf))))))) h') λ fl t' h''=>fl=.exit 0∧h''=h'∧getP (way 4) t'=some (.int .i64 0):=λ k=>
  Gets.mono (Tryz.num_loop (v:=.nilslice) (m:=0) (zs:=[]) ⟨rfl,.inl ⟨rfl,rfl⟩⟩ (by omega) Tryz.l2 0 0 (k+1) 0 _ rfl (by omega) (by simp [kr]) (by simp [kr]) (by simp [kr]) (by simp [kr])) λ _ _ _ q=>q
 simp [argsP,kr,bO_mk,Tryz.at r,k1,vExtract,vLen,lenV]
 obtain ⟨v,h'',k1,rfl,k2⟩:=gets_fin (rs:=[.tmp (way 4)]) (Q:=λ v h''=>v=.int .i64 0∧h''=h') (gets_next (k:=cSeq (cOps (oLet (sV (xW 4)) λ v29=>oSet 4 (sV (xC v29)) λ v4=>oEnd)) cRet 2 Tryz.l2) (gets_leave (id:=0) (Gets.mono (e0 1) λ fl t' h' ⟨b1,b2,b3⟩=>by
  subst b1 b2
  simp [kr,bO_mk,gets_some,b3,kresL,kres,oneS])))
 subst k2
 exact k1
theorem Tryz.num_ok {h:H} {p n a:Nat} {zs:List Int} {b:SV} (r:Rdr h p n (u8z zs) a false b) (m:Nat) (hm:a+m≤n) :
  ∃ h',Tryz.l2 98 [.ptr p 0,.int .i64 m] h=some (.int .i64 (((zs.drop a).take m).foldl nstep 0),h')∧Rdr h' p n (u8z zs) (a+m) false b∧Fr (·=p) (·=p) h h':=by
 obtain ⟨v,h',k1,k2,k3,k4⟩:=Tryz.take_ok r m a hm
 have k3:View h' 1 v m (u8z ((zs.drop a).take m)):=by simpa [u8z,List.map_take,List.map_drop] using k3
 have hs:=r.small
 refine ⟨h',Tryz.en (n:=m+2) (kf:=Tryz.k98) (by kernel_rfl) ?_,k2,k4⟩
 rw [Tryz.k98,enter_eq]
 have e0:Gets (cLoop Tryz.l98_0 (m+2) Tryz.l2 (setP (way 19) (.int .i64 0) (setP (way 18) (.int .i64 m) (setP (way 17) v (setP (way 5) v (setP (way 4) (.int .i64 0) (setP (way 1) (.int .i64 m) (setP (way 0) (.ptr p 0) .leaf))))))) h') λ fl t' h''=>fl=.exit 0∧h''=h'∧getP (way 4) t'=some (.int .i64 (((zs.drop a).take m).foldl nstep 0)):=
  Gets.mono (Tryz.num_loop k3 (by omega) Tryz.l2 m 0 (m+2) 0 _ (by omega) (by omega) (by simp [kr]) (by simp [kr]) (by simp [kr]) (by simp [kr])) λ _ _ _ q=>q
 simp [argsP,kr,bO_mk,Tryz.at r,k1,vExtract,vLen,k3.length]
 obtain ⟨v',h'',q1,rfl,q2⟩:=gets_fin (rs:=[.tmp (way 4)]) (Q:=λ v h''=>v=.int .i64 (((zs.drop a).take m).foldl nstep 0)∧h''=h') (gets_next (k:=cSeq (cOps (oLet (sV (xW 4)) λ v29=>oSet 4 (sV (xC v29)) λ v4=>oEnd)) cRet (m+2) Tryz.l2) (gets_leave (id:=0) (Gets.mono e0 λ fl t' h' ⟨b1,b2,b3⟩=>by
  subst b1 b2
  simp [kr,bO_mk,gets_some,b3,kresL,kres,oneS])))
 subst q2
 exact q1
end
end Go.Proofs
end
section
/- Bytes: the reader's methods. -/
namespace Go.Proofs
open Go.Sh
attribute [local instance] powHeld
noncomputable section
theorem nstep_eq {v z:Int} (hv:0≤v) (hv':v < 1099511627776) (hz:0≤z) (hz':z < 256):nstep v z=v * 256+z:=by
 obtain ⟨a,rfl⟩:∃ a:Nat,v=a:=⟨v.toNat,by omega⟩
 obtain ⟨b,rfl⟩:∃ b:Nat,z=b:=⟨z.toNat,by omega⟩
 have w1:IntKind.i64.wrap ((a:Int) * 256)=((a * 256:Nat):Int):=by rw [Int.natCast_mul];exact wrap_i64 (by omega) (by omega)
 have w2:IntKind.i64.wrap (b:Int)=(b:Int):=wrap_i64 (by omega) (by omega)
 unfold nstep
 rw [w1,w2]
 have e:(BitVec.ofInt 64 ((a * 256:Nat):Int) ||| BitVec.ofInt 64 (b:Int)).toNat=a * 256+b:=by
  have e1:∀ x:Nat,BitVec.ofInt 64 (x:Int)=BitVec.ofNat 64 x:=λ x=>BitVec.ofInt_natCast ..
  rw [e1,e1,BitVec.toNat_or,BitVec.toNat_ofNat,BitVec.toNat_ofNat,Nat.mod_eq_of_lt (by omega),Nat.mod_eq_of_lt (by omega)]
  have h:=Nat.shiftLeft_add_eq_or_of_lt (i:=8) (b:=b) (by omega) a
  rw [Nat.shiftLeft_eq] at h
  exact h.symm
 rw [e]
 have:=wrap_i64 (x:=((a * 256+b:Nat):Int)) (by omega) (by omega)
 rw [this];omega
def numAt (zs:List Int) (a m:Nat):Int:=((zs.drop a).take m).foldl nstep 0
def fits (n a:Nat) (f:Bool) (m:Nat):Bool:=!f&&decide (a+m≤n)
theorem Tryz.num {h:H} {p n a:Nat} {f:Bool} {zs:List Int} {b:SV} (r:Rdr h p n (u8z zs) a f b) (m:Nat) :
  ∃ h',Tryz.l2 98 [.ptr p 0,.int .i64 m] h=some (.int .i64 (if fits n a f m then numAt zs a m else 0),h')∧Rdr h' p n (u8z zs) (if fits n a f m then a+m else a) (!fits n a f m) b∧Fr (·=p) (·=p) h h':=by
 cases f
 ·by_cases hm:a+m≤n
  ·obtain ⟨h',k1,k2,k3⟩:=Tryz.num_ok r m hm
   exact ⟨h',by simpa [fits,hm,numAt] using k1,by simpa [fits,hm] using k2,k3⟩
  ·obtain ⟨h',k1,k2,k3⟩:=Tryz.num_short r m (by omega)
   exact ⟨h',by simpa [fits,hm] using k1,by simpa [fits,hm] using k2,k3⟩
 ·exact ⟨h,by simpa [fits] using Tryz.num_failed r m,by simpa [fits] using r,.refl⟩
theorem Tryz.ru1 {h:H} {p n a:Nat} {f:Bool} {zs:List Int} {b:SV} (r:Rdr h p n (u8z zs) a f b) :
  ∃ h',Tryz.l2 42 [.ptr p 0] h=some (.int .i64 (if fits n a f 1 then numAt zs a 1 else 0),h')∧Rdr h' p n (u8z zs) (if fits n a f 1 then a+1 else a) (!fits n a f 1) b∧Fr (·=p) (·=p) h h':=by
 obtain ⟨h',k1,k2⟩:=Tryz.num r 1
 refine ⟨h',Tryz.en (n:=1) (kf:=Tryz.k42) (by kernel_rfl) ?_,k2⟩
 have k1:Tryz.l2 98 [.ptr p 0,.int .i64 1] h=some (.int .i64 (if fits n a f 1 then numAt zs a 1 else 0),h'):=k1
 rw [Tryz.k42,enter_eq]
 simp [argsP,kr,bO_mk,k1,kfin,kresL,kres,oneS]
theorem Tryz.ru2 {h:H} {p n a:Nat} {f:Bool} {zs:List Int} {b:SV} (r:Rdr h p n (u8z zs) a f b) :
  ∃ h',Tryz.l2 48 [.ptr p 0] h=some (.int .i64 (if fits n a f 2 then numAt zs a 2 else 0),h')∧Rdr h' p n (u8z zs) (if fits n a f 2 then a+2 else a) (!fits n a f 2) b∧Fr (·=p) (·=p) h h':=by
 obtain ⟨h',k1,k2⟩:=Tryz.num r 2
 refine ⟨h',Tryz.en (n:=1) (kf:=Tryz.k48) (by kernel_rfl) ?_,k2⟩
 have k1:Tryz.l2 98 [.ptr p 0,.int .i64 2] h=some (.int .i64 (if fits n a f 2 then numAt zs a 2 else 0),h'):=k1
 rw [Tryz.k48,enter_eq]
 simp [argsP,kr,bO_mk,k1,kfin,kresL,kres,oneS]
theorem Tryz.err {h:H} {p n a:Nat} {f:Bool} {cs:List SV} {b:SV} (r:Rdr h p n cs a f b) :
  Tryz.l2 101 [.ptr p 0] h=some (.tuple [.int .i64 (if f then 2 else 0),.int .i64 (if f then (a:Int) else 0)],h):=by
 refine Tryz.en (n:=1) (kf:=Tryz.k101) (by kernel_rfl) ?_
 rw [Tryz.k101,enter_eq]
 cases f
 ·simp [argsP,kr,bO_mk,kx,lEq,keq,vNil,nilV,vAddr,lLoad,rowCells,r.row,kpart,idxX_get,isB,bB,vPick,vUn,unS,kfin,kresL,kres,oneS]
 ·simp [argsP,kr,bO_mk,kx,lEq,keq,vNil,nilV,vAddr,lLoad,rowCells,r.row,kpart,idxX_get,isB,bB,vPick,vUn,unS,kfin,kresL,kres,oneS]
theorem Tryz.newReader {h:H} {v:SV} {n:Nat} {cs:List SV} (w:View h 1 v n cs) (hmax:n * 3≤1099511627776) :
  ∃ p h' b,Tryz.l2 41 [v] h=some (.ptr p 0,h')∧Rdr h' p n cs 0 false b∧Fr (λ _=>False) (λ _=>False) h h'∧h.next≤p∧(∀ q,isRow b q→h.next≤q):=by
 obtain ⟨b,h1,k1,k2,k3,k4⟩:=Tryz.clone w hmax
 have hb:∀ q,isRow b q→q < h1.next:=λ q hq=>by
  obtain ⟨_,⟨rfl,_⟩ | ⟨id,off,cap,all,rfl,e,_⟩⟩:=k2
  ·exact hq.elim
  ·rw [show q=id from hq];exact rowCells_lt e
 refine ⟨h1.next,h1.push (.cells [b,.int .i64 0,.bool false] .fixed),b,Tryz.en (n:=1) (kf:=Tryz.k41) (by kernel_rfl) ?_,⟨by rw [H.get_push,if_pos rfl];rfl,k2.keep (Fr.push (S:=λ _=>False) (W:=λ _=>False)) (λ q _ k=>k),λ q hq=>Nat.ne_of_lt (hb q hq),Nat.zero_le _,by omega⟩,k3.trans .push,k3.next,k4⟩
 have hc:b.cells?=some [b]:=by
  obtain ⟨_,⟨rfl,_⟩ | ⟨id,off,cap,all,rfl,e,_⟩⟩:=k2 <;> rfl
 have e:kfillV [.nilslice,.int .i64 0,.bool false] [(0,1)] [b]=some [b,.int .i64 0,.bool false]:=by
  simp [kfillV,fillS,fillAsc,hc,List.range,List.range.loop]
 rw [Tryz.k41,enter_eq]
 simp [argsP,kr,bO_mk,kx,k1,vFill,xL,e,sN,aBox,SV.cells?,kfin,kresL,kres,oneS]
end
end Go.Proofs
end
section
/- Bytes: texts. -/
namespace Go.Proofs
open Go.Sh
attribute [local instance] powHeld
noncomputable section
def bytesZ (zs:List Int):List UInt8:=zs.map λ z=>UInt8.ofNat z.toNat
theorem bytesOf_u8z:∀ zs:List Int,bytesOf (u8z zs)=some (bytesZ zs)
 | []=>rfl
 | z::zs=>by
  show (bytesOf (u8z zs)).map (UInt8.ofNat z.toNat::·)=_
  rw [bytesOf_u8z zs];rfl
theorem View.str {h:H} {n:Nat} {v:SV} {zs:List Int} (w:View h 1 v n (u8z zs)):strOf h.get v=some (.str (bytesZ zs)):=by
 obtain ⟨h1,⟨rfl,rfl⟩ | ⟨id,off,cap,all,rfl,h2,h3,h4⟩⟩:=w
 ·have:zs=[]:=List.eq_nil_of_length_eq_zero (by simpa [u8z] using h1)
  subst this;rfl
 ·show bO (rowCells h.get id) (λ cs=>bO (dropX off cs) λ r=>bO (takeX n r) λ l=>bO (bytesOf l) λ b=>some (SV.str b))=_
  rw [h2]
  unfold takeCells at h3
  split at h3
  ·rename_i hle
   have h3:=Option.some.inj h3
   rw [Nat.mul_one] at h3 hle
   show bO (dropX off all) _=_
   rw [dropX_eq,if_pos (by omega)]
   show bO (takeX n (all.drop off)) _=_
   rw [takeX_eq,if_pos (by rw [List.length_drop];omega),h3]
   show bO (bytesOf (u8z zs)) _=_
   rw [bytesOf_u8z];rfl
  ·cases h3
def lenAt (zs:List Int) (a:Nat):Nat:=(numAt zs a 2).toNat
def textFits (zs:List Int) (n a:Nat) (f:Bool):Bool:=fits n a f 2&&decide (a+2+lenAt zs a≤n)
theorem Tryz.rtext {h:H} {p n a:Nat} {f:Bool} {zs:List Int} {b:SV} (r:Rdr h p n (u8z zs) a f b) (hz:0≤numAt zs a 2) :
  ∃ h',Tryz.l2 43 [.ptr p 0] h=some (.str (if textFits zs n a f then bytesZ ((zs.drop (a+2)).take (lenAt zs a)) else []),h')∧Rdr h' p n (u8z zs) (if textFits zs n a f then a+2+lenAt zs a else a) (!textFits zs n a f) b∧Fr (·=p) (·=p) h h':=by
 obtain ⟨h1,k1,k2,k3⟩:=Tryz.ru2 r
 have hat:=Tryz.at r
 have run:∀ v c h2,Tryz.l2 100 [.ptr p 0,.int .i64 (if fits n a f 2 then numAt zs a 2 else 0),.int .i64 a] h1=some (.tuple [v,c],h2)→∀ s,strOf h2.get v=some (.str s)→Tryz.l2 43 [.ptr p 0] h=some (.str s,h2):=λ v c h2 e s es=>by
  refine Tryz.en (n:=1) (kf:=Tryz.k43) (by kernel_rfl) ?_
  rw [Tryz.k43,enter_eq]
  simp [argsP,kr,bO_mk,hat,k1,e,vExtract,lToStr,es,kfin,kresL,kres,oneS]
 cases hf:fits n a f 2
 ·rw [hf] at k2 run
  refine ⟨h1,by simpa [textFits,hf] using run .nilslice (.bool false) h1 (by simpa using Tryz.take_failed k2 0 a) [] rfl,by simpa [textFits,hf] using k2,k3⟩
 ·rw [hf] at k2 run
  have e:numAt zs a 2=(lenAt zs a:Int):=by unfold lenAt;omega
  by_cases hm:a+2+lenAt zs a≤n
  ·obtain ⟨v,h2,q1,q2,q3,q4⟩:=Tryz.take_ok (by simpa using k2) (lenAt zs a) a hm
   have q3:View h2 1 v (lenAt zs a) (u8z ((zs.drop (a+2)).take (lenAt zs a))):=by simpa [u8z,List.map_take,List.map_drop] using q3
   refine ⟨h2,by simpa [textFits,hf,hm] using run v (.bool true) h2 (by simpa [e] using q1) _ (View.str q3),by simpa [textFits,hf,hm] using q2,k3.trans q4⟩
  ·obtain ⟨h2,q1,q2,q3⟩:=Tryz.take_short (by simpa using k2) (lenAt zs a) a (by omega) (by have:=k2.here;have:=r.here;omega)
   refine ⟨h2,by simpa [textFits,hf,hm] using run .nilslice (.bool false) h2 (by simpa [e] using q1) [] rfl,by simpa [textFits,hf,hm] using q2,k3.trans q3⟩
end
end Go.Proofs
end
section
/- Bytes: a text that is written. -/
namespace Go.Proofs
open Go.Sh
attribute [local instance] powHeld
noncomputable section
theorem append_str {h h':H} {bytes:Nat} {s v':SV} {b:List UInt8} (e:kappend h bytes 1 b.length (u8s b) s=some (v',h')) (t:T):tAppend bytes 1 (xC s) (xC (.str b)) h t=some (v',h'):=by
 have e1:srcCells h.get 1 b.length (.str b)=some (u8s b):=by
  show (if Nat.beq 1 1=true then some ((b.take b.length).map λ c=>SV.int .u8 c.toNat) else none)=_
  rw [if_pos (by decide),List.take_length];rfl
 show bO (srcCells h.get 1 b.length (.str b)) (λ new=>kappend h bytes 1 b.length new s)=_
 rw [e1];exact e
theorem Tryz.wtext_nil (h:H) (s:List UInt8):Tryz.l2 38 [.nilptr,.str s] h=some (.nilptr,h):=by
 refine Tryz.en (n:=1) (kf:=Tryz.k38) (by kernel_rfl) ?_
 rw [Tryz.k38,enter_eq]
 simp [argsP,kr,bO_mk,kx,vLenS,Tryz.u2_nil,lNe,keq,isB,bB,vPick,kfin,kresL,kres,oneS]
theorem Tryz.wtext {p:Nat} {s:List UInt8} {h:H} {bad:Bool} {n:Nat} {cs:List SV} (hmax:(n+2+s.length) * 3≤1099511627776) (w:Wr h p bad n cs) :
  ∃ h',Tryz.l2 38 [.ptr p 0,.str s] h=some (.ptr p 0,h')∧Fr (wrOwn h p) (·=p) h h'∧Wr h' p (outOf bad s.length 0 65535) (if outOf bad s.length 0 65535 then n else n+2+s.length) (if outOf bad s.length 0 65535 then cs else cs++be 2 s.length++u8s s)∧(∀ q,wrOwn h' p q→wrOwn h p q∨h.next≤q):=by
 obtain ⟨h1,k1,k2,k3,k4⟩:=Tryz.u2 (x:=(s.length:Int)) (by omega) w
 cases hb:outOf bad s.length 0 65535
 ·rw [hb] at k3
  obtain ⟨buf,a1,a2,a3⟩:=k3
  simp only [Bool.false_eq_true,if_false] at a2
  obtain ⟨buf',h2,b1,b2,b3,b4⟩:=a2.append (bytes:=1) s.length (u8s s) (by omega) (by simp [u8s]) (by omega)
  have a1':h2.get p=some (.cells [buf,.bool false] .fixed):=b3.get a1 λ k=>a3 p k rfl
  have hst:=λ t=>store_fixed a1' 0 buf' t (by simp) (buf_cells b2)
  have hp:=H.get_lt a1'
  have hne:∀ q,isRow buf' q→q≠p:=λ q hq e=>by
   subst e
   rcases b4 _ hq with k | k
   ·exact a3 _ k rfl
   ·exact absurd (H.get_lt a1) (by omega)
  have fin:=get_put_self (o:=.cells [buf',.bool false] .fixed) a1'
  have f2:Fr (wrOwn h p) (·=p) h (h2.put p (.cells [buf',.bool false] .fixed)):=by
   have g:Fr (wrOwn h1 p) (·=p) h1 (h2.put p (.cells [buf',.bool false] .fixed)):=(b3.mono (λ q _ e=>.inr ⟨buf,false,a1,e⟩) (λ q e=>e.elim)).trans ((Fr.put hp).mono (λ q _ e=>.inl e) (λ q e=>.inl e))
   refine ⟨Nat.le_trans k2.next g.next,λ q hq hn=>?_,λ m q1 q2 q3=>g.low m (k2.low m q1 q2 q3) (Nat.le_trans q2 k2.next) q3⟩
   rw [g.keep q (Nat.lt_of_lt_of_le hq k2.next) λ k=>?_,k2.keep q hq hn]
   rcases k4 q k with k | k
   ·exact hn k
   ·omega
  refine ⟨h2.put p (.cells [buf',.bool false] .fixed),Tryz.en (n:=1) (kf:=Tryz.k38) (by kernel_rfl) ?_,f2,⟨buf',fin,by simpa using b2.keep (Fr.put hp) hne,hne⟩,λ q hq=>?_⟩
  ·rw [Tryz.k38,enter_eq]
   simp [argsP,kr,bO_mk,kx,vLenS,k1,lNe,keq,isB,bB,vPick,vNil,nilV,vAddr,lLoad,rowCells,a1,kpart,idxX_get,vUn,unS,append_str b1,hst,kfin,kresL,kres,oneS]
  ·rcases wrOwn_of a1 fin b4 q hq with k | k
   ·exact k4 q k
   ·exact .inr (Nat.le_trans k2.next k)
 ·rw [hb] at k3
  refine ⟨h1,Tryz.en (n:=1) (kf:=Tryz.k38) (by kernel_rfl) ?_,k2,by simpa using k3,k4⟩
  obtain ⟨buf,a1,a2,a3⟩:=k3
  rw [Tryz.k38,enter_eq]
  simp [argsP,kr,bO_mk,kx,vLenS,k1,lNe,keq,isB,bB,vPick,vNil,nilV,vAddr,lLoad,rowCells,a1,kpart,idxX_get,vUn,unS,kfin,kresL,kres,oneS]
end
end Go.Proofs
end
section
/- Bytes: the document's own numbers. -/
namespace Go.Proofs
open Go.Sh
attribute [local instance] powHeld
noncomputable section
theorem wrap_shift (x:Int) (k:Nat) (hk:k+8≤64):IntKind.u8.wrap ((IntKind.u64.wrap x).fdiv (2 ^ k))=IntKind.u8.wrap (x.fdiv (2 ^ k)):=by
 have e1:IntKind.u64.wrap x=x % 18446744073709551616:=by
  unfold IntKind.wrap;simp [IntKind.bits,IntKind.signed]
 have e2:∀ y:Int,IntKind.u8.wrap y=y % 256:=λ y=>by
  unfold IntKind.wrap;simp [IntKind.bits,IntKind.signed]
 rw [e1,e2,e2]
 have hp:(0:Int) < 2 ^ k:=Int.pow_pos (by decide)
 rw [Int.fdiv_eq_ediv_of_nonneg _ (Int.le_of_lt hp),Int.fdiv_eq_ediv_of_nonneg _ (Int.le_of_lt hp)]
 have hd:(18446744073709551616:Int)=2 ^ k * (256 * 2 ^ (56 - k)):=by
  rw [show (256:Int)=2 ^ 8 by decide,← Int.pow_add,← Int.pow_add,show k+(8+(56 - k))=64 by omega];decide
 have h1:x % 18446744073709551616=x - 2 ^ k * (256 * 2 ^ (56 - k)) * (x / 18446744073709551616):=by
  rw [Int.emod_def,← hd]
 rw [h1,show x - 2 ^ k * (256 * 2 ^ (56 - k)) * (x / 18446744073709551616)=x+2 ^ k * (-((256 * 2 ^ (56 - k)) * (x / 18446744073709551616))) by rw [Int.mul_neg,Int.mul_assoc];omega]
 rw [Int.add_mul_ediv_left _ _ (Int.ne_of_gt hp)]
 rw [show x / 2 ^ k+-(256 * 2 ^ (56 - k) * (x / 18446744073709551616))=x / 2 ^ k+256 * (-(2 ^ (56 - k) * (x / 18446744073709551616))) by rw [Int.mul_neg,Int.mul_assoc]]
 rw [Int.add_mul_emod_self_left]
theorem Tryz.u_loop {x:Int} {id s:Nat} (hs:s≤8) (c:CF):∀ (j i k:Nat) (t:T) (h:H),i+j=s→j < k→getP (way 0) t=some (.int .i64 x)→getP (way 1) t=some (.int .i64 s)→getP (way 5) t=some (.slice id 0 s 1 (some s))→getP (way 6) t=some (.int .i64 i) →
  h.get id=some (.cells (List.replicate j (SV.int .u8 0)++be i x) .fixed) →
  Gets (cLoop Tryz.l56_0 k c t h) λ fl t' h'=>fl=.exit 0∧getP (way 5) t'=some (.slice id 0 s 1 (some s))∧h'.get id=some (.cells (be s x) .fixed)∧Fr (·=id) (·=id) h h':=by
 intro j
 induction j with
 | zero=>
  intro i k t h hi hk h0 h1 h5 h6 hg
  obtain ⟨k,rfl⟩:∃ m,k=m+1:=⟨k - 1,by omega⟩
  obtain rfl:i=s:=by omega
  rw [loop_succ]
  generalize (λ t h=>cLoop Tryz.l56_0 k c t h)=L
  unfold Tryz.l56_0
  have e1:ltI (i:Int) i=false:=by rw [ltI_eq];simp
  simp [kr,bO_mk,vLt,i2,kx,h0,h1,h5,h6,e1,gets_some]
  exact ⟨by simpa using hg,.refl⟩
 | succ j ih=>
  intro i k t h hi hk h0 h1 h5 h6 hg
  obtain ⟨k,rfl⟩:∃ m,k=m+1:=⟨k - 1,by omega⟩
  rw [loop_succ]
  generalize hL:(λ t h=>cLoop Tryz.l56_0 k c t h)=L
  unfold Tryz.l56_0
  have e1:ltI (i:Int) s=true:=by rw [ltI_eq];simp;omega
  have e2:IntKind.i64.wrap ((s:Int) - 1)=((s - 1:Nat):Int):=by
   rw [show (s:Int) - 1=((s - 1:Nat):Int) by omega];exact wrap_i64 (by omega) (by omega)
  have e3:IntKind.i64.wrap (((s - 1:Nat):Int) - i)=((j:Nat):Int):=by
   rw [show ((s - 1:Nat):Int) - i=(j:Int) by omega];exact wrap_i64 (by omega) (by omega)
  have e4:IntKind.i64.wrap (8 * (i:Int))=8 * (i:Int):=wrap_i64 (by omega) (by omega)
  have e5:shiftInt .shr .u64 (IntKind.u64.wrap x) (8 * (i:Int))=some ((IntKind.u64.wrap x).fdiv (2 ^ (8 * i))):=by
   unfold shiftInt
   rw [if_neg (by omega)]
   simp only
   have:min (8 * (i:Int)).toNat IntKind.u64.bits=8 * i:=by
    have h64:IntKind.u64.bits=64:=rfl
    rw [h64];omega
   rw [this]
  have e6:IntKind.i64.wrap ((i:Int)+1)=((i+1:Nat):Int):=by
   rw [Int.natCast_add];exact wrap_i64 (by omega) (by omega)
  have e7:=wrap_shift x (8 * i) (by omega)
  have k1:atIdx 1 j (.slice id 0 s 1 (some s))=some (.ptr id j):=by
   show bB (Nat.blt j s) (some (SV.ptr id (0+j * 1))) none=_
   rw [show Nat.blt j s=true from Nat.ble_eq_true_of_le (by omega),Nat.zero_add,Nat.mul_one];rfl
  have hset:(List.replicate (j+1) (SV.int .u8 0)++be i x).set j (.int .u8 (IntKind.u8.wrap (x.fdiv (2 ^ (8 * i)))))=List.replicate j (SV.int .u8 0)++be (i+1) x:=by
   rw [List.replicate_succ',List.append_assoc,List.set_append_right _ _ (by simp)]
   simp [be,wrapS_eq]
  have hst:∀ t,tStore 1 (xC (.ptr id j)) (xC (.int .u8 (IntKind.u8.wrap (x.fdiv (2 ^ (8 * i)))))) h t=some (SV.tuple [],h.put id (.cells (List.replicate j (SV.int .u8 0)++be (i+1) x) .fixed)):=λ t=>by
   rw [← hset];exact store_fixed hg j (.int .u8 (IntKind.u8.wrap (x.fdiv (2 ^ (8 * i))))) t (by simp;omega) rfl
  have hgp:=get_put_self (o:=.cells (List.replicate j (SV.int .u8 0)++be (i+1) x) .fixed) hg
  simp [kr,bO_mk,vLt,vIdx,vSh,vToI,vAdd,vSub,vMul,i2,kx,h0,h1,h5,h6,e1,e2,e3,e4,e5,e6,e7,intN_nat,k1,hst,wrapS_eq,-Int.natCast_add]
  rw [← hL]
  refine Gets.mono (ih (i+1) k _ _ (by omega) (by omega) ?_ ?_ ?_ ?_ ?_) λ fl t' h' ⟨b1,b2,b3,b4⟩=>⟨b1,b2,b3,?_⟩
  ·simp [kr,h0]
  ·simp [kr,h1]
  ·simp [kr,h5]
  ·simp [kr,-Int.natCast_add]
  ·exact hgp
  ·exact (Fr.put (H.get_lt hg)).trans b4
theorem repeat_one (v:SV):∀ n,repeatCells [v] n=List.replicate n v
 | 0=>rfl
 | n+1=>by
  show [v]++repeatCells [v] n=_
  rw [repeat_one v n,List.replicate_succ];rfl
theorem make_row (k:IntKind) (z:Int) (s:Nat) (hs:s≤1099511627776 / 3) (c:CF) (m:Nat) (t:T) (h:H) (K:SV→H→FR):sN (aMakeSlice 1 1 [.int k z] (xC (.int .i64 s)) (xC (.int .i64 s))) c m t h K=K (.slice h.next 0 s 1 (some s)) (h.push (.cells (List.replicate s (.int k z)) .fixed)):=by
 have e:(Nat.ble s s&&Nat.ble (s * (1+1+1)) 1099511627776)=true:=by
  rw [Nat.ble_eq_true_of_le (Nat.le_refl s),Nat.ble_eq_true_of_le (by omega)];rfl
 show bO (bB (Nat.ble s s&&Nat.ble (s * (1+1+1)) 1099511627776) (some (NR.new (.cells (repeatCells [.int k z] s) .fixed) (.slice · 0 s 1 (some s)))) none) _=_
 rw [e,repeat_one];rfl
theorem Tryz.u (x:Int) (s:Nat) (hs:s≤8) (h:H):∃ h',Tryz.l2 56 [.int .i64 x,.int .i64 s] h=some (.slice h.next 0 s 1 (some s),h')∧h'.get h.next=some (.cells (be s x) .fixed)∧Fr (λ _=>False) (λ _=>False) h h':=by
 have hl:=Tryz.u_loop (x:=x) (id:=h.next) hs Tryz.l2 s 0 (s+1) (setP (way 6) (.int .i64 0) (setP (way 5) (.slice h.next 0 s 1 (some s)) (setP (way 4) .nilslice (setP (way 1) (.int .i64 s) (setP (way 0) (.int .i64 x) .leaf))))) (h.push (.cells (List.replicate s (.int .u8 0)) .fixed)) (by omega) (by omega) (by simp [kr]) (by simp [kr]) (by simp [kr]) (by simp [kr]) (by rw [H.get_push,if_pos rfl];simp [be])
 have hm:=λ c m t K=>make_row .u8 0 s (by omega) c m t h K
 obtain ⟨v,h',k1,rfl,k2,k3⟩:=gets_fin (rs:=[.tmp (way 4)]) (Q:=λ v h'=>v=.slice h.next 0 s 1 (some s)∧h'.get h.next=some (.cells (be s x) .fixed)∧Fr (λ _=>False) (λ _=>False) h h') (gets_next (k:=cSeq (cOps (oLet (sV (xW 5)) λ v26=>oSet 4 (sV (xC v26)) λ v4=>oEnd)) cRet (s+1) Tryz.l2) (gets_leave (id:=0) (Gets.mono hl λ fl t' h' ⟨b1,b2,b3,b4⟩=>by
  subst b1
  simp [kr,bO_mk,gets_some,b2,kresL,kres,oneS]
  exact ⟨b3,⟨Nat.le_trans (Nat.le_succ _) b4.next,λ q hq _=>by rw [b4.keep q (Nat.lt_succ_of_lt hq) (Nat.ne_of_lt hq),H.get_push,if_neg (Nat.ne_of_lt hq)],λ m q1 q2 _=>b4.low m q1 (Nat.le_succ_of_le q2) λ q e=>by rw [show q=h.next from e];exact q2⟩⟩)))
 refine ⟨h',Tryz.en (n:=s+1) (kf:=Tryz.k56) (by kernel_rfl) ?_,k2,k3⟩
 rw [Tryz.k56,enter_eq]
 simp [argsP,kr,bO_mk,hm]
 exact k1
end
end Go.Proofs
end
section
/- Bytes: the document's own texts. -/
namespace Go.Proofs
open Go.Sh
attribute [local instance] powHeld
noncomputable section
theorem full_append {h:H} {id n bytes:Nat} {cs:List SV} (hg:h.get id=some (.cells cs .fixed)) (hl:cs.length=n) (k:Nat) (new:List SV) (hk:new.length=k) (hmax:(n+k) * (bytes+2)≤1099511627776) :
  ∃ v' h',kappend h bytes 1 k new (.slice id 0 n 1 (some n))=some (v',h')∧View h' 1 v' (n+k) (cs++new)∧Fr (λ _=>False) (λ _=>False) h h'∧(∀ q,isRow v' q→q=id∨h.next≤q):=by
 have hrow:rowCells h.get id=some cs:=by unfold rowCells;rw [hg]
 have e2:(Nat.ble ((n+k) * (bytes+1+1)) 1099511627776&&Nat.beq 1 1)=true:=by
  rw [Nat.ble_eq_true_of_le hmax];rfl
 have e:kappend h bytes 1 k new (.slice id 0 n 1 (some n))=appendKnown h id 0 n 1 n k new:=by
  show bB _ _ none=_
  rw [e2];rfl
 rw [e]
 by_cases k0:k=0
 ·subst k0
  have hn:new=[]:=List.eq_nil_of_length_eq_zero hk
  subst hn
  refine ⟨.slice id 0 n 1 (some n),h,by unfold appendKnown;rw [if_pos (by omega)];rfl,⟨by simp [hl],.inr ⟨id,0,some n,cs,rfl,hrow,?_,λ c q=>by cases q;omega⟩⟩,.refl,λ q hq=>.inl hq⟩
  unfold takeCells
  rw [if_pos (by omega),List.drop_zero,List.append_nil,List.take_of_length_le (by omega)]
 ·refine ⟨.slice h.next 0 (n+k) 1 none,h.push (.cells (cs++new) (.grown none)),?_,⟨by simp [hl,hk],.inr ⟨h.next,0,none,cs++new,rfl,by unfold rowCells;rw [H.get_push,if_pos rfl],?_,λ c q=>by cases q⟩⟩,.push,λ q hq=>.inr (by rw [show q=h.next from hq];exact Nat.le_refl _)⟩
  ·unfold appendKnown
   rw [if_neg (by omega),hrow]
   have:takeCells cs 0 (n * 1)=some cs:=by
    unfold takeCells
    rw [if_pos (by omega),List.drop_zero,List.take_of_length_le (by omega)]
   simp only [this]
  ·unfold takeCells
   rw [if_pos (by simp [hl,hk]),List.drop_zero,List.take_of_length_le (by simp [hl,hk])]
theorem Tryz.text (s:List UInt8) (h:H) (hmax:(2+s.length) * 3≤1099511627776):∃ v h',Tryz.l2 53 [.str s] h=some (v,h')∧View h' 1 v (2+s.length) (be 2 s.length++u8s s)∧Fr (λ _=>False) (λ _=>False) h h'∧(∀ q,isRow v q→h.next≤q):=by
 obtain ⟨h1,k1,k2,k3⟩:=Tryz.u (s.length:Int) 2 (by omega) h
 have k1:Tryz.l2 56 [.int .i64 s.length,.int .i64 2] h=some (.slice h.next 0 2 1 (some 2),h1):=k1
 obtain ⟨v,h2,a1,a2,a3,a4⟩:=full_append (bytes:=1) k2 (be_length 2 _) s.length (u8s s) (by simp [u8s]) (by omega)
 refine ⟨v,h2,Tryz.en (n:=1) (kf:=Tryz.k53) (by kernel_rfl) ?_,a2,k3.trans a3,λ q hq=>?_⟩
 ·rw [Tryz.k53,enter_eq]
  simp [argsP,kr,bO_mk,kx,vLenS,k1,append_str a1,kfin,kresL,kres,oneS]
 ·rcases a4 q hq with k | k
  ·omega
  ·exact Nat.le_trans k3.next k
end
end Go.Proofs
end
