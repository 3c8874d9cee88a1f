/- General laws of the proof: a shadow machine of the form, its soundness, and a compiled form of it. -/
import Derived.Test.YtpjpiigachahkaaGreatDoorTzG4
set_option linter.unusedVariables false
set_option linter.unusedSimpArgs false
set_option linter.unusedSectionVars false
section
/- LadderForms: the program's reader. -/
namespace Go.Proofs
open Go.Sh
set_option maxRecDepth 100000
attribute [local instance] powHeld
noncomputable section
def PR (h:H) (z p:Nat) (bs:List UInt8) (bad:Bool):Prop:=∃ (zs:List Int) (a:Nat) (b:SV),Rdr h p zs.length (u8z zs) a bad b∧(∀ z ∈ zs,0≤z∧z < 256)∧(bad=false→bs=bytesZ (zs.drop a))∧(∀ q,isRow b q→z≤q∧q < p)
theorem PR.keep {h h':H} {z p:Nat} {bs:List UInt8} {bad:Bool} {S W:Nat→Prop} (R:PR h z p bs bad) (f:Fr S W h h') (hp:¬S p) (hn:∀ q,z≤q→q < p→¬S q):PR h' z p bs bad:=by
 obtain ⟨zs,a,b,r,hz,hb,hr⟩:=R
 exact ⟨zs,a,b,r.keep f hp λ q hq=>hn q (hr q hq).1 (hr q hq).2,hz,hb,hr⟩
theorem PR.lt {h:H} {z p:Nat} {bs:List UInt8} {bad:Bool} (R:PR h z p bs bad):p < h.next:=by
 obtain ⟨zs,a,b,r,_⟩:=R
 exact H.get_lt r.row
theorem bytesZ_len (zs:List Int):(bytesZ zs).length=zs.length:=by simp [bytesZ]
theorem byte_nat {z:Int} (h:0≤z∧z < 256):(UInt8.ofNat z.toNat).toNat=z.toNat:=by rw [UInt8.toNat_ofNat'];omega
theorem numAt_two {zs:List Int} {a:Nat} (hz:∀ z ∈ zs,0≤z∧z < 256):(2≤(zs.drop a).length→numAt zs a 2=(twoAt (bytesZ (zs.drop a)):Int))∧0≤numAt zs a 2:=by
 unfold numAt
 have hz':∀ z ∈ zs.drop a,0≤z∧z < 256:=λ z m=>hz z (List.mem_of_mem_drop m)
 match zs.drop a,hz' with
 | [],_=>exact ⟨λ h=>absurd h (by simp),Int.le_refl _⟩
 | [x],h1=>
  have hx:=h1 x (by simp)
  refine ⟨λ h=>absurd h (by simp),?_⟩
  show 0≤nstep 0 x
  rw [nstep_eq (by omega) (by omega) hx.1 hx.2];omega
 | x::y::r,h1=>
  have hx:=h1 x (by simp)
  have hy:=h1 y (by simp)
  have e:(((x::y::r).take 2).foldl nstep 0)=x * 256+y:=by
   show nstep (nstep 0 x) y=_
   rw [nstep_eq (v:=0) (by omega) (by omega) hx.1 hx.2,nstep_eq (by omega) (by omega) hy.1 hy.2]
   omega
  rw [e]
  refine ⟨λ _=>?_,by omega⟩
  show x * 256+y=(((UInt8.ofNat x.toNat).toNat * 256+(UInt8.ofNat y.toNat).toNat:Nat):Int)
  rw [byte_nat hx,byte_nat hy]
  omega
theorem bytesZ_drop (zs:List Int) (k:Nat):bytesZ (zs.drop k)=(bytesZ zs).drop k:=by simp [bytesZ]
theorem fits_eq {zs:List Int} {a:Nat} {bs:List UInt8} (hb:bs=bytesZ (zs.drop a)) (ha:a≤zs.length):fits zs.length a false 2=!decide (bs.length < 2):=by
 have hl:bs.length=zs.length - a:=by rw [hb,bytesZ_len,List.length_drop]
 unfold fits
 by_cases c:bs.length < 2
 ·rw [decide_eq_true c,decide_eq_false (by omega)];rfl
 ·rw [decide_eq_false c,decide_eq_true (by omega)];rfl
theorem Tryz.ptwo48 {h:H} {z p:Nat} {bs:List UInt8} {bad:Bool} (R:PR h z p bs bad) :
  ∃ h',Tryz.l2 48 [.ptr p 0] h=some (.int .i64 ((rd2 bs bad).1:Int),h')∧PR h' z p (rd2 bs bad).2.1 (rd2 bs bad).2.2∧Fr (·=p) (·=p) h h':=by
 obtain ⟨zs,a,b,r,hz,hb,hr⟩:=R
 obtain ⟨h',k1,k2,k3⟩:=Tryz.ru2 r
 refine ⟨h',?_,?_,k3⟩
 ·rw [k1]
  cases bad with
  | true=>rfl
  | false=>
   have hb:=hb rfl
   have hf:=fits_eq hb r.here
   rw [hf]
   unfold rd2
   by_cases c:bs.length < 2
   ·rw [decide_eq_true c];rfl
   ·rw [decide_eq_false c]
    have hl:bs.length=(zs.drop a).length:=by rw [hb,bytesZ_len]
    have e:=(numAt_two (a:=a) hz).1 (by omega)
    show some (SV.int .i64 (numAt zs a 2),h')=some (SV.int .i64 (twoAt bs:Int),h')
    rw [e,hb]
 ·cases bad with
  | true=>exact ⟨zs,a,b,k2,hz,λ e=>Bool.noConfusion (show true=false from e),hr⟩
  | false=>
   have hb:=hb rfl
   have hf:=fits_eq hb r.here
   rw [hf] at k2
   unfold rd2
   by_cases c:bs.length < 2
   ·rw [decide_eq_true c] at k2 ⊢
    exact ⟨zs,a,b,k2,hz,λ e=>Bool.noConfusion (show true=false from e),hr⟩
   ·rw [decide_eq_false c] at k2 ⊢
    refine ⟨zs,a+2,b,k2,hz,λ _=>?_,hr⟩
    show bs.drop 2=_
    rw [hb,← bytesZ_drop,List.drop_drop]
theorem Tryz.ptext43 {h:H} {z p:Nat} {bs:List UInt8} {bad:Bool} (R:PR h z p bs bad) :
  ∃ h',Tryz.l2 43 [.ptr p 0] h=some (.str (rdT bs bad).1,h')∧PR h' z p (rdT bs bad).2.1 (rdT bs bad).2.2∧Fr (·=p) (·=p) h h':=by
 obtain ⟨zs,a,b,r,hz,hb,hr⟩:=R
 obtain ⟨h',k1,k2,k3⟩:=Tryz.rtext r (numAt_two hz).2
 refine ⟨h',?_,?_,k3⟩
 ·rw [k1]
  cases bad with
  | true=>rfl
  | false=>
   have hb:=hb rfl
   have hf:=fits_eq hb r.here
   unfold textFits rdT rd2
   rw [hf]
   by_cases c:bs.length < 2
   ·rw [decide_eq_true c];rfl
   ·rw [decide_eq_false c]
    have hl:bs.length=(zs.drop a).length:=by rw [hb,bytesZ_len]
    have e:=(numAt_two (a:=a) hz).1 (by omega)
    have el:lenAt zs a=twoAt bs:=by unfold lenAt;rw [e,hb];omega
    have hd:(bs.drop 2).length=zs.length - a - 2:=by rw [List.length_drop,hl,List.length_drop]
    have hq:2≤zs.length - a:=by rw [← List.length_drop];omega
    rw [el]
    simp only [Bool.false_or,Bool.not_false,Bool.true_and,Bool.false_eq_true,if_false]
    by_cases c2:a+2+twoAt bs≤zs.length
    ·rw [decide_eq_true c2,decide_eq_false (by omega)]
     show some (SV.str (bytesZ ((zs.drop (a+2)).take (twoAt bs))),h')=some (SV.str ((bs.drop 2).take (twoAt bs)),h')
     have:(bs.drop 2).take (twoAt bs)=bytesZ ((zs.drop (a+2)).take (twoAt bs)):=by
      rw [hb,← bytesZ_drop,List.drop_drop]
      simp [bytesZ]
     rw [this]
    ·rw [decide_eq_false c2,decide_eq_true (by omega)];rfl
 ·cases bad with
  | true=>exact ⟨zs,a,b,k2,hz,λ e=>Bool.noConfusion (show true=false from e),hr⟩
  | false=>
   have hb:=hb rfl
   have hf:=fits_eq hb r.here
   unfold textFits at k2
   unfold rdT rd2
   rw [hf] at k2
   by_cases c:bs.length < 2
   ·rw [decide_eq_true c] at k2 ⊢
    exact ⟨zs,a,b,k2,hz,λ e=>Bool.noConfusion (show true=false from e),hr⟩
   ·rw [decide_eq_false c] at k2 ⊢
    have hl:bs.length=(zs.drop a).length:=by rw [hb,bytesZ_len]
    have e:=(numAt_two (a:=a) hz).1 (by omega)
    have el:lenAt zs a=twoAt bs:=by unfold lenAt;rw [e,hb];omega
    have hd:(bs.drop 2).length=zs.length - a - 2:=by rw [List.length_drop,hl,List.length_drop]
    have hq:2≤zs.length - a:=by rw [← List.length_drop];omega
    rw [el] at k2
    simp only [Bool.false_or,Bool.not_false,Bool.true_and,Bool.false_eq_true,if_false] at k2 ⊢
    by_cases c2:a+2+twoAt bs≤zs.length
    ·rw [decide_eq_true c2] at k2
     rw [decide_eq_false (show ¬(bs.drop 2).length < twoAt bs by omega)]
     refine ⟨zs,a+2+twoAt bs,b,k2,hz,λ _=>?_,hr⟩
     show (bs.drop 2).drop (twoAt bs)=_
     rw [← List.drop_drop,← List.drop_drop,bytesZ_drop,bytesZ_drop,← hb]
    ·rw [decide_eq_false c2] at k2
     rw [decide_eq_true (show (bs.drop 2).length < twoAt bs by omega)]
     exact ⟨zs,a,b,k2,hz,λ e=>Bool.noConfusion (show true=false from e),hr⟩
theorem Tryz.pleft46 {h:H} {z p:Nat} {bs:List UInt8} {bad:Bool} (R:PR h z p bs bad):Tryz.l2 46 [.ptr p 0] h=some (.int .i64 (if bad then 0 else (bs.length:Int)),h):=by
 obtain ⟨zs,a,b,r,hz,hb,hr⟩:=R
 rw [Tryz.left r]
 cases bad with
 | true=>rfl
 | false=>
  have hl:bs.length=zs.length - a:=by rw [hb rfl,bytesZ_len,List.length_drop]
  have:=r.here
  show some (SV.int .i64 ((zs.length:Int) - a),h)=some (SV.int .i64 (bs.length:Int),h)
  have e:(zs.length:Int) - a=(bs.length:Int):=by omega
  rw [e]
theorem Tryz.many45 {h:H} {z p:Nat} {bs:List UInt8} {bad:Bool} (R:PR h z p bs bad) :
  ∃ h',Tryz.l2 45 [.ptr p 0] h=some (.int .i64 ((rd2 bs bad).1:Int),h')∧PR h' z p (rd2 bs bad).2.1 (rd2 bs bad).2.2∧Fr (·=p) (·=p) h h':=by
 obtain ⟨h',k1,k2,k3⟩:=Tryz.ptwo48 R
 have main:∃ v' h1,Tryz.l2 45 [.ptr p 0] h=some (v',h1)∧(v'=.int .i64 ((rd2 bs bad).1:Int)∧h1=h'):=by
  refine Go.Sh.enG Tryz.kTab_ok (X:=Tryz.X2) (kf:=Tryz.k45) rfl (by kernel_rfl) 2 rfl rfl ?_
  obtain ⟨zs,a,b,r,hz,hb,hr⟩:=k2
  have k4:=Tryz.err r
  have hz0:(rd2 bs bad).2.2=true→(rd2 bs bad).1=0:=by
   unfold rd2
   split
   ·exact λ _=>rfl
   ·exact λ e=>by cases e
  generalize rd2 bs bad=q at *
  obtain ⟨n,b1,bad1⟩:=q
  simp only at k1 k4 hz0 ⊢
  cases bad1 with
  | true=>
   obtain rfl:n=0:=hz0 rfl
   simp only [if_true] at k4
   simp [↓ kq,kq,↓ ku,ku,↓ ko,ko,↓ kt,↓ kz,kb,kv,kt,kx,k1,k4,show eqI 2 0=false from rfl,show eqI 0 0=true from rfl,gets_some,kc,oneS,-bO_of,-bB_true,-bB_false,-H.next_push,-Int.natCast_add]
  | false=>
   simp only [Bool.false_eq_true,if_false] at k4
   simp [↓ kq,kq,↓ ku,ku,↓ ko,ko,↓ kt,↓ kz,kb,kv,kt,kx,k1,k4,show eqI 2 0=false from rfl,show eqI 0 0=true from rfl,gets_some,kc,oneS,-bO_of,-bB_true,-bB_false,-H.next_push,-Int.natCast_add]
 obtain ⟨_,_,k4,rfl,rfl⟩:=main
 exact ⟨_,k4,k2,k3⟩
theorem u8s_z (b:List UInt8):u8s b=u8z (b.map λ c=>(c.toNat:Int)):=by simp [u8s,u8z]
theorem bytesZ_of (b:List UInt8):bytesZ (b.map λ c=>(c.toNat:Int))=b:=by
 unfold bytesZ
 rw [List.map_map]
 conv=>rhs;rw [← List.map_id b]
 refine List.map_congr_left λ c _=>?_
 show UInt8.ofNat ((c.toNat:Int)).toNat=c
 rw [Int.toNat_natCast,UInt8.ofNat_toNat]
theorem Tryz.preader {h:H} {v:SV} {b:List UInt8} (w:View h 1 v b.length (u8s b)) (hmax:b.length≤1073741824) :
  ∃ p h',Tryz.l2 41 [v] h=some (.ptr p 0,h')∧PR h' h.next p b false∧Calms h h'∧h.next≤p:=by
 obtain ⟨b',h1,k1,k2,k3,k4⟩:=Tryz.clone w (by omega)
 have hb:∀ q,isRow b' q→q < h1.next:=λ q hq=>by
  obtain ⟨_,⟨rfl,_⟩ | ⟨id,off,cap,all,rfl,e,_⟩⟩:=k2
  ·exact hq.elim
  ·rw [show q=id from hq];exact rowCells_lt e
 have hzl:b.length=(b.map λ c=>(c.toNat:Int)).length:=by simp
 rw [u8s_z] at k2
 refine ⟨h1.next,h1.push (.cells [b',.int .i64 0,.bool false] .fixed),Tryz.en (n:=1) (kf:=Tryz.k41) (by kernel_rfl) ?_,⟨b.map λ c=>(c.toNat:Int),0,b',⟨by rw [H.get_push,if_pos rfl];rfl,by rw [← hzl];exact k2.keep (Fr.push (S:=λ _=>False) (W:=λ _=>False)) (λ q _ k=>k),λ q hq=>Nat.ne_of_lt (hb q hq),Nat.zero_le _,by simp;omega⟩,λ z hz=>?_,λ _=>by rw [List.drop_zero];exact (bytesZ_of b).symm,λ q hq=>⟨k4 q hq,hb q hq⟩⟩,k3.trans .push,k3.next⟩
 ·have hc:b'.cells?=some [b']:=by
   obtain ⟨_,⟨rfl,_⟩ | ⟨id,off,cap,all,rfl,e,_⟩⟩:=k2 <;> rfl
  have e:kfillV [.nilslice,.int .i64 0,.bool false] [(0,1)] [b']=some [b',.int .i64 0,.bool false]:=by
   simp [kfillV,fillS,fillAsc,hc,List.range,List.range.loop]
  rw [Tryz.k41,enter_eq]
  simp [argsP,kr,bO_mk,kx,k1,vFill,xL,e,sN,aBox,SV.cells?,kfin,kresL,kres,oneS]
 ·obtain ⟨c,_,rfl⟩:=List.mem_map.1 hz
  have:=c.toNat_lt
  omega
end
end Go.Proofs
end
section
/- LadderForms: the program's reader: texts. -/
namespace Go.Proofs
open Go.Sh
set_option maxRecDepth 100000
attribute [local instance] powHeld
noncomputable section
theorem gro_cells {h:H} {lo es n:Nat} {v:SV} {cs:List SV} (g:Gro h lo es v n cs):v.cells?=some [v]:=view_cells g.view
def LsPost (z p lo:Nat) (h:H) (cs:List SV) (r:List (List UInt8) × List UInt8 × Bool) (fl:Flow) (t':T) (h':H):Prop:=
 fl=.exit 0∧∃ v' n',getP (way 2) t'=some v'∧Gro h' lo 1 v' n' (cs++strs r.1)∧PR h' z p r.2.1 r.2.2∧Fr (λ q=>q=p∨lo≤q) (·=p) h h'
theorem Tryz.list44_loop {z p lo:Nat} (hp:p < lo):∀ (j k n:Nat) (x:Int) (bs:List UInt8) (bad:Bool) (v:SV) (cs:List SV) (t:T) (h:H),x=j→j < k→PR h z p bs bad→Gro h lo 1 v n cs→n+j≤1073741824→lo≤h.next→getP (way 0) t=some (.ptr p 0)→getP (way 2) t=some v→getP (way 3) t=some (.int .i64 x) →
  Gets (cLoop Tryz.l44_0 k Tryz.l2 t h) (LsPost z p lo h cs (rdL true rdT j bs bad)):=by
 intro j
 induction j with
 | zero=>
  intro k n x bs bad v cs t h hx hk R g hn hlo t0 t2 t3
  obtain ⟨k,rfl⟩:∃ m,k=m+1:=⟨k - 1,by omega⟩
  rw [loop_succ]
  generalize (λ t h=>cLoop Tryz.l44_0 k Tryz.l2 t h)=L
  unfold Tryz.l44_0
  have e1:ltI 0 x=false:=ltIf (by omega)
  simp [↓ kq,kq,↓ ku,ku,↓ ko,ko,↓ kt,↓ kz,kb,kv,kt,kx,t0,t2,t3,e1,gets_some,-bO_of,-bB_true,-bB_false,-H.next_push,-Int.natCast_add]
  exact ⟨rfl,v,n,by simp [kq,kb,t2],by simpa [rdL,strs] using g,R,.refl⟩
 | succ j ih=>
  intro k n x bs bad v cs t h hx hk R g hn hlo t0 t2 t3
  obtain ⟨k,rfl⟩:∃ m,k=m+1:=⟨k - 1,by omega⟩
  rw [loop_succ]
  generalize hL:(λ t h=>cLoop Tryz.l44_0 k Tryz.l2 t h)=L
  have e1:ltI 0 x=true:=ltIt (by omega)
  have e9:IntKind.i64.wrap (x - 1)=x - 1:=wrapI64 (by omega) (by omega)
  have k46:=Tryz.pleft46 R
  have stop:(bad || (true&&bs.isEmpty))=true→Tryz.l2 46 [.ptr p 0] h=some (.int .i64 0,h):=λ hc=>by
   rw [k46]
   cases bad with
   | true=>rfl
   | false=>cases bs with
    | nil=>rfl
    | cons=>cases hc
  have e:rdL true rdT (j+1) bs bad=bB (bad || (true&&bs.isEmpty)) ([],bs,bad) ((rdT bs bad).1::(rdL true rdT j (rdT bs bad).2.1 (rdT bs bad).2.2).1,(rdL true rdT j (rdT bs bad).2.1 (rdT bs bad).2.2).2):=rfl
  rw [e]
  cases hc:(bad || (true&&bs.isEmpty)) with
  | true=>
   have k46:=stop hc
   have e2:ltI 0 0=false:=ltIf (by omega)
   unfold Tryz.l44_0
   simp [↓ kq,kq,↓ ku,ku,↓ ko,ko,↓ kt,↓ kz,kb,kv,kt,kx,t0,t2,t3,e1,e2,k46,gets_some,-bO_of,-bB_true,-bB_false,-H.next_push,-Int.natCast_add]
   exact ⟨rfl,v,n,by simp [kq,kb,t2],by simpa [bB,strs] using g,R,.refl⟩
  | false=>
   obtain ⟨L1,hL1,k46⟩:∃ l:Int,0 < l∧Tryz.l2 46 [.ptr p 0] h=some (.int .i64 l,h):=by
    cases bad with
    | true=>cases hc
    | false=>cases bs with
     | nil=>cases hc
     | cons c r=>exact ⟨((c::r).length:Int),by simp only [List.length_cons];omega,k46⟩
   have e2:ltI 0 L1=true:=ltIt hL1
   obtain ⟨h1,k1,R1,f1⟩:=Tryz.ptext43 R
   show Gets _ (LsPost z p lo h cs ((rdT bs bad).1::(rdL true rdT j (rdT bs bad).2.1 (rdT bs bad).2.2).1,(rdL true rdT j (rdT bs bad).2.1 (rdT bs bad).2.2).2))
   generalize rdT bs bad=q at *
   obtain ⟨s,b1,bad1⟩:=q
   have k1:Tryz.l2 43 [.ptr p 0] h=some (.str s,h1):=k1
   have R1:PR h1 z p b1 bad1:=R1
   have e4:kcat [1] [.str s]=some [.str s]:=rfl
   generalize hh2:h1.push (.cells [.str s] .fixed)=h2
   have f2:=calm_push hh2
   have w2:=view_row (n:=1) (es:=1) (rowCells_fixed (get_pushed hh2)) rfl
   have g1:Gro h1 lo 1 v n cs:=g.keep f1 λ q hq e=>by have e:q=p:=e;omega
   have g2:Gro h2 lo 1 v n cs:=g1.keep f2 λ _ _ k=>k
   have hlo2:lo≤h2.next:=by have:=f1.next;have:=f2.next;omega
   obtain ⟨v3,h3,q1,q2,q3⟩:=g2.append (bytes:=16) 1 [.str s] rfl (by omega) hlo2
   have q0:=append_V w2 q1
   have R3:PR h3 z p b1 bad1:=(R1.keep f2 (λ k=>k) λ _ _ _ k=>k).keep q3 (by show ¬lo≤p;omega) λ q _ hq hle=>by have:lo≤q:=hle;omega
   have F:Fr (λ q=>q=p∨lo≤q) (·=p) h h3:=((f1.mono (λ q _ e=>.inl e) λ q e=>.inl e).trans (f2.mono (λ _ _ k=>k.elim) λ _ k=>k.elim)).trans (q3.mono (λ q _ e=>.inr e) λ _ k=>k.elim)
   unfold Tryz.l44_0
   simp [↓ kq,kq,↓ ku,ku,↓ ko,ko,↓ kt,↓ kz,kb,kv,kt,kx,t0,t2,t3,e1,e2,e9,k46,k1,e4,hh2,q0,gets_some,-bO_of,-bB_true,-bB_false,-H.next_push,-Int.natCast_add]
   rw [← hL]
   refine Gets.mono (ih k (n+1) (x - 1) b1 bad1 v3 _ _ h3 (by omega) (by omega) R3 q2 (by omega) (by have:=q3.next;omega) ?_ ?_ ?_) ?_
   rotate_right
   ·rintro fl t' h' ⟨x1,v',n',x2,x3,x4,x5⟩
    refine ⟨x1,v',n',x2,?_,x4,F.trans x5⟩
    show Gro h' lo 1 v' n' (cs++strs (s::_))
    rw [strs_cons,← List.append_assoc]
    exact x3
   all_goals simp [kq,kb,t0,t2,t3]
def LsEnd (z p:Nat) (h:H) (r:List (List UInt8) × List UInt8 × Bool) (v':SV) (h':H):Prop:=∃ n',Gro h' h.next 1 v' n' (strs r.1)∧PR h' z p r.2.1 r.2.2∧Fr (·=p) (·=p) h h'
theorem Tryz.list44 {h:H} {z p:Nat} {bs:List UInt8} {bad:Bool} (R:PR h z p bs bad):∃ v' h',Tryz.l2 44 [.ptr p 0] h=some (v',h')∧LsEnd z p h (rdC true rdT bs bad) v' h':=by
 obtain ⟨h1,k1,R1,f1⟩:=Tryz.many45 R
 have hlt:=rd2_lt bs bad
 have hp:p < h.next:=R.lt
 refine Go.Sh.enG Tryz.kTab_ok (X:=Tryz.X2) (kf:=Tryz.k44) rfl (by kernel_rfl) ((rd2 bs bad).1+2) rfl rfl ?_
 unfold rdC
 generalize rd2 bs bad=q at *
 obtain ⟨n,b1,bad1⟩:=q
 simp only at R1 k1 hlt ⊢
 simp [↓ kq,kq,↓ ku,ku,↓ ko,ko,↓ kt,↓ kz,kb,kv,kt,kx,k1,gets_some,-bO_of,-bB_true,-bB_false,-H.next_push,-Int.natCast_add]
 refine gets_next (gets_leave (Gets.mono (Tryz.list44_loop (lo:=h.next) hp n (n+2) 0 n b1 bad1 .nilslice [] _ h1 rfl (by omega) R1 .nil (by omega) f1.next ?_ ?_ ?_) ?_))
 rotate_right
 ·rintro fl t' h' ⟨x1,v',n',x2,x3,x4,x5⟩
  subst x1
  simp only [if_true]
  simp [↓ kq,kq,↓ ku,ku,↓ ko,ko,↓ kt,↓ kz,kb,kv,kt,kx,x2,gets_some,kc,oneS,-bO_of,-bB_true,-bB_false,-H.next_push,-Int.natCast_add]
  refine ⟨n',x3,x4,(f1.mono (λ q _ e=>.inl e) λ q e=>.inl e).trans x5 |>.mono (λ q hq e=>e.elim id λ e=>absurd hq (Nat.not_lt.2 e)) λ q e=>.inl e⟩
 all_goals simp [kq,kb]
end
end Go.Proofs
end
section
/- LadderForms: the program's reader: a row. -/
namespace Go.Proofs
open Go.Sh
set_option maxRecDepth 100000
attribute [local instance] powHeld
noncomputable section
theorem kw:(∀ q r c m t h k,oSee q r c m t h k=r (q t h) c m t h k)∧(∀ l r c m t h k,oLate l r c m t h k=bB (allH h l) (r c m t h k) none)∧(∀ h,allH h []=true)∧(∀ h f l,allH h (f::l)=(f h&&allH h l)):=⟨λ _ _ _ _ _ _ _=>rfl,λ _ _ _ _ _ _ _=>rfl,λ _=>rfl,λ _ _ _=>rfl⟩
theorem ks {f:LF} {t:T} {h h':H} {u:SV} (h1:f h.get t=some u) (h2:f h'.get t=some u) (hf:eqSV u u=true):seeL f t h h'=true:=by
 unfold seeL;rw [h1,h2];exact hf
theorem ints_cons (x:Int) (l:List Int):ints (x::l)=[SV.int .i64 x]++ints l:=rfl
def RnPost' (z w p:Nat) (s:List UInt8) (h:H) (cs:List SV) (r:List Int × List UInt8 × Bool) (fl:Flow) (t':T) (h':H):Prop:=
 fl=.exit 0∧∃ v' n',h'.get w=some (.cells [.str s,v'] .fixed)∧Gro h' (w+1) 1 v' n' (cs++ints r.1)∧PR h' z p r.2.1 r.2.2∧Fr (λ q=>q=p∨w≤q) (λ q=>q=p∨w≤q) h h'∧getP (way 2) t'=some (.ptr w 0)
theorem Tryz.row47_loop {z p w:Nat} {s:List UInt8} (hp:p < w):∀ (j k n:Nat) (x:Int) (bs:List UInt8) (bad:Bool) (v:SV) (cs:List SV) (t:T) (h:H),x=j→j < k→PR h z p bs bad→Gro h (w+1) 1 v n cs→n+j≤1073741824→h.get w=some (.cells [.str s,v] .fixed)→getP (way 0) t=some (.ptr p 0)→getP (way 2) t=some (.ptr w 0)→getP (way 3) t=some (.int .i64 x) →
  Gets (cLoop Tryz.l47_0 k Tryz.l2 t h) (RnPost' z w p s h cs (rdL true rdN j bs bad)):=by
 intro j
 induction j with
 | zero=>
  intro k n x bs bad v cs t h hx hk R g hn hw t0 t2 t3
  obtain ⟨k,rfl⟩:∃ m,k=m+1:=⟨k - 1,by omega⟩
  rw [loop_succ]
  generalize (λ t h=>cLoop Tryz.l47_0 k Tryz.l2 t h)=L
  unfold Tryz.l47_0
  have e1:ltI 0 x=false:=ltIf (by omega)
  simp [↓ kq,kq,↓ ku,ku,↓ ko,ko,↓ kt,↓ kz,kb,kv,kt,kx,t0,t2,t3,e1,gets_some,-bO_of,-bB_true,-bB_false,-H.next_push,-Int.natCast_add]
  exact ⟨rfl,v,n,hw,by simpa [rdL,ints] using g,R,.refl,by simp [kq,kb,t2]⟩
 | succ j ih=>
  intro k n x bs bad v cs t h hx hk R g hn hw t0 t2 t3
  obtain ⟨k,rfl⟩:∃ m,k=m+1:=⟨k - 1,by omega⟩
  rw [loop_succ]
  generalize hL:(λ t h=>cLoop Tryz.l47_0 k Tryz.l2 t h)=L
  have e1:ltI 0 x=true:=ltIt (by omega)
  have e9:IntKind.i64.wrap (x - 1)=x - 1:=wrapI64 (by omega) (by omega)
  have k46:=Tryz.pleft46 R
  have hwn:=H.get_lt hw
  have stop:(bad || (true&&bs.isEmpty))=true→Tryz.l2 46 [.ptr p 0] h=some (.int .i64 0,h):=λ hc=>by
   rw [k46]
   cases bad with
   | true=>rfl
   | false=>cases bs with
    | nil=>rfl
    | cons=>cases hc
  have e:rdL true rdN (j+1) bs bad=bB (bad || (true&&bs.isEmpty)) ([],bs,bad) ((rdN bs bad).1::(rdL true rdN j (rdN bs bad).2.1 (rdN bs bad).2.2).1,(rdL true rdN j (rdN bs bad).2.1 (rdN bs bad).2.2).2):=rfl
  rw [e]
  cases hc:(bad || (true&&bs.isEmpty)) with
  | true=>
   have k46:=stop hc
   have e2:ltI 0 0=false:=ltIf (by omega)
   unfold Tryz.l47_0
   simp [↓ kq,kq,↓ ku,ku,↓ ko,ko,↓ kt,↓ kz,kb,kv,kt,kx,t0,t2,t3,e1,e2,k46,gets_some,-bO_of,-bB_true,-bB_false,-H.next_push,-Int.natCast_add]
   exact ⟨rfl,v,n,hw,by simpa [bB,ints] using g,R,.refl,by simp [kq,kb,t2]⟩
  | false=>
   obtain ⟨L1,hL1,k46⟩:∃ l:Int,0 < l∧Tryz.l2 46 [.ptr p 0] h=some (.int .i64 l,h):=by
    cases bad with
    | true=>cases hc
    | false=>cases bs with
     | nil=>cases hc
     | cons c r=>exact ⟨((c::r).length:Int),by simp only [List.length_cons];omega,k46⟩
   have e2:ltI 0 L1=true:=ltIt hL1
   obtain ⟨h1,k1,R1,f1⟩:=Tryz.ptwo48 R
   show Gets _ (RnPost' z w p s h cs ((rdN bs bad).1::(rdL true rdN j (rdN bs bad).2.1 (rdN bs bad).2.2).1,(rdL true rdN j (rdN bs bad).2.1 (rdN bs bad).2.2).2))
   have k1:Tryz.l2 48 [.ptr p 0] h=some (.int .i64 (rdN bs bad).1,h1):=k1
   have R1:PR h1 z p (rdN bs bad).2.1 (rdN bs bad).2.2:=R1
   generalize rdN bs bad=q at *
   obtain ⟨y,b1,bad1⟩:=q
   simp only at k1 R1 ⊢
   have e4:kcat [1] [.int .i64 y]=some [.int .i64 y]:=rfl
   generalize hh2:h1.push (.cells [.int .i64 y] .fixed)=h2
   have f2:=calm_push hh2
   have w2:=view_row (n:=1) (es:=1) (rowCells_fixed (get_pushed hh2)) rfl
   have g1:Gro h1 (w+1) 1 v n cs:=g.keep f1 λ q hq e=>by have e:q=p:=e;omega
   have g2:Gro h2 (w+1) 1 v n cs:=g1.keep f2 λ _ _ k=>k
   have B1:h1.get w=some (.cells [.str s,v] .fixed):=f1.get hw (by show ¬w=p;omega)
   have B2:h2.get w=some (.cells [.str s,v] .fixed):=(f2.keep w (H.get_lt B1) λ k=>k).trans B1
   have hlo2:w+1≤h2.next:=by have:=f1.next;have:=f2.next;omega
   obtain ⟨v3,h3,q1,q2,q3⟩:=g2.append (bytes:=8) 1 [.int .i64 y] rfl (by omega) hlo2
   have q0:=append_V w2 q1
   have B3:h3.get w=some (.cells [.str s,v] .fixed):=q3.get B2 (by show ¬w+1≤w;omega)
   have R3:PR h3 z p b1 bad1:=(R1.keep f2 (λ k=>k) λ _ _ _ k=>k).keep q3 (by show ¬w+1≤p;omega) λ q _ hq hle=>by have:w+1≤q:=hle;omega
   have L0:=row_box hw
   have L1':=row_box B1
   have L3:=row_box B3
   have see:∀ t,seeL (lLoad none (xC (.ptr w 1))) t h h1=true:=λ t=>ks (L0 1) (L1' 1) (eqSV_view g.view)
   have s3:storeV 1 h3 (.ptr w 1) v3=some (.tuple [],h3.put w (.cells [.str s,v3] .fixed)):=storeV_one B3 (by simp) (gro_cells q2)
   have B4:(h3.put w (.cells [.str s,v3] .fixed)).get w=some (.cells [.str s,v3] .fixed):=get_put_self B3
   have f4:Fr (·=w) (·=w) h3 (h3.put w (.cells [.str s,v3] .fixed)):=Fr.put (H.get_lt B3)
   generalize h3.put w (.cells [.str s,v3] .fixed)=h4 at *
   have g4:Gro h4 (w+1) 1 v3 (n+1) (cs++[.int .i64 y]):=q2.keep f4 λ q hq e=>by have e:q=w:=e;omega
   have R4:PR h4 z p b1 bad1:=R3.keep f4 (by show ¬p=w;omega) λ q _ hq e=>by have e:q=w:=e;omega
   have F:Fr (λ q=>q=p∨w≤q) (λ q=>q=p∨w≤q) h h4:=(((f1.mono (λ q _ e=>.inl e) λ q e=>.inl (.inl e)).trans (f2.mono (λ _ _ k=>k.elim) λ _ k=>k.elim)).trans (q3.mono (λ q _ e=>.inr (by have:w+1≤q:=e;omega)) λ _ k=>k.elim)).trans (f4.mono (λ q _ e=>.inr (by have e:q=w:=e;omega)) λ q e=>.inl (.inr (by have e:q=w:=e;omega)))
   unfold Tryz.l47_0
   simp [↓ kq,kq,↓ ku,ku,↓ ko,ko,↓ kt,↓ kz,kb,kv,kt,kx,t0,t2,t3,e1,e2,e9,k46,k1,e4,hh2,q0,L0,L1',L3,s3,kw,see,gets_some,-bO_of,-bB_true,-bB_false,-H.next_push,-Int.natCast_add]
   rw [← hL]
   refine Gets.mono (ih k (n+1) (x - 1) b1 bad1 v3 _ _ h4 (by omega) (by omega) R4 g4 (by omega) B4 ?_ ?_ ?_) ?_
   rotate_right
   ·rintro fl t' h' ⟨x1,v',n',x2,x3,x4,x5,x6⟩
    refine ⟨x1,v',n',x2,?_,x4,F.trans x5,x6⟩
    show Gro h' (w+1) 1 v' n' (cs++ints (y::_))
    rw [ints_cons,← List.append_assoc]
    exact x3
   all_goals simp [kq,kb,t0,t2,t3]
def RowEnd (z p:Nat) (h:H) (r:Row × List UInt8 × Bool) (x:SV) (h':H):Prop:=∃ v',x=.agg [.str r.1.var,v']∧View h' 1 v' r.1.set.length (ints r.1.set)∧(∀ q,isRow v' q→h.next≤q∧q < h'.next)∧v'.cells?=some [v']∧PR h' z p r.2.1 r.2.2∧Fr (·=p) (·=p) h h'
theorem view_lt {h:H} {es n:Nat} {v:SV} {cs:List SV} (w:View h es v n cs):∀ q,isRow v q→q < h.next:=λ q hq=>by
 obtain ⟨_,⟨rfl,_⟩ | ⟨id,off,cap,all,rfl,e,_⟩⟩:=w
 ·exact hq.elim
 ·rw [show q=id from hq];exact rowCells_lt e
theorem Tryz.row47 {h:H} {z p:Nat} {bs:List UInt8} {bad:Bool} (R:PR h z p bs bad):∃ x h',Tryz.l2 47 [.ptr p 0] h=some (x,h')∧RowEnd z p h (rdRow true bs bad) x h':=by
 have hp:p < h.next:=R.lt
 generalize hh0:h.push (.cells [.str [],.nilslice] .fixed)=h0
 have f0:=calm_push hh0
 have B0:=get_pushed hh0
 obtain ⟨h1,k1,R1,f1⟩:=Tryz.ptext43 (R.keep f0 (λ k=>k) λ _ _ _ k=>k)
 have B1:h1.get h.next=some (.cells [.str [],.nilslice] .fixed):=f1.get B0 (by show ¬h.next=p;omega)
 have er:rdRow true bs bad=((⟨(rdT bs bad).1,(rdC true rdN (rdT bs bad).2.1 (rdT bs bad).2.2).1⟩:Row),(rdC true rdN (rdT bs bad).2.1 (rdT bs bad).2.2).2):=rfl
 rw [er]
 generalize rdT bs bad=q at *
 obtain ⟨s,b1,bad1⟩:=q
 simp only at k1 R1 ⊢
 have s1:storeV 1 h1 (.ptr h.next 0) (.str s)=some (.tuple [],h1.put h.next (.cells [.str s,.nilslice] .fixed)):=storeV_one B1 (by simp) rfl
 have B2:(h1.put h.next (.cells [.str s,.nilslice] .fixed)).get h.next=some (.cells [.str s,.nilslice] .fixed):=get_put_self B1
 have f2:Fr (·=h.next) (·=h.next) h1 (h1.put h.next (.cells [.str s,.nilslice] .fixed)):=Fr.put (H.get_lt B1)
 generalize h1.put h.next (.cells [.str s,.nilslice] .fixed)=h2 at *
 have R2:PR h2 z p b1 bad1:=R1.keep f2 (by show ¬p=h.next;omega) λ q _ hq e=>by have e:q=h.next:=e;omega
 obtain ⟨h3,k3,R3,f3⟩:=Tryz.many45 R2
 have B3:h3.get h.next=some (.cells [.str s,.nilslice] .fixed):=f3.get B2 (by show ¬h.next=p;omega)
 have hlt:=rd2_lt b1 bad1
 unfold rdC
 refine Go.Sh.enG Tryz.kTab_ok (X:=Tryz.X2) (kf:=Tryz.k47) rfl (by kernel_rfl) ((rd2 b1 bad1).1+2) rfl rfl ?_
 generalize rd2 b1 bad1=q at *
 obtain ⟨n,b2,bad2⟩:=q
 simp only at k3 R3 hlt ⊢
 simp [↓ kq,kq,↓ ku,ku,↓ ko,ko,↓ kt,↓ kz,kb,kv,kt,kx,hh0,k1,s1,k3,gets_some,-bO_of,-bB_true,-bB_false,-H.next_push,-Int.natCast_add]
 refine gets_next (gets_leave (Gets.mono (Tryz.row47_loop (w:=h.next) (s:=s) hp n (n+2) 0 n b2 bad2 .nilslice [] _ h3 rfl (by omega) R3 .nil (by omega) B3 ?_ ?_ ?_) ?_))
 rotate_right
 ·rintro fl t' h' ⟨x1,v',n',x2,x3,x4,x5,x6⟩
  subst x1
  simp only [if_true]
  have L:=row_box x2
  have La:loadV (some 2) h'.get (.ptr h.next 0)=some (.agg [.str s,v']):=loadV_all (rowCells_fixed x2) rfl
  have sa:storeV 2 h' (.ptr h.next 0) (.agg [.str s,v'])=some (.tuple [],h'.put h.next (.cells [.str s,v'] .fixed)):=storeV_all x2 rfl rfl
  have B5:(h'.put h.next (.cells [.str s,v'] .fixed)).get h.next=some (.cells [.str s,v'] .fixed):=get_put_self x2
  have f5:Fr (·=h.next) (·=h.next) h' (h'.put h.next (.cells [.str s,v'] .fixed)):=Fr.put (H.get_lt x2)
  generalize h'.put h.next (.cells [.str s,v'] .fixed)=h5 at *
  have Lb:loadV (some 2) h5.get (.ptr h.next 0)=some (.agg [.str s,v']):=loadV_all (rowCells_fixed B5) rfl
  simp [↓ kq,kq,↓ ku,ku,↓ ko,ko,↓ kt,↓ kz,kb,kv,kt,kx,x6,La,Lb,sa,gets_some,kc,oneS,-bO_of,-bB_true,-bB_false,-H.next_push,-Int.natCast_add]
  have hn':n'=(rdL true rdN n b2 bad2).1.length:=by have:=x3.1;simp [ints] at this;omega
  have x3:Gro h' (h.next+1) 1 v' n' (ints (rdL true rdN n b2 bad2).1):=x3
  rw [hn'] at x3
  have x3:=x3.keep f5 λ q hq e=>by have e:q=h.next:=e;omega
  have F:Fr (λ q=>q=p∨h.next≤q) (λ q=>q=p∨h.next≤q) h h5:=(((((f0.mono (λ _ _ k=>k.elim) λ _ k=>k.elim).trans (f1.mono (λ q _ e=>.inl e) λ q e=>.inl (.inl e))).trans (f2.mono (λ q _ e=>.inr (by have e:q=h.next:=e;omega)) λ q e=>.inl (.inr (by have e:q=h.next:=e;omega)))).trans (f3.mono (λ q _ e=>.inl e) λ q e=>.inl (.inl e))).trans x5).trans (f5.mono (λ q _ e=>.inr (by have e:q=h.next:=e;omega)) λ q e=>.inl (.inr (by have e:q=h.next:=e;omega)))
  exact ⟨v',rfl,x3.view,λ q hq=>⟨by have:=x3.row q hq;omega,view_lt x3.view q hq⟩,gro_cells x3,x4.keep f5 (by show ¬p=h.next;omega) (λ q _ hq e=>by have e:q=h.next:=e;omega),F.mono (λ q hq e=>e.elim id λ e=>absurd hq (Nat.not_lt.2 e)) λ q e=>e.elim .inl .inr⟩
 all_goals simp [kq,kb]
end
end Go.Proofs
end
section
/- LadderForms: the program's Decode: its loops. -/
namespace Go.Proofs
open Go.Sh
set_option maxRecDepth 100000
attribute [local instance] powHeld
noncomputable section
structure RowsB (h:H) (lo:Nat) (v:SV) (m:List (Row × SV)):Prop where
 buf:Buf h 2 v m.length (rowCs m)
 own:∀ q,isRow v q→lo≤q
 sets:∀ y ∈ m,View h 1 y.2 y.1.set.length (ints y.1.set)∧(∀ q,isRow y.2 q→lo≤q∧q < h.next∧¬isRow v q)∧y.2.cells?=some [y.2]
theorem RowsB.nil {h:H} {lo:Nat}:RowsB h lo .nilslice []:=⟨⟨rfl,.inl ⟨rfl,rfl⟩⟩,λ q hq=>hq.elim,λ y hy=>by cases hy⟩
theorem RowsB.lt {h:H} {lo:Nat} {v:SV} {m:List (Row × SV)} (r:RowsB h lo v m):∀ q,isRow v q→q < h.next:=view_lt r.buf.view'
theorem RowsB.keep {h h':H} {lo:Nat} {v:SV} {m:List (Row × SV)} {S W:Nat→Prop} (r:RowsB h lo v m) (f:Fr S W h h') (hn:∀ q,lo≤q→q < h.next→¬S q):RowsB h' lo v m:=
 ⟨r.buf.keep f λ q hq=>hn q (r.own q hq) (r.lt q hq),r.own,λ y hy=>by
  obtain ⟨a,b,c⟩:=r.sets y hy
  exact ⟨a.keep f λ q hq=>hn q (b q hq).1 (b q hq).2.1,λ q hq=>⟨(b q hq).1,Nat.lt_of_lt_of_le (b q hq).2.1 f.next,(b q hq).2.2⟩,c⟩⟩
theorem rowCs_app (m:List (Row × SV)) (x:Row × SV):rowCs (m++[x])=rowCs m++[.str x.1.var,x.2]:=by simp [rowCs]
theorem RowsB.add {h:H} {lo:Nat} {v sv:SV} {m:List (Row × SV)} {row:Row} (r:RowsB h lo v m) (w:View h 1 sv row.set.length (ints row.set)) (hs:∀ q,isRow sv q→lo≤q∧¬isRow v q) (hc:sv.cells?=some [sv]) (hlo:lo≤h.next) (hm:m.length≤1073741824) :
  ∃ v' h',kappend h 40 2 1 [.str row.var,sv] v=some (v',h')∧RowsB h' lo v' (m++[(row,sv)])∧Fr (isRow v) (λ _=>False) h h':=by
 obtain ⟨v',h',k1,k2,k3,k4⟩:=r.buf.append (bytes:=40) 1 [.str row.var,sv] (by omega) rfl (by omega)
 have out:∀ q,q < h.next→¬isRow v q→¬isRow v' q:=λ q hq hn e=>(k4 q e).elim hn λ h1=>by omega
 refine ⟨v',h',k1,⟨?_,λ q hq=>(k4 q hq).elim (r.own q) λ h1=>Nat.le_trans hlo h1,λ y hy=>?_⟩,k3⟩
 ·rw [rowCs_app,List.length_append];exact k2
 ·rcases List.mem_append.1 hy with hy | hy
  ·obtain ⟨a,b,c⟩:=r.sets y hy
   exact ⟨a.keep k3 λ q hq=>(b q hq).2.2,λ q hq=>⟨(b q hq).1,Nat.lt_of_lt_of_le (b q hq).2.1 k3.next,out q (b q hq).2.1 (b q hq).2.2⟩,c⟩
  ·obtain rfl:y=(row,sv):=by simpa using hy
   exact ⟨w.keep k3 λ q hq=>(hs q hq).2,λ q hq=>⟨(hs q hq).1,Nat.lt_of_lt_of_le (view_lt w q hq) k3.next,out q (view_lt w q hq) (hs q hq).2⟩,hc⟩
theorem buf_cells' {h:H} {es n:Nat} {v:SV} {cs:List SV} (b:Buf h es v n cs):v.cells?=some [v]:=view_cells b.view'
def RsPost (z x p lo:Nat) (c0 c1 c3 c4 c5:SV) (t:T) (h:H) (m:List (Row × SV)) (r:List Row × List UInt8 × Bool) (fl:Flow) (t':T) (h':H):Prop:=
 fl=.exit 2∧∃ v' m',m'.map (·.1)=m.map (·.1)++r.1∧h'.get x=some (.cells [c0,c1,v',c3,c4,c5] .fixed)∧RowsB h' lo v' m'∧PR h' z p r.2.1 r.2.2∧Fr (λ q=>q=p∨q=x∨lo≤q) (λ q=>q=p∨q=x) h h'∧getP (way 2) t'=some (.ptr x 0)∧getP (way 4) t'=some (.ptr p 0)∧getP (way 0) t'=getP (way 0) t
theorem Tryz.rows16_loop {z p x lo:Nat} {c0 c1 c3 c4 c5:SV} (hx:x < z) (hz:z≤p) (hp:p < lo):∀ (j k:Nat) (y:Int) (bs:List UInt8) (bad:Bool) (v:SV) (m:List (Row × SV)) (t:T) (h:H),y=j→j < k→PR h z p bs bad→RowsB h lo v m→m.length+j≤1073741824→lo≤h.next→h.get x=some (.cells [c0,c1,v,c3,c4,c5] .fixed)→getP (way 2) t=some (.ptr x 0)→getP (way 4) t=some (.ptr p 0)→getP (way 5) t=some (.int .i64 y) →
  Gets (cLoop Tryz.l16_1 k Tryz.l2 t h) (RsPost z x p lo c0 c1 c3 c4 c5 t h m (rdL true (rdRow true) j bs bad)):=by
 intro j
 induction j with
 | zero=>
  intro k y bs bad v m t h hy hk R g hn hlo hw t2 t4 t5
  obtain ⟨k,rfl⟩:∃ m,k=m+1:=⟨k - 1,by omega⟩
  rw [loop_succ]
  generalize (λ t h=>cLoop Tryz.l16_1 k Tryz.l2 t h)=L
  unfold Tryz.l16_1
  have e1:ltI 0 y=false:=ltIf (by omega)
  simp [↓ kq,kq,↓ ku,ku,↓ ko,ko,↓ kt,↓ kz,kb,kv,kt,kx,t2,t4,t5,e1,gets_some,-bO_of,-bB_true,-bB_false,-H.next_push,-Int.natCast_add]
  exact ⟨rfl,v,m,by simp [rdL],hw,g,R,.refl,by simp [kq,kb,t2],by simp [kq,kb,t4],by simp [kq,kb]⟩
 | succ j ih=>
  intro k y bs bad v m t h hy hk R g hn hlo hw t2 t4 t5
  obtain ⟨k,rfl⟩:∃ m,k=m+1:=⟨k - 1,by omega⟩
  rw [loop_succ]
  generalize hL:(λ t h=>cLoop Tryz.l16_1 k Tryz.l2 t h)=L
  have e1:ltI 0 y=true:=ltIt (by omega)
  have e9:IntKind.i64.wrap (y - 1)=y - 1:=wrapI64 (by omega) (by omega)
  have k46:=Tryz.pleft46 R
  have hwn:=H.get_lt hw
  have stop:(bad || (true&&bs.isEmpty))=true→Tryz.l2 46 [.ptr p 0] h=some (.int .i64 0,h):=λ hc=>by
   rw [k46]
   cases bad with
   | true=>rfl
   | false=>cases bs with
    | nil=>rfl
    | cons=>cases hc
  have e:rdL true (rdRow true) (j+1) bs bad=bB (bad || (true&&bs.isEmpty)) ([],bs,bad) ((rdRow true bs bad).1::(rdL true (rdRow true) j (rdRow true bs bad).2.1 (rdRow true bs bad).2.2).1,(rdL true (rdRow true) j (rdRow true bs bad).2.1 (rdRow true bs bad).2.2).2):=rfl
  rw [e]
  cases hc:(bad || (true&&bs.isEmpty)) with
  | true=>
   have k46:=stop hc
   have e2:ltI 0 0=false:=ltIf (by omega)
   unfold Tryz.l16_1
   simp [↓ kq,kq,↓ ku,ku,↓ ko,ko,↓ kt,↓ kz,kb,kv,kt,kx,t2,t4,t5,e1,e2,k46,gets_some,-bO_of,-bB_true,-bB_false,-H.next_push,-Int.natCast_add]
   exact ⟨rfl,v,m,by simp [bB],hw,g,R,.refl,by simp [kq,kb,t2],by simp [kq,kb,t4],by simp [kq,kb]⟩
  | false=>
   obtain ⟨L1,hL1,k46⟩:∃ l:Int,0 < l∧Tryz.l2 46 [.ptr p 0] h=some (.int .i64 l,h):=by
    cases bad with
    | true=>cases hc
    | false=>cases bs with
     | nil=>cases hc
     | cons c r=>exact ⟨((c::r).length:Int),by simp only [List.length_cons];omega,k46⟩
   have e2:ltI 0 L1=true:=ltIt hL1
   obtain ⟨rx,h1,k1,sv,rfl,w1,o1,y1,R1,f1⟩:=Tryz.row47 R
   show Gets _ (RsPost z x p lo c0 c1 c3 c4 c5 t h m ((rdRow true bs bad).1::(rdL true (rdRow true) j (rdRow true bs bad).2.1 (rdRow true bs bad).2.2).1,(rdL true (rdRow true) j (rdRow true bs bad).2.1 (rdRow true bs bad).2.2).2))
   generalize rdRow true bs bad=q at *
   obtain ⟨row,b1,bad1⟩:=q
   simp only at k1 R1 w1 ⊢
   have e4:kcat [2] [.agg [.str row.var,sv]]=some [.str row.var,sv]:=rfl
   generalize hh2:h1.push (.cells [.str row.var,sv] .fixed)=h2
   have f2:=calm_push hh2
   have w2:=view_row (n:=1) (es:=2) (rowCells_fixed (get_pushed hh2)) rfl
   have g1:RowsB h1 lo v m:=g.keep f1 λ q hq _ e=>by have e:q=p:=e;omega
   have g2:RowsB h2 lo v m:=g1.keep f2 λ _ _ _ k=>k
   have B1:h1.get x=some (.cells [c0,c1,v,c3,c4,c5] .fixed):=f1.get hw (by show ¬x=p;omega)
   have B2:h2.get x=some (.cells [c0,c1,v,c3,c4,c5] .fixed):=(f2.keep x (H.get_lt B1) λ k=>k).trans B1
   have hlo2:lo≤h2.next:=by have:=f1.next;have:=f2.next;omega
   obtain ⟨v3,h3,q1,q2,q3⟩:=g2.add (row:=row) (w1.keep f2 λ _ _ k=>k) (λ q hq=>⟨by have:=o1 q hq;omega,λ e=>by have:=o1 q hq;have:=g.lt q e;omega⟩) y1 hlo2 (by omega)
   have q0:=append_V w2 q1
   have B3:h3.get x=some (.cells [c0,c1,v,c3,c4,c5] .fixed):=q3.get B2 (λ e=>by have:=g.own x e;omega)
   have R3:PR h3 z p b1 bad1:=(R1.keep f2 (λ k=>k) λ _ _ _ k=>k).keep q3 (λ e=>by have:=g.own p e;omega) λ q _ hq e=>by have:=g.own q e;omega
   have L0:=row_box hw
   have L1':=row_box B1
   have L3:=row_box B3
   have see:∀ t,seeL (lLoad none (xC (.ptr x 2))) t h h1=true:=λ t=>ks (L0 2) (L1' 2) (eqSV_view g.buf.view')
   have s3:storeV 1 h3 (.ptr x 2) v3=some (.tuple [],h3.put x (.cells [c0,c1,v3,c3,c4,c5] .fixed)):=storeV_one B3 (by simp) (buf_cells' q2.buf)
   have B4:(h3.put x (.cells [c0,c1,v3,c3,c4,c5] .fixed)).get x=some (.cells [c0,c1,v3,c3,c4,c5] .fixed):=get_put_self B3
   have f4:Fr (·=x) (·=x) h3 (h3.put x (.cells [c0,c1,v3,c3,c4,c5] .fixed)):=Fr.put (H.get_lt B3)
   generalize h3.put x (.cells [c0,c1,v3,c3,c4,c5] .fixed)=h4 at *
   have g4:RowsB h4 lo v3 (m++[(row,sv)]):=q2.keep f4 λ q hq _ e=>by have e:q=x:=e;omega
   have R4:PR h4 z p b1 bad1:=R3.keep f4 (by show ¬p=x;omega) λ q hq _ e=>by have e:q=x:=e;omega
   have F:Fr (λ q=>q=p∨q=x∨lo≤q) (λ q=>q=p∨q=x) h h4:=(((f1.mono (λ q _ e=>.inl e) λ q e=>.inl (.inl e)).trans (f2.mono (λ _ _ k=>k.elim) λ _ k=>k.elim)).trans (q3.mono (λ q _ e=>.inr (.inr (g.own q e))) λ _ k=>k.elim)).trans (f4.mono (λ q _ e=>.inr (.inl e)) λ q e=>.inl (.inr e))
   unfold Tryz.l16_1
   simp [↓ kq,kq,↓ ku,ku,↓ ko,ko,↓ kt,↓ kz,kb,kv,kt,kx,t2,t4,t5,e1,e2,e9,k46,k1,e4,hh2,q0,L0,L1',L3,s3,kw,see,gets_some,-bO_of,-bB_true,-bB_false,-H.next_push,-Int.natCast_add]
   rw [← hL]
   refine Gets.mono (ih k (y - 1) b1 bad1 v3 _ _ h4 (by omega) (by omega) R4 g4 (by rw [List.length_append];simp only [List.length_singleton];omega) (by have:=F.next;omega) B4 ?_ ?_ ?_) ?_
   rotate_right
   ·rintro fl t' h' ⟨x1,v',m',x2,x3,x4,x5,x6,x7,x8,x9⟩
    refine ⟨x1,v',m',?_,x3,x4,x5,F.trans x6,x7,x8,?_⟩
    ·rw [x2];simp
    ·rw [x9];simp [kq,kb]
   all_goals simp [kq,kb,t2,t4,t5]
def EsPost (z x p lo:Nat) (c0 c1 c2 c4 c5:SV) (t:T) (h:H) (cs:List SV) (r:List Edg × List UInt8 × Bool) (fl:Flow) (t':T) (h':H):Prop:=
 fl=.exit 4∧∃ v' n',h'.get x=some (.cells [c0,c1,c2,v',c4,c5] .fixed)∧Gro h' lo 3 v' n' (cs++edgs r.1)∧PR h' z p r.2.1 r.2.2∧Fr (λ q=>q=p∨q=x∨lo≤q) (λ q=>q=p∨q=x) h h'∧getP (way 2) t'=some (.ptr x 0)∧getP (way 4) t'=some (.ptr p 0)∧getP (way 0) t'=getP (way 0) t
theorem edgs_cons2 (e:Edg) (l:List Edg):edgs (e::l)=e.cells++edgs l:=rfl
theorem Tryz.edges16_loop {z p x lo:Nat} {c0 c1 c2 c4 c5:SV} (hx:x < z) (hz:z≤p) (hp:p < lo):∀ (j k n:Nat) (y:Int) (bs:List UInt8) (bad:Bool) (v:SV) (cs:List SV) (t:T) (h:H),y=j→j < k→PR h z p bs bad→Gro h lo 3 v n cs→n+j≤1073741824→lo≤h.next→h.get x=some (.cells [c0,c1,c2,v,c4,c5] .fixed)→getP (way 2) t=some (.ptr x 0)→getP (way 4) t=some (.ptr p 0)→getP (way 6) t=some (.int .i64 y) →
  Gets (cLoop Tryz.l16_0 k Tryz.l2 t h) (EsPost z x p lo c0 c1 c2 c4 c5 t h cs (rdL true rdEdg j bs bad)):=by
 intro j
 induction j with
 | zero=>
  intro k n y bs bad v cs t h hy hk R g hn hlo hw t2 t4 t6
  obtain ⟨k,rfl⟩:∃ m,k=m+1:=⟨k - 1,by omega⟩
  rw [loop_succ]
  generalize (λ t h=>cLoop Tryz.l16_0 k Tryz.l2 t h)=L
  unfold Tryz.l16_0
  have e1:ltI 0 y=false:=ltIf (by omega)
  simp [↓ kq,kq,↓ ku,ku,↓ ko,ko,↓ kt,↓ kz,kb,kv,kt,kx,t2,t4,t6,e1,gets_some,-bO_of,-bB_true,-bB_false,-H.next_push,-Int.natCast_add]
  exact ⟨rfl,v,n,hw,by simpa [rdL,edgs] using g,R,.refl,by simp [kq,kb,t2],by simp [kq,kb,t4],by simp [kq,kb]⟩
 | succ j ih=>
  intro k n y bs bad v cs t h hy hk R g hn hlo hw t2 t4 t6
  obtain ⟨k,rfl⟩:∃ m,k=m+1:=⟨k - 1,by omega⟩
  rw [loop_succ]
  generalize hL:(λ t h=>cLoop Tryz.l16_0 k Tryz.l2 t h)=L
  have e1:ltI 0 y=true:=ltIt (by omega)
  have e9:IntKind.i64.wrap (y - 1)=y - 1:=wrapI64 (by omega) (by omega)
  have k46:=Tryz.pleft46 R
  have hwn:=H.get_lt hw
  have stop:(bad || (true&&bs.isEmpty))=true→Tryz.l2 46 [.ptr p 0] h=some (.int .i64 0,h):=λ hc=>by
   rw [k46]
   cases bad with
   | true=>rfl
   | false=>cases bs with
    | nil=>rfl
    | cons=>cases hc
  have e:rdL true rdEdg (j+1) bs bad=bB (bad || (true&&bs.isEmpty)) ([],bs,bad) ((rdEdg bs bad).1::(rdL true rdEdg j (rdEdg bs bad).2.1 (rdEdg bs bad).2.2).1,(rdL true rdEdg j (rdEdg bs bad).2.1 (rdEdg bs bad).2.2).2):=rfl
  rw [e]
  cases hc:(bad || (true&&bs.isEmpty)) with
  | true=>
   have k46:=stop hc
   have e2:ltI 0 0=false:=ltIf (by omega)
   unfold Tryz.l16_0
   simp [↓ kq,kq,↓ ku,ku,↓ ko,ko,↓ kt,↓ kz,kb,kv,kt,kx,t2,t4,t6,e1,e2,k46,gets_some,-bO_of,-bB_true,-bB_false,-H.next_push,-Int.natCast_add]
   exact ⟨rfl,v,n,hw,by simpa [bB,edgs] using g,R,.refl,by simp [kq,kb,t2],by simp [kq,kb,t4],by simp [kq,kb]⟩
  | false=>
   obtain ⟨L1,hL1,k46⟩:∃ l:Int,0 < l∧Tryz.l2 46 [.ptr p 0] h=some (.int .i64 l,h):=by
    cases bad with
    | true=>cases hc
    | false=>cases bs with
     | nil=>cases hc
     | cons c r=>exact ⟨((c::r).length:Int),by simp only [List.length_cons];omega,k46⟩
   have e2:ltI 0 L1=true:=ltIt hL1
   obtain ⟨ha,ka,Ra,fa⟩:=Tryz.ptext43 R
   have er:rdEdg bs bad=((⟨(rdT bs bad).1,(rdN (rdT bs bad).2.1 (rdT bs bad).2.2).1,(rdT (rdN (rdT bs bad).2.1 (rdT bs bad).2.2).2.1 (rdN (rdT bs bad).2.1 (rdT bs bad).2.2).2.2).1⟩:Edg),(rdT (rdN (rdT bs bad).2.1 (rdT bs bad).2.2).2.1 (rdN (rdT bs bad).2.1 (rdT bs bad).2.2).2.2).2):=rfl
   show Gets _ (EsPost z x p lo c0 c1 c2 c4 c5 t h cs ((rdEdg bs bad).1::(rdL true rdEdg j (rdEdg bs bad).2.1 (rdEdg bs bad).2.2).1,(rdL true rdEdg j (rdEdg bs bad).2.1 (rdEdg bs bad).2.2).2))
   rw [er]
   generalize rdT bs bad=q at *
   obtain ⟨sa,ba,bada⟩:=q
   simp only at ka Ra ⊢
   obtain ⟨hb,kb1,Rb,fb⟩:=Tryz.ptwo48 Ra
   have kb1:Tryz.l2 48 [.ptr p 0] ha=some (.int .i64 (rdN ba bada).1,hb):=kb1
   have Rb:PR hb z p (rdN ba bada).2.1 (rdN ba bada).2.2:=Rb
   generalize rdN ba bada=q at *
   obtain ⟨nb,bb,badb⟩:=q
   simp only at kb1 Rb ⊢
   obtain ⟨h1,k1,R1,fc⟩:=Tryz.ptext43 Rb
   generalize rdT bb badb=q at *
   obtain ⟨sc,b1,bad1⟩:=q
   simp only at k1 R1 ⊢
   have f1:Fr (·=p) (·=p) h h1:=(fa.trans fb).trans fc
   have e5:kcat [1,1,1] [SV.str sa,.int .i64 nb,.str sc]=some [.str sa,.int .i64 nb,.str sc]:=rfl
   have e4:kcat [3] [.agg [.str sa,.int .i64 nb,.str sc]]=some [.str sa,.int .i64 nb,.str sc]:=rfl
   generalize hh2:h1.push (.cells [.str sa,.int .i64 nb,.str sc] .fixed)=h2
   have f2:=calm_push hh2
   have w2:=view_row (n:=1) (es:=3) (rowCells_fixed (get_pushed hh2)) rfl
   have g1:Gro h1 lo 3 v n cs:=g.keep f1 λ q hq e=>by have e:q=p:=e;omega
   have g2:Gro h2 lo 3 v n cs:=g1.keep f2 λ _ _ k=>k
   have hxp:¬(x=p):=by omega
   have Ba:ha.get x=some (.cells [c0,c1,c2,v,c4,c5] .fixed):=fa.get hw hxp
   have Bb:hb.get x=some (.cells [c0,c1,c2,v,c4,c5] .fixed):=fb.get Ba hxp
   have B1:h1.get x=some (.cells [c0,c1,c2,v,c4,c5] .fixed):=fc.get Bb hxp
   have B2:h2.get x=some (.cells [c0,c1,c2,v,c4,c5] .fixed):=(f2.keep x (H.get_lt B1) λ k=>k).trans B1
   have hlo2:lo≤h2.next:=by have:=f1.next;have:=f2.next;omega
   obtain ⟨v3,h3,q1,q2,q3⟩:=g2.append (bytes:=40) 1 [.str sa,.int .i64 nb,.str sc] rfl (by omega) hlo2
   have q0:=append_V w2 q1
   have B3:h3.get x=some (.cells [c0,c1,c2,v,c4,c5] .fixed):=q3.get B2 (by show ¬lo≤x;omega)
   have R3:PR h3 z p b1 bad1:=(R1.keep f2 (λ k=>k) λ _ _ _ k=>k).keep q3 (by show ¬lo≤p;omega) λ q _ hq e=>by have e:lo≤q:=e;omega
   have L0:=row_box hw
   have La:=row_box Ba
   have Lb:=row_box Bb
   have L1':=row_box B1
   have L3:=row_box B3
   have see1:∀ t,seeL (lLoad none (xC (.ptr x 3))) t h ha=true:=λ t=>ks (L0 3) (La 3) (eqSV_view g.view)
   have see2:∀ t,seeL (lLoad none (xC (.ptr x 3))) t h hb=true:=λ t=>ks (L0 3) (Lb 3) (eqSV_view g.view)
   have see3:∀ t,seeL (lLoad none (xC (.ptr x 3))) t h h1=true:=λ t=>ks (L0 3) (L1' 3) (eqSV_view g.view)
   have s3:storeV 1 h3 (.ptr x 3) v3=some (.tuple [],h3.put x (.cells [c0,c1,c2,v3,c4,c5] .fixed)):=storeV_one B3 (by simp) (gro_cells q2)
   have B4:(h3.put x (.cells [c0,c1,c2,v3,c4,c5] .fixed)).get x=some (.cells [c0,c1,c2,v3,c4,c5] .fixed):=get_put_self B3
   have f4:Fr (·=x) (·=x) h3 (h3.put x (.cells [c0,c1,c2,v3,c4,c5] .fixed)):=Fr.put (H.get_lt B3)
   generalize h3.put x (.cells [c0,c1,c2,v3,c4,c5] .fixed)=h4 at *
   have g4:Gro h4 lo 3 v3 (n+1) (cs++[.str sa,.int .i64 nb,.str sc]):=q2.keep f4 λ q hq e=>by have e:q=x:=e;omega
   have R4:PR h4 z p b1 bad1:=R3.keep f4 (by show ¬p=x;omega) λ q hq _ e=>by have e:q=x:=e;omega
   have F:Fr (λ q=>q=p∨q=x∨lo≤q) (λ q=>q=p∨q=x) h h4:=(((f1.mono (λ q _ e=>.inl e) λ q e=>.inl (.inl e)).trans (f2.mono (λ _ _ k=>k.elim) λ _ k=>k.elim)).trans (q3.mono (λ q _ e=>.inr (.inr e)) λ _ k=>k.elim)).trans (f4.mono (λ q _ e=>.inr (.inl e)) λ q e=>.inl (.inr e))
   unfold Tryz.l16_0
   simp [↓ kq,kq,↓ ku,ku,↓ ko,ko,↓ kt,↓ kz,kb,kv,kt,kx,t2,t4,t6,e1,e2,e9,k46,ka,kb1,k1,e4,e5,hh2,q0,L0,La,Lb,L1',L3,s3,kw,see1,see2,see3,gets_some,-bO_of,-bB_true,-bB_false,-H.next_push,-Int.natCast_add]
   rw [← hL]
   refine Gets.mono (ih k (n+1) (y - 1) b1 bad1 v3 _ _ h4 (by omega) (by omega) R4 g4 (by omega) (by have:=F.next;omega) B4 ?_ ?_ ?_) ?_
   rotate_right
   ·rintro fl t' h' ⟨x1,v',n',x3,x4,x5,x6,x7,x8,x9⟩
    refine ⟨x1,v',n',x3,?_,x5,F.trans x6,x7,x8,?_⟩
    ·show Gro h' lo 3 v' n' (cs++edgs (⟨sa,nb,sc⟩::_))
     rw [edgs_cons2,← List.append_assoc]
     exact x4
    ·rw [x9];simp [kq,kb]
   all_goals simp [kq,kb,t2,t4,t6]
end
end Go.Proofs
end
section
/- LadderForms: bytes that are alike. -/
namespace Go.Proofs
open Go.Sh
set_option maxRecDepth 100000
attribute [local instance] powHeld
noncomputable section
theorem u8zAt {l:List Int} {i:Nat} {x:Int} (h:l[i]?=some x):(u8z l)[i]?=some (.int .u8 x):=by simp [u8z,h]
theorem Tryz.eq49_loop {h:H} {v u:SV} {a b:List Int} (w:View h 1 v a.length (u8z a)) (x:View h 1 u b.length (u8z b)) (hl:a.length=b.length) (hm:a.length < 4611686018427387904):∀ (j i k:Nat) (t:T),i+j=a.length→j < k→a.take i=b.take i→getP (way 0) t=some v→getP (way 1) t=some u→getP (way 13) t=some (.int .i64 i)→getP (way 12) t=some (.int .i64 a.length) →
  Gets (cLoop Tryz.l49_0 k Tryz.l2 t h) (EqPost h (decide (a=b))):=by
 intro j
 induction j with
 | zero=>
  intro i k t hi hk hp t0 t1 t13 t12
  obtain ⟨k,rfl⟩:∃ m,k=m+1:=⟨k - 1,by omega⟩
  rw [loop_succ]
  generalize (λ t h=>cLoop Tryz.l49_0 k Tryz.l2 t h)=L
  unfold Tryz.l49_0
  have e1:ltI (i:Int) (a.length:Int)=false:=ltIf (by omega)
  have lv:=w.length
  have hab:a=b:=by rw [List.take_of_length_le (by omega),List.take_of_length_le (by omega)] at hp;exact hp
  simp [↓ kq,kq,↓ ku,ku,↓ ko,ko,↓ kt,↓ kz,kb,kv,kt,kx,t0,t1,t13,t12,lv,e1,gets_some,-bO_of,-bB_true,-bB_false,-H.next_push,-Int.natCast_add]
  exact ⟨rfl,.inl ⟨rfl,decide_eq_true hab⟩⟩
 | succ j ih=>
  intro i k t hi hk hp t0 t1 t13 t12
  obtain ⟨k,rfl⟩:∃ m,k=m+1:=⟨k - 1,by omega⟩
  rw [loop_succ]
  generalize hL:(λ t h=>cLoop Tryz.l49_0 k Tryz.l2 t h)=L
  have e1:ltI (i:Int) (a.length:Int)=true:=ltIt (by omega)
  have lv:=w.length
  have e6:intN (i:Int)=some i:=intN_nat i
  have e9:IntKind.i64.wrap ((i:Int)+1)=((i+1:Nat):Int):=by rw [wrapI64 (by omega) (by omega)];omega
  obtain ⟨x1,h1⟩:∃ s,a[i]?=some s:=⟨a[i]'(by omega),List.getElem?_eq_getElem (by omega)⟩
  obtain ⟨x2,h2⟩:∃ s,b[i]?=some s:=⟨b[i]'(by omega),List.getElem?_eq_getElem (by omega)⟩
  obtain ⟨p1,a1,a2⟩:=view_one w (i:=i) (by omega)
  obtain ⟨p2,b1,b2⟩:=view_one x (i:=i) (by omega)
  rw [u8zAt h1] at a2
  rw [u8zAt h2] at b2
  unfold Tryz.l49_0
  by_cases hx:x1=x2
  ·subst hx
   have e3:eqI x1 x1=true:=eqI_self x1
   simp [↓ kq,kq,↓ ku,ku,↓ ko,ko,↓ kt,↓ kz,kb,kv,kt,kx,t0,t1,t13,t12,lv,e1,e6,e9,a1,a2,b1,b2,e3,gets_some,-bO_of,-bB_true,-bB_false,-H.next_push,-Int.natCast_add]
   rw [← hL]
   refine Gets.mono (ih (i+1) k _ (by omega) (by omega) (take_eq_succ h1 h2 hp) ?_ ?_ ?_ ?_) λ fl t' h' r=>r
   all_goals simp [kq,kb,t0,t1,t13,t12]
  ·have e3:eqI x1 x2=false:=eqIf hx
   simp [↓ kq,kq,↓ ku,ku,↓ ko,ko,↓ kt,↓ kz,kb,kv,kt,kx,t0,t1,t13,t12,lv,e1,e6,e9,a1,a2,b1,b2,e3,gets_some,-bO_of,-bB_true,-bB_false,-H.next_push,-Int.natCast_add]
   exact ⟨rfl,.inr ⟨rfl,by simp [kq,kb],decide_eq_false λ e=>ne_of_get h1 h2 hx e⟩⟩
theorem Tryz.eq49 {h:H} {v u:SV} {a b:List Int} (w:View h 1 v a.length (u8z a)) (x:View h 1 u b.length (u8z b)) (hm:a.length < 4611686018427387904) (hm2:b.length < 4611686018427387904):Tryz.l2 49 [v,u] h=some (.bool (decide (a=b)),h):=by
 have main:∃ v' h',Tryz.l2 49 [v,u] h=some (v',h')∧(v'=.bool (decide (a=b))∧h'=h):=by
  refine Go.Sh.enG Tryz.kTab_ok (X:=Tryz.X2) (kf:=Tryz.k49) rfl (by kernel_rfl) (a.length+2) rfl rfl ?_
  have lv:=w.length
  have lu:=x.length
  by_cases hl:a.length=b.length
  ·have e1:eqI (a.length:Int) (b.length:Int)=true:=eqIt (by omega)
   simp [↓ kq,kq,↓ ku,ku,↓ ko,ko,↓ kt,↓ kz,kb,kv,kt,kx,lv,lu,e1,gets_some,-bO_of,-bB_true,-bB_false,-H.next_push,-Int.natCast_add]
   refine gets_next (gets_leave (Gets.mono (Tryz.eq49_loop w x hl hm a.length 0 (a.length+2) _ (by omega) (by omega) rfl ?_ ?_ ?_ ?_) ?_))
   rotate_right
   ·rintro fl t' h' ⟨rfl,⟨rfl,hd⟩ | ⟨rfl,c1,hd⟩⟩
    ·simp only [if_true]
     rw [hd]
     simp [↓ kq,kq,↓ ku,ku,↓ ko,ko,↓ kt,↓ kz,kb,kv,kt,kx,gets_some,kc,oneS,-bO_of,-bB_true,-bB_false,-H.next_push,-Int.natCast_add]
    ·rw [hd]
     simp [↓ kq,kq,↓ ku,ku,↓ ko,ko,↓ kt,↓ kz,kb,kv,kt,kx,c1,gets_some,kc,oneS,-bO_of,-bB_true,-bB_false,-H.next_push,-Int.natCast_add]
   all_goals simp [kq,kb]
  ·have e1:eqI (a.length:Int) (b.length:Int)=false:=eqIf (by omega)
   have hd:decide (a=b)=false:=decide_eq_false λ e=>hl (by rw [e])
   rw [hd]
   simp [↓ kq,kq,↓ ku,ku,↓ ko,ko,↓ kt,↓ kz,kb,kv,kt,kx,lv,lu,e1,gets_some,kc,oneS,-bO_of,-bB_true,-bB_false,-H.next_push,-Int.natCast_add]
 obtain ⟨_,_,k1,rfl,rfl⟩:=main
 exact k1
def IsZ (cs:List SV):Prop:=∃ zs,cs=u8z zs
theorem IsZ.app {a b:List SV} (x:IsZ a) (y:IsZ b):IsZ (a++b):=by
 obtain ⟨za,rfl⟩:=x
 obtain ⟨zb,rfl⟩:=y
 exact ⟨za++zb,by simp [u8z]⟩
theorem IsZ.be:∀ (s:Nat) (x:Int),IsZ (be s x)
 | 0,_=>⟨[],rfl⟩
 | s+1,x=>by
  obtain ⟨zs,e⟩:=IsZ.be s x
  refine ⟨wrapS .u8 (x.fdiv (2 ^ (8 * s)))::zs,?_⟩
  show SV.int .u8 _::Go.Proofs.be s x=SV.int .u8 _::u8z zs
  rw [e]
theorem IsZ.u8s (b:List UInt8):IsZ (u8s b):=⟨_,u8s_z b⟩
theorem IsZ.flat {α:Type} {f:α→List SV} (h:∀ x,IsZ (f x)):∀ l:List α,IsZ (l.flatMap f)
 | []=>⟨[],rfl⟩
 | x::l=>by rw [List.flatMap_cons];exact (h x).app (IsZ.flat h l)
theorem IsZ.text (s:List UInt8):IsZ (bText s):=(IsZ.be 2 _).app (IsZ.u8s s)
theorem IsZ.texts (l:List (List UInt8)):IsZ (bTexts l):=(IsZ.be 2 _).app (IsZ.flat IsZ.text l)
theorem IsZ.row (x:Row):IsZ (bRow x):=(IsZ.text _).app ((IsZ.be 2 _).app (IsZ.flat (IsZ.be 2) _))
theorem IsZ.edge (x:Edg):IsZ (bE x):=(IsZ.text _).app ((IsZ.be 2 _).app (IsZ.text _))
theorem IsZ.enc (r:RD):IsZ (encD r):=by
 unfold encD
 split
 ·exact (IsZ.u8s _).app ((IsZ.text _).app ((IsZ.texts _).app ((IsZ.be 2 _).app ((IsZ.flat IsZ.row _).app ((IsZ.be 2 _).app ((IsZ.flat IsZ.edge _).app ((IsZ.texts _).app (IsZ.texts _))))))))
 ·exact ⟨[],rfl⟩
theorem u8z_len (l:List Int):(u8z l).length=l.length:=by simp [u8z]
theorem u8z_inj:∀ {a b:List Int},u8z a=u8z b→a=b
 | [],[],_=>rfl
 | [],_::_,h=>by cases h
 | _::_,[],h=>by cases h
 | x::a,y::b,h=>by
  have h':SV.int .u8 x::u8z a=SV.int .u8 y::u8z b:=h
  injection h' with h1 h2
  injection h1 with _ h3
  rw [h3,u8z_inj h2]
open Classical in
theorem Tryz.alike49 {h:H} {v u:SV} {a b:List SV} (w:View h 1 v a.length a) (x:View h 1 u b.length b) (ha:IsZ a) (hb:IsZ b) (hm:a.length < 4611686018427387904) (hm2:b.length < 4611686018427387904):Tryz.l2 49 [v,u] h=some (.bool (decide (a=b)),h):=by
 obtain ⟨za,rfl⟩:=ha
 obtain ⟨zb,rfl⟩:=hb
 rw [u8z_len] at w x hm hm2
 rw [Tryz.eq49 w x hm hm2]
 have e:decide (za=zb)=decide (u8z za=u8z zb):=by
  by_cases c:za=zb
  ·rw [decide_eq_true c,decide_eq_true (by rw [c])]
  ·rw [decide_eq_false c,decide_eq_false λ e=>c (u8z_inj e)]
 rw [e]
end
end Go.Proofs
end
section
/- LadderForms: the program's Decode. -/
namespace Go.Proofs
open Go.Sh
set_option maxRecDepth 100000
attribute [local instance] powHeld
noncomputable section
theorem gets_jump {r:FR} {k:Nat→T→H→FR} {Q:Flow→T→H→Prop} (g:Gets r λ fl t h=>(fl=.normal∨fl=.ret)∧Q fl t h):Gets (kjump r k) Q:=by
 match r,g with
 | some (fl,t,h),g=>
  obtain ⟨rfl | rfl,q⟩:=g
  ·exact q
  ·exact q
theorem Tryz.pone42 {h:H} {z p:Nat} {c:UInt8} {bs:List UInt8} (R:PR h z p (c::bs) false):∃ v h',Tryz.l2 42 [.ptr p 0] h=some (.int .i64 v,h')∧PR h' z p bs false∧Fr (·=p) (·=p) h h':=by
 obtain ⟨zs,a,b,r,hz,hb,hr⟩:=R
 obtain ⟨h',k1,k2,k3⟩:=Tryz.ru1 r
 have hb:=hb rfl
 have hl:bs.length+1=zs.length - a:=by
  have:=congrArg List.length hb
  rw [bytesZ_len,List.length_drop,List.length_cons] at this
  exact this
 have hf:fits zs.length a false 1=true:=by
  unfold fits
  rw [decide_eq_true (by omega)];rfl
 rw [hf] at k1 k2
 refine ⟨_,h',k1,⟨zs,a+1,b,k2,hz,λ _=>?_,hr⟩,k3⟩
 have e:zs.drop (a+1)=(zs.drop a).drop 1:=by rw [List.drop_drop]
 rw [e,bytesZ_drop,← hb];rfl
def U1Post (z p:Nat) (bs:List UInt8) (t:T) (h:H) (fl:Flow) (t':T) (h':H):Prop:=fl=.exit 0∧PR h' z p bs false∧Fr (·=p) (·=p) h h'∧getP (way 0) t'=getP (way 0) t∧getP (way 2) t'=getP (way 2) t∧getP (way 4) t'=getP (way 4) t
theorem Tryz.u1_loop {z p:Nat}:∀ (j i k:Nat) (bs:List UInt8) (t:T) (h:H),i+j=4→j < k→PR h z p bs false→j≤bs.length→getP (way 4) t=some (.ptr p 0)→getP (way 17) t=some (.int .i64 i) →
  Gets (cLoop Tryz.l16_2 k Tryz.l2 t h) (U1Post z p (bs.drop j) t h):=by
 intro j
 induction j with
 | zero=>
  intro i k bs t h hi hk R hj t4 t17
  obtain ⟨k,rfl⟩:∃ m,k=m+1:=⟨k - 1,by omega⟩
  rw [loop_succ]
  generalize (λ t h=>cLoop Tryz.l16_2 k Tryz.l2 t h)=L
  unfold Tryz.l16_2
  have e1:ltI (i:Int) 4=false:=ltIf (by omega)
  simp [↓ kq,kq,↓ ku,ku,↓ ko,ko,↓ kt,↓ kz,kb,kv,kt,kx,t4,t17,e1,gets_some,-bO_of,-bB_true,-bB_false,-H.next_push,-Int.natCast_add]
  exact ⟨rfl,R,.refl,by simp [kq,kb],by simp [kq,kb],by simp [kq,kb]⟩
 | succ j ih=>
  intro i k bs t h hi hk R hj t4 t17
  obtain ⟨k,rfl⟩:∃ m,k=m+1:=⟨k - 1,by omega⟩
  rw [loop_succ]
  generalize hL:(λ t h=>cLoop Tryz.l16_2 k Tryz.l2 t h)=L
  have e1:ltI (i:Int) 4=true:=ltIt (by omega)
  have e9:IntKind.i64.wrap ((i:Int)+1)=((i+1:Nat):Int):=by rw [wrapI64 (by omega) (by omega)];omega
  match bs,hj,R with
  | c::bs,hj,R=>
   obtain ⟨v,h1,k1,R1,f1⟩:=Tryz.pone42 R
   unfold Tryz.l16_2
   simp [↓ kq,kq,↓ ku,ku,↓ ko,ko,↓ kt,↓ kz,kb,kv,kt,kx,t4,t17,e1,e9,k1,gets_some,-bO_of,-bB_true,-bB_false,-H.next_push,-Int.natCast_add]
   rw [← hL]
   refine Gets.mono (ih (i+1) k bs _ h1 (by omega) (by omega) R1 (by simpa using hj) ?_ ?_) ?_
   rotate_right
   ·rintro fl t' h' ⟨x1,x2,x3,x4,x5,x6⟩
    refine ⟨x1,x2,f1.trans x3,?_,?_,?_⟩
    ·rw [x4];simp [kq,kb]
    ·rw [x5];simp [kq,kb]
    ·rw [x6];simp [kq,kb]
   all_goals simp [kq,kb,t4]
def zeroR:List SV:=[.str [],.nilslice,.nilslice,.nilslice,.nilslice,.nilslice]
def DecP (b:List UInt8) (v:SV) (h':H):Prop:=(4≤b.length∧encD (proD b)=u8s b∧∃ cs m,v=.tuple [.agg cs,.int .i64 0]∧RepV h' h'.next cs (proD b) m)∨(¬(4≤b.length∧encD (proD b)=u8s b)∧v=.tuple [.agg zeroR,.int .i64 7])
theorem Tryz.decode16_bad {h:H} {bv:SV} {b:List UInt8} (w:View h 1 bv b.length (u8s b)) (hb:b.length < 4):∃ v h',Tryz.l2 16 [bv] h=some (v,h')∧(DecP b v h'∧Calms h h'):=by
 refine Go.Sh.enG Tryz.kTab_ok (X:=Tryz.X2) (kf:=Tryz.k16) rfl (by kernel_rfl) 4 rfl rfl ?_
 generalize hh0:h.push (.cells [.str [],.nilslice,.nilslice,.nilslice,.nilslice,.nilslice] .fixed)=h0
 have f0:=calm_push hh0
 have B0:=get_pushed hh0
 obtain ⟨p,h1,k1,R1,f1,hp⟩:=Tryz.preader (w.keep f0 λ _ _ k=>k) (by omega)
 have B1:h1.get h.next=some (.cells [.str [],.nilslice,.nilslice,.nilslice,.nilslice,.nilslice] .fixed):=(f1.keep _ (H.get_lt B0) λ k=>k).trans B0
 have e1:ltI 1048576 (b.length:Int)=false:=ltIf (by omega)
 have e2:ltI (b.length:Int) 4=true:=ltIt (by omega)
 have e3:∀ t,vFill [.str [],.nilslice,.nilslice,.nilslice,.nilslice,.nilslice] [] [] t=some (.agg zeroR):=λ _=>rfl
 have lb:=w.length
 have s1:storeV 6 h1 (.ptr h.next 0) (.agg zeroR)=some (.tuple [],h1.put h.next (.cells zeroR .fixed)):=storeV_all B1 rfl rfl
 have B2:(h1.put h.next (.cells zeroR .fixed)).get h.next=some (.cells zeroR .fixed):=get_put_self B1
 have f2:Fr (·=h.next) (·=h.next) h1 (h1.put h.next (.cells zeroR .fixed)):=Fr.put (H.get_lt B1)
 generalize h1.put h.next (.cells zeroR .fixed)=h2 at *
 have La:loadV (some 6) h2.get (.ptr h.next 0)=some (.agg zeroR):=loadV_all (rowCells_fixed B2) rfl
 simp [↓ kq,kq,↓ ku,ku,↓ ko,ko,↓ kt,↓ kz,kb,kv,kt,kx,hh0,k1,e1,e2,e3,lb,s1,La,scope_succ,kj,behind,gets_some,kc,oneS,-bO_of,-bB_true,-bB_false,-H.next_push,-Int.natCast_add]
 exact ⟨.inr ⟨λ e=>by omega,rfl⟩,Fr.new (f0.trans f1) f2 (λ q hq=>by have e:q=h.next:=hq;omega) (λ q hq=>by have e:q=h.next:=hq;omega)⟩
end
end Go.Proofs
end
section
/- LadderForms: the program's Decode, of four bytes and more. -/
namespace Go.Proofs
open Go.Sh
set_option maxRecDepth 100000
attribute [local instance] powHeld
noncomputable section
theorem RowsB.rows {h:H} {lo:Nat} {v:SV} {m:List (Row × SV)} (r:RowsB h lo v m):RowsV h h.next v m:=
 ⟨r.buf.view',r.lt,λ x hx=>⟨(r.sets x hx).1,λ q hq=>((r.sets x hx).2.1 q hq).2.1,(r.sets x hx).2.2⟩⟩
theorem gro_texts {h:H} {lo n:Nat} {v:SV} {l:List (List UInt8)} (g:Gro h lo 1 v n (strs l)):View h 1 v l.length (strs l):=by
 have e:n=l.length:=by have:=g.1;simp [strs] at this;omega
 rw [← e];exact g.view
theorem edgs_len':∀ l:List Edg,(edgs l).length=l.length * 3
 | []=>rfl
 | e::l=>by rw [edgs_cons2,List.length_append,edgs_len' l,List.length_cons];show 3+_=_;omega
theorem gro_edges {h:H} {lo n:Nat} {v:SV} {l:List Edg} (g:Gro h lo 3 v n (edgs l)):View h 3 v l.length (edgs l):=by
 have e:n=l.length:=by have:=g.1;rw [edgs_len'] at this;omega
 rw [← e];exact g.view
theorem bText_len (s:List UInt8):(bText s).length=s.length+2:=by unfold bText;rw [List.length_append,be_length,u8s_len];omega
theorem bTs_len:∀ l,(bTs l).length=szT l
 | []=>rfl
 | s::l=>by show (bText s++bTs l).length=s.length+2+szT l;rw [List.length_append,bText_len,bTs_len l]
theorem bNs_len:∀ l,(bNs l).length=2 * l.length
 | []=>rfl
 | s::l=>by show (be 2 s++bNs l).length=2 * (l.length+1);rw [List.length_append,be_length,bNs_len l];omega
theorem bRs_len:∀ l,(bRs l).length=szR l
 | []=>rfl
 | s::l=>by
  show ((bText s.var++(be 2 s.set.length++bNs s.set))++bRs l).length=s.var.length+4+2 * s.set.length+szR l
  rw [List.length_append,List.length_append,List.length_append,bText_len,be_length,bNs_len,bRs_len l];omega
theorem bEs_len:∀ l,(bEs l).length=szE l
 | []=>rfl
 | s::l=>by
  show ((bText s.src++(be 2 s.pc++bText s.dst))++bEs l).length=s.src.length+s.dst.length+6+szE l
  rw [List.length_append,List.length_append,List.length_append,bText_len,be_length,bText_len,bEs_len l];omega
theorem encD_len (r:RD):(encD r).length≤szD r:=by
 unfold encD
 split
 ·unfold bD bTexts szD
  simp only [List.length_append,bText_len,be_length,u8s_len,bTs_len,bRs_len,bEs_len]
  have:magicB.length=4:=rfl
  omega
 ·exact Nat.zero_le _
open Classical in
set_option maxHeartbeats 8000000 in
theorem Tryz.decode16_long {h:H} {bv:SV} {b:List UInt8} (w:View h 1 bv b.length (u8s b)) (hb:4≤b.length) (hmax:b.length≤1000000):∃ v h',Tryz.l2 16 [bv] h=some (v,h')∧(DecP b v h'∧Calms h h'):=by
 refine Go.Sh.enG Tryz.kTab_ok (X:=Tryz.X2) (kf:=Tryz.k16) rfl (by kernel_rfl) 70000 rfl rfl ?_
 have hpro:proD b=(rdRD true (b.drop 4) false).1:=rfl
 have hsz:szD (proD b)≤(b.drop 4).length+64:=proD_size true (b.drop 4) false
 have hdl:(b.drop 4).length≤b.length:=by rw [List.length_drop];omega
 simp only [rdRD,rdM,rdP,toRD] at hpro
 generalize hh0:h.push (.cells [.str [],.nilslice,.nilslice,.nilslice,.nilslice,.nilslice] .fixed)=h0
 have f0:=calm_push hh0
 have B0:=get_pushed hh0
 have n0:h0.next=h.next+1:=by rw [← hh0];rfl
 obtain ⟨p,h1,k1,R1,f1,hp⟩:=Tryz.preader (w.keep f0 λ _ _ k=>k) (by omega)
 have B1:h1.get h.next=some (.cells [.str [],.nilslice,.nilslice,.nilslice,.nilslice,.nilslice] .fixed):=(f1.keep _ (H.get_lt B0) λ k=>k).trans B0
 have e1:ltI 1048576 (b.length:Int)=false:=ltIf (by omega)
 have e2:ltI (b.length:Int) 4=false:=ltIf (by omega)
 have lb:=w.length
 obtain ⟨x,hxd⟩:∃ x,x=h.next:=⟨_,rfl⟩
 have hx:x < h0.next:=by omega
 have hxp:¬x=p:=by omega
 have sx:∀ {a c:H},Fr (·=p) (·=p) a c→Fr (λ q=>q=p∨q=x) (λ q=>q=p∨q=x) a c:=λ f=>f.mono (λ q _ e=>.inl e) λ q e=>.inl (.inl e)
 have sp:∀ {a c:H},Fr (·=x) (·=x) a c→Fr (λ q=>q=p∨q=x) (λ q=>q=p∨q=x) a c:=λ f=>f.mono (λ q _ e=>.inr e) λ q e=>.inl (.inr e)
 have nox:∀ {lo:Nat},p < lo→∀ q,lo≤q→¬(q=p∨q=x):=λ hl q hq e=>by omega
 rw [← hxd] at B1
 have U:∀ {a:H} {cs:List SV} {bs:List UInt8} {bad:Bool},a.get x=some (.cells cs .fixed)→PR a h0.next p bs bad→∀ cs',(a.put x (.cells cs' .fixed)).get x=some (.cells cs' .fixed)∧Fr (λ q=>q=p∨q=x) (λ q=>q=p∨q=x) a (a.put x (.cells cs' .fixed))∧PR (a.put x (.cells cs' .fixed)) h0.next p bs bad:=λ {a cs bs bad} g R cs'=>
  ⟨get_put_self g,sp (Fr.put (H.get_lt g)),R.keep (show Fr (·=x) (·=x) a (a.put x (.cells cs' .fixed)) from Fr.put (H.get_lt g)) (by show ¬p=x;omega) λ q hq _ e=>by have e:q=x:=e;omega⟩
 have hh0':h.push (.cells [.str [],.nilslice,.nilslice,.nilslice,.nilslice,.nilslice] .fixed)=h0:=hh0
 simp [↓ kq,kq,↓ ku,ku,↓ ko,ko,↓ kt,↓ kz,kb,kv,kt,kx,hh0,gets_some,-bO_of,-bB_true,-bB_false,-H.next_push,-Int.natCast_add]
 rw [show (70000:Nat)=69999+1 from rfl,scope_succ]
 refine gets_jump ?_
 simp [↓ kq,kq,↓ ku,ku,↓ ko,ko,↓ kt,↓ kz,kb,kv,kt,kx,k1,e1,e2,lb,gets_some,-bO_of,-bB_true,-bB_false,-H.next_push,-Int.natCast_add]
 refine (gets_next (gets_leave (Gets.mono (Tryz.u1_loop 4 0 _ b _ h1 rfl (by omega) R1 (by omega) ?_ ?_) ?_)))
 rotate_right
 ·rintro fl t2 h2 ⟨rfl,R2,f2,y0,y2,y4⟩
  simp only [if_true]
  simp [kq,kb] at y0 y2 y4
  rw [← hxd] at y2
  have B2:=f2.get B1 hxp
  obtain ⟨h3,k3,R3,f3⟩:=Tryz.ptext43 R2
  have B3:=f3.get B2 hxp
  generalize rdT (b.drop 4) false=q at *
  obtain ⟨s,b3,bad3⟩:=q
  simp only at k3 R3 hpro
  have s3:storeV 1 h3 (.ptr x 0) (.str s)=some (.tuple [],h3.put x (.cells [.str s,.nilslice,.nilslice,.nilslice,.nilslice,.nilslice] .fixed)):=storeV_one B3 (by simp) rfl
  obtain ⟨B4,f4,R4⟩:=U B3 R3 [.str s,.nilslice,.nilslice,.nilslice,.nilslice,.nilslice]
  generalize h3.put x (.cells [.str s,.nilslice,.nilslice,.nilslice,.nilslice,.nilslice] .fixed)=h4 at *
  obtain ⟨sv,h5,k5,n5,g5,R5,f5⟩:=Tryz.list44 R4
  have B5:=f5.get B4 hxp
  generalize rdC true rdT b3 bad3=q at *
  obtain ⟨sites,b5,bad5⟩:=q
  simp only at g5 R5 hpro
  have s5:storeV 1 h5 (.ptr x 1) sv=some (.tuple [],h5.put x (.cells [.str s,sv,.nilslice,.nilslice,.nilslice,.nilslice] .fixed)):=storeV_one B5 (by simp) (gro_cells g5)
  obtain ⟨B6,f6,R6⟩:=U B5 R5 [.str s,sv,.nilslice,.nilslice,.nilslice,.nilslice]
  generalize h5.put x (.cells [.str s,sv,.nilslice,.nilslice,.nilslice,.nilslice] .fixed)=h6 at *
  obtain ⟨h7,k7,R7,f7⟩:=Tryz.many45 R6
  have B7:=f7.get B6 hxp
  have er:rdC true (rdRow true) b5 bad5=rdL true (rdRow true) (rd2 b5 bad5).1 (rd2 b5 bad5).2.1 (rd2 b5 bad5).2.2:=rfl
  rw [er] at hpro
  have hlt:=rd2_lt b5 bad5
  generalize rd2 b5 bad5=q at *
  obtain ⟨n,b7,bad7⟩:=q
  simp only at k7 R7 hpro hlt
  have l4:p < h4.next:=R4.lt
  have l7:p < h7.next:=R7.lt
  simp [↓ kq,kq,↓ ku,ku,↓ ko,ko,↓ kt,↓ kz,kb,kv,kt,kx,y0,y2,y4,k3,s3,k5,s5,k7,gets_some,-bO_of,-bB_true,-bB_false,-H.next_push,-Int.natCast_add]
  refine gets_next (gets_leave (Gets.mono (Tryz.rows16_loop hx hp l7 n _ n b7 bad7 .nilslice [] _ h7 rfl (by omega) R7 .nil (by simp;omega) (Nat.le_refl _) B7 ?_ ?_ ?_) ?_))
  rotate_right
  ·rintro fl t8 h8 ⟨rfl,tv,m,hm,B8,G8,R8,F8,a2,a4,a0⟩
   simp only [if_true]
   simp [kq,kb,y0] at a0
   have F8:Fr (λ q=>q=p∨q=x) (λ q=>q=p∨q=x) h7 h8:=F8.mono (λ q hq e=>e.elim .inl λ e=>e.elim .inr λ e=>absurd hq (Nat.not_lt.2 e)) λ q e=>.inl e
   generalize rdL true (rdRow true) n b7 bad7=q at *
   obtain ⟨sets,b8,bad8⟩:=q
   simp only at hm R8 hpro
   obtain ⟨h9,k9,R9,f9⟩:=Tryz.many45 R8
   have B9:=f9.get B8 hxp
   have er:rdC true rdEdg b8 bad8=rdL true rdEdg (rd2 b8 bad8).1 (rd2 b8 bad8).2.1 (rd2 b8 bad8).2.2:=rfl
   rw [er] at hpro
   have hlt2:=rd2_lt b8 bad8
   generalize rd2 b8 bad8=q at *
   obtain ⟨n2,b9,bad9⟩:=q
   simp only at k9 R9 hpro hlt2
   have l9:p < h9.next:=R9.lt
   simp [↓ kq,kq,↓ ku,ku,↓ ko,ko,↓ kt,↓ kz,kb,kv,kt,kx,a0,a2,a4,k9,gets_some,-bO_of,-bB_true,-bB_false,-H.next_push,-Int.natCast_add]
   refine gets_next (gets_leave (Gets.mono (Tryz.edges16_loop hx hp l9 n2 _ 0 n2 b9 bad9 .nilslice [] _ h9 rfl (by omega) R9 .nil (by omega) (Nat.le_refl _) B9 ?_ ?_ ?_) ?_))
   rotate_right
   ·rintro fl t10 h10 ⟨rfl,ev,ne,B10,g10,R10,F10,c2,c4,c0⟩
    simp only [if_true]
    simp [kq,kb,a0] at c0
    have F10:Fr (λ q=>q=p∨q=x) (λ q=>q=p∨q=x) h9 h10:=F10.mono (λ q hq e=>e.elim .inl λ e=>e.elim .inr λ e=>absurd hq (Nat.not_lt.2 e)) λ q e=>.inl e
    generalize rdL true rdEdg n2 b9 bad9=q at *
    obtain ⟨edges,b10,bad10⟩:=q
    simp only [List.nil_append] at g10 R10 hpro
    obtain ⟨rv,h11,k11,n11,g11,R11,f11⟩:=Tryz.list44 R10
    have B11:=f11.get B10 hxp
    generalize rdC true rdT b10 bad10=q at *
    obtain ⟨reach,b11,bad11⟩:=q
    simp only at g11 R11 hpro
    obtain ⟨iv,h12,k12,n12,g12,R12,f12⟩:=Tryz.list44 R11
    have B12:=f12.get B11 hxp
    generalize rdC true rdT b11 bad11=q at *
    obtain ⟨inits,b12,bad12⟩:=q
    simp only at g12 R12 hpro
    have s12:storeV 1 h12 (.ptr x 4) rv=some (.tuple [],h12.put x (.cells [.str s,sv,tv,ev,rv,.nilslice] .fixed)):=storeV_one B12 (by simp) (gro_cells g11)
    obtain ⟨B13,f13,R13⟩:=U B12 R12 [.str s,sv,tv,ev,rv,.nilslice]
    generalize h12.put x (.cells [.str s,sv,tv,ev,rv,.nilslice] .fixed)=h13 at *
    have s13:storeV 1 h13 (.ptr x 5) iv=some (.tuple [],h13.put x (.cells [.str s,sv,tv,ev,rv,iv] .fixed)):=storeV_one B13 (by simp) (gro_cells g12)
    obtain ⟨B14,f14,R14⟩:=U B13 R13 [.str s,sv,tv,ev,rv,iv]
    generalize h13.put x (.cells [.str s,sv,tv,ev,rv,iv] .fixed)=h14 at *
    have l10:p < h10.next:=R10.lt
    have l11:p < h11.next:=R11.lt
    have G12:Fr (λ q=>q=p∨q=x) (λ q=>q=p∨q=x) h12 h14:=f13.trans f14
    have G11:=(sx f12).trans G12
    have G10:=(sx f11).trans G11
    have G8':=((sx f9).trans F10).trans G10
    have G5:=((f6.trans (sx f7)).trans F8).trans G8'
    have V5:=(gro_texts g5).keep G5 λ q hq=>nox l4 q (g5.row q hq)
    have V8:=G8.keep G8' λ q hq _=>nox l7 q hq
    have V10:=(gro_edges g10).keep G10 λ q hq=>nox l9 q (g10.row q hq)
    have V11:=(gro_texts g11).keep G11 λ q hq=>nox l10 q (g11.row q hq)
    have V12:=(gro_texts g12).keep G12 λ q hq=>nox l11 q (g12.row q hq)
    have RV:RepV h14 h14.next [.str s,sv,tv,ev,rv,iv] (proD b) m:=by
     rw [hpro]
     exact ⟨⟨sv,tv,ev,rv,iv,rfl,V5,view_lt V5,V8.rows,V10,view_lt V10,V11,view_lt V11,V12,view_lt V12⟩,hm⟩
    have La:loadV (some 6) h14.get (.ptr x 0)=some (.agg [.str s,sv,tv,ev,rv,iv]):=loadV_all (rowCells_fixed B14) rfl
    obtain ⟨cv,h15,k15,⟨w15,o15⟩,f15⟩:=Tryz.encode14 RV (by omega)
    rw [encD_eq] at w15
    have F1:Calms h h1:=f0.trans f1
    have F14:Fr (λ q=>q=p∨q=x) (λ q=>q=p∨q=x) h1 h14:=((((sx f2).trans (sx f3)).trans f4).trans (sx f5)).trans G5
    have C14:Calms h h14:=Fr.new F1 F14 (λ q hq=>by rcases hq with e | e <;> omega) (λ q hq=>by rcases hq with e | e <;> omega)
    have C15:Calms h h15:=C14.trans f15
    have bw:View h15 1 bv b.length (u8s b):=w.keep C15 λ _ _ k=>k
    have bw:View h15 1 bv (u8s b).length (u8s b):=by rw [u8s_len];exact bw
    have he:(encD (proD b)).length≤1000000000:=by have:=encD_len (proD b);omega
    have k16:=Tryz.alike49 w15 bw (IsZ.enc _) (IsZ.u8s b) (by omega) (by rw [u8s_len];omega)
    have B15:h15.get x=some (.cells [.str s,sv,tv,ev,rv,iv] .fixed):=(f15.keep _ (H.get_lt B14) λ k=>k).trans B14
    have Lb:loadV (some 6) h15.get (.ptr x 0)=some (.agg [.str s,sv,tv,ev,rv,iv]):=loadV_all (rowCells_fixed B15) rfl
    by_cases C:encD (proD b)=u8s b
    ·rw [decide_eq_true C] at k16
     have sa:storeV 6 h15 (.ptr x 0) (.agg [.str s,sv,tv,ev,rv,iv])=some (.tuple [],h15.put x (.cells [.str s,sv,tv,ev,rv,iv] .fixed)):=storeV_all B15 rfl rfl
     have B16:(h15.put x (.cells [.str s,sv,tv,ev,rv,iv] .fixed)).get x=some (.cells [.str s,sv,tv,ev,rv,iv] .fixed):=get_put_self B15
     have f16:Fr (·=x) (·=x) h15 (h15.put x (.cells [.str s,sv,tv,ev,rv,iv] .fixed)):=Fr.put (H.get_lt B15)
     have La2:loadV (some 6) (h15.put x (.cells [.str s,sv,tv,ev,rv,iv] .fixed)).get (.ptr x 0)=some (.agg [.str s,sv,tv,ev,rv,iv]):=loadV_all (rowCells_fixed B16) rfl
     generalize h15.put x (.cells [.str s,sv,tv,ev,rv,iv] .fixed)=h16 at *
     simp [↓ kq,kq,↓ ku,ku,↓ ko,ko,↓ kt,↓ kz,kb,kv,kt,kx,c0,c2,c4,k11,k12,s12,s13,La,k15,k16,Lb,sa,La2,gets_some,kc,oneS,-bO_of,-bB_true,-bB_false,-H.next_push,-Int.natCast_add]
     have C16:Calms h h16:=Fr.new C15 f16 (λ q hq=>by have e:q=x:=hq;omega) (λ q hq=>by have e:q=x:=hq;omega)
     have K:Fr (λ q=>q=p∨q=x) (λ q=>q=p∨q=x) h14 h16:=(f15.mono (λ _ _ k=>k.elim) λ _ k=>k.elim).trans (sp f16)
     have V5:=V5.keep K λ q hq=>nox l4 q (g5.row q hq)
     have V8:=V8.keep K λ q hq _=>nox l7 q hq
     have V10:=V10.keep K λ q hq=>nox l9 q (g10.row q hq)
     have V11:=V11.keep K λ q hq=>nox l10 q (g11.row q hq)
     have V12:=V12.keep K λ q hq=>nox l11 q (g12.row q hq)
     refine ⟨.inl ⟨hb,C,[.str s,sv,tv,ev,rv,iv],m,rfl,?_⟩,C16⟩
     rw [hpro]
     exact ⟨⟨sv,tv,ev,rv,iv,rfl,V5,view_lt V5,V8.rows,V10,view_lt V10,V11,view_lt V11,V12,view_lt V12⟩,hm⟩
    ·rw [decide_eq_false C] at k16
     have e3:∀ t,vFill [.str [],.nilslice,.nilslice,.nilslice,.nilslice,.nilslice] [] [] t=some (.agg zeroR):=λ _=>rfl
     have s1:storeV 6 h15 (.ptr x 0) (.agg zeroR)=some (.tuple [],h15.put x (.cells zeroR .fixed)):=storeV_all B15 rfl rfl
     have B16:(h15.put x (.cells zeroR .fixed)).get x=some (.cells zeroR .fixed):=get_put_self B15
     have f16:Fr (·=x) (·=x) h15 (h15.put x (.cells zeroR .fixed)):=Fr.put (H.get_lt B15)
     have La2:loadV (some 6) (h15.put x (.cells zeroR .fixed)).get (.ptr x 0)=some (.agg zeroR):=loadV_all (rowCells_fixed B16) rfl
     generalize h15.put x (.cells zeroR .fixed)=h16 at *
     simp [↓ kq,kq,↓ ku,ku,↓ ko,ko,↓ kt,↓ kz,kb,kv,kt,kx,c0,c2,c4,k11,k12,s12,s13,La,k15,k16,Lb,e3,s1,La2,gets_some,kc,oneS,-bO_of,-bB_true,-bB_false,-H.next_push,-Int.natCast_add]
     have C16:Calms h h16:=Fr.new C15 f16 (λ q hq=>by have e:q=x:=hq;omega) (λ q hq=>by have e:q=x:=hq;omega)
     exact ⟨.inr ⟨λ e=>C e.2,rfl⟩,C16⟩
   all_goals simp [kq,kb,a0,a2,a4]
  all_goals simp [kq,kb,y0,y2,y4]
 all_goals simp [kq,kb]
open Classical in
theorem Tryz.decode16 {h:H} {bv:SV} {b:List UInt8} (w:View h 1 bv b.length (u8s b)) (hmax:b.length≤1000000):∃ v h',Tryz.l2 16 [bv] h=some (v,h')∧(DecP b v h'∧Calms h h'):=by
 by_cases hb:b.length < 4
 ·exact Tryz.decode16_bad w hb
 ·exact Tryz.decode16_long w (by omega) hmax
end
end Go.Proofs
end
section
/- LadderForms: the document's Decode: its loops. -/
namespace Go.Proofs
open Go.Sh
set_option maxRecDepth 100000
attribute [local instance] powHeld
noncomputable section
theorem RR.keep' {h h':H} {p:Nat} {bs:List UInt8} {bad:Bool} {S W:Nat→Prop} (R:RR h p bs bad) (f:Fr S W h h') (hn:∀ q,q≤p→¬S q):RR h' p bs bad:=R.keep f hn
theorem RR.lt {h:H} {p:Nat} {bs:List UInt8} {bad:Bool} (R:RR h p bs bad):p < h.next:=H.get_lt R.choose_spec.1
theorem rdN_len (bs:List UInt8) (bad:Bool):(rdN bs bad).2.1.length≤bs.length:=rd2_len bs bad
theorem rdL_len {α:Type} {f:Pz α} (hf:∀ bs bad,(f bs bad).2.1.length≤bs.length) (g:Bool):∀ k bs bad,(rdL g f k bs bad).2.1.length≤bs.length
 | 0,bs,bad=>Nat.le_refl _
 | k+1,bs,bad=>by
  show (bB (bad || (g&&bs.isEmpty)) _ _:List α × List UInt8 × Bool).2.1.length≤bs.length
  cases bad || (g&&bs.isEmpty) with
  | true=>exact Nat.le_refl _
  | false=>exact Nat.le_trans (rdL_len hf g k _ _) (hf bs bad)
theorem rdC_len {α:Type} {f:Pz α} (hf:∀ bs bad,(f bs bad).2.1.length≤bs.length) (g:Bool) (bs:List UInt8) (bad:Bool):(rdC g f bs bad).2.1.length≤bs.length:=Nat.le_trans (rdL_len hf g _ _ _) (rd2_len bs bad)
theorem rdRow_len (g:Bool) (bs:List UInt8) (bad:Bool):(rdRow g bs bad).2.1.length≤bs.length:=Nat.le_trans (rdC_len rdN_len g _ _) (rdT_len bs bad)
theorem rdEdg_len (bs:List UInt8) (bad:Bool):(rdEdg bs bad).2.1.length≤bs.length:=Nat.le_trans (rdT_len _ _) (Nat.le_trans (rdN_len _ _) (rdT_len bs bad))
theorem rdTs_eq:∀ k bs bad,rdTs k bs bad=rdL false rdT k bs bad
 | 0,bs,bad=>rfl
 | k+1,bs,bad=>by
  cases bad with
  | true=>rfl
  | false=>
   show (((rdT bs false).1::(rdTs k (rdT bs false).2.1 (rdT bs false).2.2).1,(rdTs k (rdT bs false).2.1 (rdT bs false).2.2).2):List (List UInt8) × List UInt8 × Bool)=((rdT bs false).1::(rdL false rdT k (rdT bs false).2.1 (rdT bs false).2.2).1,(rdL false rdT k (rdT bs false).2.1 (rdT bs false).2.2).2)
   rw [rdTs_eq k]
theorem rdTexts_eq (bs:List UInt8) (bad:Bool):rdTexts bs bad=rdC false rdT bs bad:=rdTs_eq _ _ _
def Kw (t t':T):Prop:=getP (way 0) t'=getP (way 0) t∧getP (way 2) t'=getP (way 2) t∧getP (way 4) t'=getP (way 4) t∧getP (way 5) t'=getP (way 5) t
def Kw2 (t t':T):Prop:=Kw t t'∧getP (way 6) t'=getP (way 6) t∧getP (way 7) t'=getP (way 7) t∧getP (way 8) t'=getP (way 8) t
def NmPost (w p:Nat) (s:List UInt8) (t:T) (h:H) (cs:List SV) (r:List Int × List UInt8 × Bool) (fl:Flow) (t':T) (h':H):Prop:=
 fl=.exit 2∧∃ v' n',h'.get w=some (.cells [.str s,v'] .fixed)∧Gro h' (w+1) 1 v' n' (cs++ints r.1)∧RR h' p r.2.1 r.2.2∧Fr (λ q=>q=p∨w≤q) (λ q=>q=p∨w≤q) h h'∧Kw2 t t'
theorem Tryz.nums17_loop {p w N:Nat} {s:List UInt8} (hp:p < w) (hN:N≤65536):∀ (j i k n:Nat) (bs:List UInt8) (bad:Bool) (v:SV) (cs:List SV) (t:T) (h:H),i+j=N→j < k→RR h p bs bad→bs.length < 4611686018427387904→Gro h (w+1) 1 v n cs→n+j≤1073741824→h.get w=some (.cells [.str s,v] .fixed)→getP (way 4) t=some (.ptr p 0)→getP (way 8) t=some (.ptr w 0)→getP (way 9) t=some (.int .i64 N)→getP (way 10) t=some (.int .i64 i) →
  Gets (cLoop Tryz.l17_1 k Tryz.l2 t h) (NmPost w p s t h cs (rdL false rdN j bs bad)):=by
 intro j
 induction j with
 | zero=>
  intro i k n bs bad v cs t h hi hk R hbl g hn hw t4 t8 t9 t10
  obtain ⟨k,rfl⟩:∃ m,k=m+1:=⟨k - 1,by omega⟩
  rw [loop_succ]
  generalize (λ t h=>cLoop Tryz.l17_1 k Tryz.l2 t h)=L
  unfold Tryz.l17_1
  have e1:ltI (i:Int) (N:Int)=false:=ltIf (by omega)
  simp [↓ kq,kq,↓ ku,ku,↓ ko,ko,↓ kt,↓ kz,kb,kv,kt,kx,t4,t8,t9,t10,e1,gets_some,-bO_of,-bB_true,-bB_false,-H.next_push,-Int.natCast_add]
  exact ⟨rfl,v,n,hw,by simpa [rdL,ints] using g,R,.refl,by simp [Kw2,Kw,kq,kb]⟩
 | succ j ih=>
  intro i k n bs bad v cs t h hi hk R hbl g hn hw t4 t8 t9 t10
  obtain ⟨k,rfl⟩:∃ m,k=m+1:=⟨k - 1,by omega⟩
  rw [loop_succ]
  generalize hL:(λ t h=>cLoop Tryz.l17_1 k Tryz.l2 t h)=L
  have e1:ltI (i:Int) (N:Int)=true:=ltIt (by omega)
  have e9:IntKind.i64.wrap ((i:Int)+1)=((i+1:Nat):Int):=by rw [wrapI64 (by omega) (by omega)];omega
  have hwn:=H.get_lt hw
  have Lp:∀ o,loadV none h.get (.ptr p o)=_:=row_box R.choose_spec.1
  cases bad with
  | true=>
   rw [rdL_bad]
   unfold Tryz.l17_1
   simp [↓ kq,kq,↓ ku,ku,↓ ko,ko,↓ kt,↓ kz,kb,kv,kt,kx,t4,t8,t9,t10,e1,Lp,gets_some,-bO_of,-bB_true,-bB_false,-H.next_push,-Int.natCast_add]
   exact ⟨rfl,v,n,hw,by simpa [ints] using g,R,.refl,by simp [Kw2,Kw,kq,kb]⟩
  | false=>
   obtain ⟨h1,k1,R1,f1⟩:=Tryz.two52 R hbl
   have hl1:=rdN_len bs false
   show Gets _ (NmPost w p s t h cs ((rdN bs false).1::(rdL false rdN j (rdN bs false).2.1 (rdN bs false).2.2).1,(rdL false rdN j (rdN bs false).2.1 (rdN bs false).2.2).2))
   have k1:Tryz.l2 52 [.ptr p 0] h=some (.int .i64 (rdN bs false).1,h1):=k1
   have R1:RR h1 p (rdN bs false).2.1 (rdN bs false).2.2:=R1
   generalize rdN bs false=q at *
   obtain ⟨y,b1,bad1⟩:=q
   simp only at k1 R1 hl1 ⊢
   have e4:kcat [1] [.int .i64 y]=some [.int .i64 y]:=rfl
   generalize hh2:h1.push (.cells [.int .i64 y] .fixed)=h2
   have f2:=calm_push hh2
   have w2:=view_row (n:=1) (es:=1) (rowCells_fixed (get_pushed hh2)) rfl
   have g1:Gro h1 (w+1) 1 v n cs:=g.keep f1 λ q hq e=>by have e:q=p:=e;omega
   have g2:Gro h2 (w+1) 1 v n cs:=g1.keep f2 λ _ _ k=>k
   have B1:h1.get w=some (.cells [.str s,v] .fixed):=f1.get hw (by show ¬w=p;omega)
   have B2:h2.get w=some (.cells [.str s,v] .fixed):=(f2.keep w (H.get_lt B1) λ k=>k).trans B1
   have hlo2:w+1≤h2.next:=by have:=f1.next;have:=f2.next;omega
   obtain ⟨v3,h3,q1,q2,q3⟩:=g2.append (bytes:=8) 1 [.int .i64 y] rfl (by omega) hlo2
   have q0:=append_V w2 q1
   have B3:h3.get w=some (.cells [.str s,v] .fixed):=q3.get B2 (by show ¬w+1≤w;omega)
   have R3:RR h3 p b1 bad1:=(R1.keep f2 λ _ _ k=>k).keep q3 λ q hq hle=>by have:w+1≤q:=hle;omega
   have L0:=row_box hw
   have L1':=row_box B1
   have L3:=row_box B3
   have see:∀ t,seeL (lLoad none (xC (.ptr w 1))) t h h1=true:=λ t=>ks (L0 1) (L1' 1) (eqSV_view g.view)
   have s3:storeV 1 h3 (.ptr w 1) v3=some (.tuple [],h3.put w (.cells [.str s,v3] .fixed)):=storeV_one B3 (by simp) (gro_cells q2)
   have B4:(h3.put w (.cells [.str s,v3] .fixed)).get w=some (.cells [.str s,v3] .fixed):=get_put_self B3
   have f4:Fr (·=w) (·=w) h3 (h3.put w (.cells [.str s,v3] .fixed)):=Fr.put (H.get_lt B3)
   generalize h3.put w (.cells [.str s,v3] .fixed)=h4 at *
   have g4:Gro h4 (w+1) 1 v3 (n+1) (cs++[.int .i64 y]):=q2.keep f4 λ q hq e=>by have e:q=w:=e;omega
   have R4:RR h4 p b1 bad1:=R3.keep f4 λ q hq e=>by have e:q=w:=e;omega
   have F:Fr (λ q=>q=p∨w≤q) (λ q=>q=p∨w≤q) h h4:=(((f1.mono (λ q _ e=>.inl e) λ q e=>.inl (.inl e)).trans (f2.mono (λ _ _ k=>k.elim) λ _ k=>k.elim)).trans (q3.mono (λ q _ e=>.inr (by have:w+1≤q:=e;omega)) λ _ k=>k.elim)).trans (f4.mono (λ q _ e=>.inr (by have e:q=w:=e;omega)) λ q e=>.inl (.inr (by have e:q=w:=e;omega)))
   unfold Tryz.l17_1
   simp [↓ kq,kq,↓ ku,ku,↓ ko,ko,↓ kt,↓ kz,kb,kv,kt,kx,t4,t8,t9,t10,e1,e9,Lp,k1,e4,hh2,q0,L0,L1',L3,s3,kw,see,gets_some,-bO_of,-bB_true,-bB_false,-H.next_push,-Int.natCast_add]
   rw [← hL]
   refine Gets.mono (ih (i+1) k (n+1) b1 bad1 v3 _ _ h4 (by omega) (by omega) R4 (by omega) g4 (by omega) B4 ?_ ?_ ?_ ?_) ?_
   rotate_right
   ·rintro fl t' h' ⟨x1,v',n',x2,x3,x4,x5,⟨y0,y2,y4,y5⟩,y6,y7,y8⟩
    refine ⟨x1,v',n',x2,?_,x4,F.trans x5,⟨?_,?_,?_,?_⟩,?_,?_,?_⟩
    ·show Gro h' (w+1) 1 v' n' (cs++ints (y::_))
     rw [ints_cons,← List.append_assoc]
     exact x3
    ·rw [y0];simp [kq,kb]
    ·rw [y2];simp [kq,kb]
    ·rw [y4];simp [kq,kb]
    ·rw [y5];simp [kq,kb]
    ·rw [y6];simp [kq,kb]
    ·rw [y7];simp [kq,kb]
    ·rw [y8];simp [kq,kb]
   all_goals simp [kq,kb,t4,t8,t9,t10]
def RwPost (x p lo:Nat) (c0 c1 c3 c4 c5:SV) (t:T) (h:H) (m:List (Row × SV)) (r:List Row × List UInt8 × Bool) (fl:Flow) (t':T) (h':H):Prop:=
 fl=.exit 0∧∃ v' m',m'.map (·.1)=m.map (·.1)++r.1∧h'.get x=some (.cells [c0,c1,v',c3,c4,c5] .fixed)∧RowsB h' lo v' m'∧RR h' p r.2.1 r.2.2∧Fr (λ q=>q=p∨q=x∨lo≤q) (λ q=>q=p∨q=x∨lo≤q) h h'∧Kw t t'
set_option maxHeartbeats 4000000 in
theorem Tryz.rows17_loop {x p lo N:Nat} {c0 c1 c3 c4 c5:SV} (hx:p < x) (hp:x < lo) (hN:N≤65536):∀ (j i k:Nat) (bs:List UInt8) (bad:Bool) (v:SV) (m:List (Row × SV)) (t:T) (h:H),i+j=N→j+70000 < k→RR h p bs bad→bs.length < 4611686018427387904→RowsB h lo v m→m.length+j≤1073741824→lo≤h.next→h.get x=some (.cells [c0,c1,v,c3,c4,c5] .fixed)→getP (way 4) t=some (.ptr p 0)→getP (way 5) t=some (.ptr x 0)→getP (way 6) t=some (.int .i64 N)→getP (way 7) t=some (.int .i64 i) →
  Gets (cLoop Tryz.l17_2 k Tryz.l2 t h) (RwPost x p lo c0 c1 c3 c4 c5 t h m (rdL false (rdRow false) j bs bad)):=by
 intro j
 induction j with
 | zero=>
  intro i k bs bad v m t h hi hk R hbl g hn hlo hw t4 t5 t6 t7
  obtain ⟨k,rfl⟩:∃ m,k=m+1:=⟨k - 1,by omega⟩
  rw [loop_succ]
  generalize (λ t h=>cLoop Tryz.l17_2 k Tryz.l2 t h)=L
  unfold Tryz.l17_2
  have e1:ltI (i:Int) (N:Int)=false:=ltIf (by omega)
  simp [↓ kq,kq,↓ ku,ku,↓ ko,ko,↓ kt,↓ kz,kb,kv,kt,kx,t4,t5,t6,t7,e1,gets_some,-bO_of,-bB_true,-bB_false,-H.next_push,-Int.natCast_add]
  exact ⟨rfl,v,m,by simp [rdL],hw,g,R,.refl,by simp [Kw,kq,kb]⟩
 | succ j ih=>
  intro i k bs bad v m t h hi hk R hbl g hn hlo hw t4 t5 t6 t7
  obtain ⟨k,rfl⟩:∃ m,k=m+1:=⟨k - 1,by omega⟩
  rw [loop_succ]
  generalize hL:(λ t h=>cLoop Tryz.l17_2 k Tryz.l2 t h)=L
  have e1:ltI (i:Int) (N:Int)=true:=ltIt (by omega)
  have e9:IntKind.i64.wrap ((i:Int)+1)=((i+1:Nat):Int):=by rw [wrapI64 (by omega) (by omega)];omega
  have hwn:=H.get_lt hw
  have Lp:∀ o,loadV none h.get (.ptr p o)=_:=row_box R.choose_spec.1
  cases bad with
  | true=>
   rw [rdL_bad]
   unfold Tryz.l17_2
   simp [↓ kq,kq,↓ ku,ku,↓ ko,ko,↓ kt,↓ kz,kb,kv,kt,kx,t4,t5,t6,t7,e1,Lp,gets_some,-bO_of,-bB_true,-bB_false,-H.next_push,-Int.natCast_add]
   exact ⟨rfl,v,m,by simp,hw,g,R,.refl,by simp [Kw,kq,kb]⟩
  | false=>
   obtain ⟨_,ha,ka,rfl,Ra,fa⟩:=Tryz.text50 R hbl
   have hla:=rdT_len bs false
   have er:rdRow false bs false=((⟨(rdT bs false).1,(rdC false rdN (rdT bs false).2.1 (rdT bs false).2.2).1⟩:Row),(rdC false rdN (rdT bs false).2.1 (rdT bs false).2.2).2):=rfl
   show Gets _ (RwPost x p lo c0 c1 c3 c4 c5 t h m ((rdRow false bs false).1::(rdL false (rdRow false) j (rdRow false bs false).2.1 (rdRow false bs false).2.2).1,(rdL false (rdRow false) j (rdRow false bs false).2.1 (rdRow false bs false).2.2).2))
   have hlr:=rdRow_len false bs false
   rw [er] at hlr ⊢
   generalize rdT bs false=q at *
   obtain ⟨s,ba,bada⟩:=q
   simp only at ka Ra hla hlr ⊢
   have ef:∀ t,vFill [.str [],.nilslice] [(0,1)] [xC (.str s)] t=some (.agg [.str s,.nilslice]):=λ _=>rfl
   generalize hhb:ha.push (.cells [.str [],.nilslice] .fixed)=hb
   have fb:=calm_push hhb
   have Wb:=get_pushed hhb
   have nb:hb.next=ha.next+1:=by rw [← hhb];rfl
   have sb:storeV 2 hb (.ptr ha.next 0) (.agg [.str s,.nilslice])=some (.tuple [],hb.put ha.next (.cells [.str s,.nilslice] .fixed)):=storeV_all Wb rfl rfl
   have Wc:(hb.put ha.next (.cells [.str s,.nilslice] .fixed)).get ha.next=some (.cells [.str s,.nilslice] .fixed):=get_put_self Wb
   have fc:Fr (·=ha.next) (·=ha.next) hb (hb.put ha.next (.cells [.str s,.nilslice] .fixed)):=Fr.put (H.get_lt Wb)
   generalize hb.put ha.next (.cells [.str s,.nilslice] .fixed)=hc at *
   have la:=Ra.lt
   have hxa:x < ha.next:=Nat.lt_of_lt_of_le hwn fa.next
   have hloa:lo≤ha.next:=Nat.le_trans hlo fa.next
   have Rc:RR hc p ba bada:=(Ra.keep fb λ _ _ k=>k).keep fc λ q hq e=>by have e:q=ha.next:=e;omega
   obtain ⟨hd,kd,Rd,fd⟩:=Tryz.two52 Rc (by omega)
   have Wd:hd.get ha.next=some (.cells [.str s,.nilslice] .fixed):=fd.get Wc (by show ¬ha.next=p;omega)
   have hld:=rd2_len ba bada
   have ec:rdC false rdN ba bada=rdL false rdN (rd2 ba bada).1 (rd2 ba bada).2.1 (rd2 ba bada).2.2:=rfl
   rw [ec] at hlr ⊢
   have hlt:=rd2_lt ba bada
   generalize rd2 ba bada=q at *
   obtain ⟨nn,bd,badd⟩:=q
   simp only at kd Rd hld hlt hlr ⊢
   have hxp:¬x=p:=by omega
   have Ba:=fa.get hw hxp
   have Bb:=(fb.keep x hxa λ k=>k).trans Ba
   have Bc:=fc.get Bb (by show ¬x=ha.next;omega)
   have Bd:=fd.get Bc hxp
   have han:=fa.next
   have F1:Fr (λ q=>q=p∨h.next≤q) (λ q=>q=p∨h.next≤q) h hd:=(((fa.mono (λ q _ e=>.inl e) λ q e=>.inl (.inl e)).trans (fb.mono (λ _ _ k=>k.elim) λ _ k=>k.elim)).trans (fc.mono (λ q _ e=>.inr (by have e:q=ha.next:=e;omega)) λ q e=>.inl (.inr (by have e:q=ha.next:=e;omega)))).trans (fd.mono (λ q _ e=>.inl e) λ q e=>.inl (.inl e))
   have nd:hb.next≤hd.next:=Nat.le_trans fc.next fd.next
   unfold Tryz.l17_2
   simp [↓ kq,kq,↓ ku,ku,↓ ko,ko,↓ kt,↓ kz,kb,kv,kt,kx,t4,t5,t6,t7,e1,e9,Lp,ka,ef,hhb,sb,kd,gets_some,-bO_of,-bB_true,-bB_false,-H.next_push,-Int.natCast_add]
   refine gets_next (gets_next (gets_leave (gets_next (gets_leave (Gets.mono (Tryz.nums17_loop (w:=ha.next) (s:=s) (N:=nn) la (by omega) nn 0 (k+1) 0 bd badd .nilslice [] _ hd (by omega) (by omega) Rd (by omega) .nil (by omega) Wd ?_ ?_ ?_ ?_) ?_)))))
   rotate_right
   ·rintro fl t' he ⟨rfl,sv,n',We,ge,Re,fe,⟨y0,y2,y4,y5⟩,y6,y7,y8⟩
    simp only [if_true]
    simp [kq,kb,t4,t5] at y4 y5 y8
    have F2:Fr (λ q=>q=p∨h.next≤q) (λ q=>q=p∨h.next≤q) h he:=F1.trans (fe.mono (λ q _ e=>e.imp id λ e=>by omega) λ q e=>.inl (e.imp id λ e=>by omega))
    have hge:=ge.1
    generalize rdL false rdN nn bd badd=q at *
    obtain ⟨set,b1,bad1⟩:=q
    simp only [List.nil_append] at ge Re hlr hge ⊢
    have hn':n'=set.length:=by simp [ints] at hge;omega
    subst hn'
    have Bh:he.get x=some (.cells [c0,c1,v,c3,c4,c5] .fixed):=F2.get hw (by show ¬(x=p∨h.next≤x);omega)
    have gh:RowsB he lo v m:=g.keep F2 λ q hq hlt e=>by omega
    have e4:kcat [2] [.agg [.str s,sv]]=some [.str s,sv]:=rfl
    generalize hh2:he.push (.cells [.str s,sv] .fixed)=h2
    have f2:=calm_push hh2
    have w2:=view_row (n:=1) (es:=2) (rowCells_fixed (get_pushed hh2)) rfl
    have g2:RowsB h2 lo v m:=gh.keep f2 λ _ _ _ k=>k
    have B2:h2.get x=some (.cells [c0,c1,v,c3,c4,c5] .fixed):=(f2.keep x (H.get_lt Bh) λ k=>k).trans Bh
    have hlo2:lo≤h2.next:=by have:=F2.next;have:=f2.next;omega
    obtain ⟨v3,h3,q1,q2,q3⟩:=g2.add (row:=⟨s,set⟩) (ge.view.keep f2 λ _ _ k=>k) (λ q hq=>⟨by have:=ge.row q hq;omega,λ e=>by have:=ge.row q hq;have:=g.lt q e;omega⟩) (gro_cells ge) hlo2 (by omega)
    have q0:=append_V w2 q1
    have B3:h3.get x=some (.cells [c0,c1,v,c3,c4,c5] .fixed):=q3.get B2 (λ e=>by have:=g.own x e;omega)
    have R3:RR h3 p b1 bad1:=(Re.keep f2 λ _ _ k=>k).keep q3 λ q hq e=>by have:=g.own q e;omega
    have L0:=row_box Bh
    have L3:=row_box B3
    have Lw:loadV (some 2) he.get (.ptr ha.next 0)=some (.agg [.str s,sv]):=loadV_all (rowCells_fixed We) rfl
    have s3:storeV 1 h3 (.ptr x 2) v3=some (.tuple [],h3.put x (.cells [c0,c1,v3,c3,c4,c5] .fixed)):=storeV_one B3 (by simp) (buf_cells' q2.buf)
    have B4:(h3.put x (.cells [c0,c1,v3,c3,c4,c5] .fixed)).get x=some (.cells [c0,c1,v3,c3,c4,c5] .fixed):=get_put_self B3
    have f4:Fr (·=x) (·=x) h3 (h3.put x (.cells [c0,c1,v3,c3,c4,c5] .fixed)):=Fr.put (H.get_lt B3)
    generalize h3.put x (.cells [c0,c1,v3,c3,c4,c5] .fixed)=h4 at *
    have g4:RowsB h4 lo v3 (m++[(⟨s,set⟩,sv)]):=q2.keep f4 λ q hq _ e=>by have e:q=x:=e;omega
    have R4:RR h4 p b1 bad1:=R3.keep f4 λ q hq e=>by have e:q=x:=e;omega
    have F:Fr (λ q=>q=p∨q=x∨lo≤q) (λ q=>q=p∨q=x∨lo≤q) h h4:=(((F2.mono (λ q _ e=>e.imp id λ e=>.inr (by omega)) λ q e=>.inl (e.imp id λ e=>.inr (by omega))).trans (f2.mono (λ _ _ k=>k.elim) λ _ k=>k.elim)).trans (q3.mono (λ q _ e=>.inr (.inr (g.own q e))) λ _ k=>k.elim)).trans (f4.mono (λ q _ e=>.inr (.inl e)) λ q e=>.inl (.inr (.inl e)))
    simp [↓ kq,kq,↓ ku,ku,↓ ko,ko,↓ kt,↓ kz,kb,kv,kt,kx,y4,y5,y6,y7,y8,t4,t5,t6,t7,e9,e4,hh2,q0,L0,L3,Lw,s3,gets_some,-bO_of,-bB_true,-bB_false,-H.next_push,-Int.natCast_add]
    rw [← hL]
    refine Gets.mono (ih (i+1) k b1 bad1 v3 _ _ h4 (by omega) (by omega) R4 (by omega) g4 (by rw [List.length_append];simp only [List.length_singleton];omega) (by have:=F.next;omega) B4 ?_ ?_ ?_ ?_) ?_
    rotate_right
    ·rintro fl t'' h' ⟨x1,v',m',x2,x3,x4,x5,x6,z0,z2,z4,z5⟩
     refine ⟨x1,v',m',?_,x3,x4,x5,F.trans x6,?_,?_,?_,?_⟩
     ·rw [x2];simp
     ·rw [z0];simp [kq,kb,y0]
     ·rw [z2];simp [kq,kb,y2]
     ·rw [z4];simp [kq,kb,y4,t4]
     ·rw [z5];simp [kq,kb,y5,t5]
    all_goals simp [kq,kb,y4,y5,y6,y7,t4,t5,t6,t7]
   all_goals simp [kq,kb,t4]
end
end Go.Proofs
end
section
/- LadderForms: the document's Decode: the loop of edges. -/
namespace Go.Proofs
open Go.Sh
set_option maxRecDepth 100000
attribute [local instance] powHeld
noncomputable section
def EwPost (x p lo:Nat) (c0 c1 c2 c4 c5:SV) (t:T) (h:H) (cs:List SV) (r:List Edg × List UInt8 × Bool) (fl:Flow) (t':T) (h':H):Prop:=
 fl=.exit 4∧∃ v' n',h'.get x=some (.cells [c0,c1,c2,v',c4,c5] .fixed)∧Gro h' lo 3 v' n' (cs++edgs r.1)∧RR h' p r.2.1 r.2.2∧Fr (λ q=>q=p∨q=x∨lo≤q) (λ q=>q=p∨q=x∨lo≤q) h h'∧Kw t t'
set_option maxHeartbeats 4000000 in
theorem Tryz.edges17_loop {x p lo N:Nat} {c0 c1 c2 c4 c5:SV} (hx:p < x) (hp:x < lo) (hN:N≤65536):∀ (j i k n:Nat) (bs:List UInt8) (bad:Bool) (v:SV) (cs:List SV) (t:T) (h:H),i+j=N→j < k→RR h p bs bad→bs.length < 4611686018427387904→Gro h lo 3 v n cs→n+j≤1073741824→lo≤h.next→h.get x=some (.cells [c0,c1,c2,v,c4,c5] .fixed)→getP (way 4) t=some (.ptr p 0)→getP (way 5) t=some (.ptr x 0)→getP (way 6) t=some (.int .i64 N)→getP (way 11) t=some (.int .i64 i) →
  Gets (cLoop Tryz.l17_0 k Tryz.l2 t h) (EwPost x p lo c0 c1 c2 c4 c5 t h cs (rdL false rdEdg j bs bad)):=by
 intro j
 induction j with
 | zero=>
  intro i k n bs bad v cs t h hi hk R hbl g hn hlo hw t4 t5 t6 t11
  obtain ⟨k,rfl⟩:∃ m,k=m+1:=⟨k - 1,by omega⟩
  rw [loop_succ]
  generalize (λ t h=>cLoop Tryz.l17_0 k Tryz.l2 t h)=L
  unfold Tryz.l17_0
  have e1:ltI (i:Int) (N:Int)=false:=ltIf (by omega)
  simp [↓ kq,kq,↓ ku,ku,↓ ko,ko,↓ kt,↓ kz,kb,kv,kt,kx,t4,t5,t6,t11,e1,gets_some,-bO_of,-bB_true,-bB_false,-H.next_push,-Int.natCast_add]
  exact ⟨rfl,v,n,hw,by simpa [rdL,edgs] using g,R,.refl,by simp [Kw,kq,kb]⟩
 | succ j ih=>
  intro i k n bs bad v cs t h hi hk R hbl g hn hlo hw t4 t5 t6 t11
  obtain ⟨k,rfl⟩:∃ m,k=m+1:=⟨k - 1,by omega⟩
  rw [loop_succ]
  generalize hL:(λ t h=>cLoop Tryz.l17_0 k Tryz.l2 t h)=L
  have e1:ltI (i:Int) (N:Int)=true:=ltIt (by omega)
  have e9:IntKind.i64.wrap ((i:Int)+1)=((i+1:Nat):Int):=by rw [wrapI64 (by omega) (by omega)];omega
  have hwn:=H.get_lt hw
  have Lp:∀ o,loadV none h.get (.ptr p o)=_:=row_box R.choose_spec.1
  cases bad with
  | true=>
   rw [rdL_bad]
   unfold Tryz.l17_0
   simp [↓ kq,kq,↓ ku,ku,↓ ko,ko,↓ kt,↓ kz,kb,kv,kt,kx,t4,t5,t6,t11,e1,Lp,gets_some,-bO_of,-bB_true,-bB_false,-H.next_push,-Int.natCast_add]
   exact ⟨rfl,v,n,hw,by simpa [edgs] using g,R,.refl,by simp [Kw,kq,kb]⟩
  | false=>
   obtain ⟨_,ha,ka,rfl,Ra,fa⟩:=Tryz.text50 R hbl
   have hla:=rdT_len bs false
   have er:rdEdg bs false=((⟨(rdT bs false).1,(rdN (rdT bs false).2.1 (rdT bs false).2.2).1,(rdT (rdN (rdT bs false).2.1 (rdT bs false).2.2).2.1 (rdN (rdT bs false).2.1 (rdT bs false).2.2).2.2).1⟩:Edg),(rdT (rdN (rdT bs false).2.1 (rdT bs false).2.2).2.1 (rdN (rdT bs false).2.1 (rdT bs false).2.2).2.2).2):=rfl
   show Gets _ (EwPost x p lo c0 c1 c2 c4 c5 t h cs ((rdEdg bs false).1::(rdL false rdEdg j (rdEdg bs false).2.1 (rdEdg bs false).2.2).1,(rdL false rdEdg j (rdEdg bs false).2.1 (rdEdg bs false).2.2).2))
   rw [er]
   generalize rdT bs false=q at *
   obtain ⟨sa,ba,bada⟩:=q
   simp only at ka Ra hla ⊢
   have ef:∀ t,vFill [.str [],.int .i64 0,.str []] [(0,1)] [xC (.str sa)] t=some (.agg [.str sa,.int .i64 0,.str []]):=λ _=>rfl
   generalize hhb:ha.push (.cells [.str [],.int .i64 0,.str []] .fixed)=hb
   have fb:=calm_push hhb
   have Wb:=get_pushed hhb
   have nb:hb.next=ha.next+1:=by rw [← hhb];rfl
   have sb:storeV 3 hb (.ptr ha.next 0) (.agg [.str sa,.int .i64 0,.str []])=some (.tuple [],hb.put ha.next (.cells [.str sa,.int .i64 0,.str []] .fixed)):=storeV_all Wb rfl rfl
   have Wc:(hb.put ha.next (.cells [.str sa,.int .i64 0,.str []] .fixed)).get ha.next=some (.cells [.str sa,.int .i64 0,.str []] .fixed):=get_put_self Wb
   have fc:Fr (·=ha.next) (·=ha.next) hb (hb.put ha.next (.cells [.str sa,.int .i64 0,.str []] .fixed)):=Fr.put (H.get_lt Wb)
   generalize hb.put ha.next (.cells [.str sa,.int .i64 0,.str []] .fixed)=hc at *
   have la:=Ra.lt
   have han:=fa.next
   have hpa:¬ha.next=p:=by omega
   have Rc:RR hc p ba bada:=(Ra.keep fb λ _ _ k=>k).keep fc λ q hq e=>by have e:q=ha.next:=e;omega
   obtain ⟨hd,kd,Rd,fd⟩:=Tryz.two52 Rc (by omega)
   have Wd:hd.get ha.next=some (.cells [.str sa,.int .i64 0,.str []] .fixed):=fd.get Wc hpa
   have hld:=rdN_len ba bada
   have kd:Tryz.l2 52 [.ptr p 0] hc=some (.int .i64 (rdN ba bada).1,hd):=kd
   have Rd:RR hd p (rdN ba bada).2.1 (rdN ba bada).2.2:=Rd
   generalize rdN ba bada=q at *
   obtain ⟨nn,bd,badd⟩:=q
   simp only at kd Rd hld ⊢
   have sd:storeV 1 hd (.ptr ha.next 1) (.int .i64 nn)=some (.tuple [],hd.put ha.next (.cells [.str sa,.int .i64 nn,.str []] .fixed)):=storeV_one Wd (by simp) rfl
   have We:(hd.put ha.next (.cells [.str sa,.int .i64 nn,.str []] .fixed)).get ha.next=some (.cells [.str sa,.int .i64 nn,.str []] .fixed):=get_put_self Wd
   have fe:Fr (·=ha.next) (·=ha.next) hd (hd.put ha.next (.cells [.str sa,.int .i64 nn,.str []] .fixed)):=Fr.put (H.get_lt Wd)
   generalize hd.put ha.next (.cells [.str sa,.int .i64 nn,.str []] .fixed)=he at *
   have Re:RR he p bd badd:=Rd.keep fe λ q hq e=>by have e:q=ha.next:=e;omega
   obtain ⟨_,hf,kf,rfl,Rf,ff⟩:=Tryz.text50 Re (by omega)
   have Wf:=ff.get We hpa
   have hlf:=rdT_len bd badd
   generalize rdT bd badd=q at *
   obtain ⟨sc,b1,bad1⟩:=q
   simp only at kf Rf hlf ⊢
   have sf:storeV 1 hf (.ptr ha.next 2) (.str sc)=some (.tuple [],hf.put ha.next (.cells [.str sa,.int .i64 nn,.str sc] .fixed)):=storeV_one Wf (by simp) rfl
   have Wg:(hf.put ha.next (.cells [.str sa,.int .i64 nn,.str sc] .fixed)).get ha.next=some (.cells [.str sa,.int .i64 nn,.str sc] .fixed):=get_put_self Wf
   have fg:Fr (·=ha.next) (·=ha.next) hf (hf.put ha.next (.cells [.str sa,.int .i64 nn,.str sc] .fixed)):=Fr.put (H.get_lt Wf)
   generalize hf.put ha.next (.cells [.str sa,.int .i64 nn,.str sc] .fixed)=hg at *
   have Rg:RR hg p b1 bad1:=Rf.keep fg λ q hq e=>by have e:q=ha.next:=e;omega
   have ww:∀ {a c:H},Fr (·=ha.next) (·=ha.next) a c→Fr (λ q=>q=p∨h.next≤q) (λ q=>q=p∨h.next≤q) a c:=λ f=>f.mono (λ q _ e=>.inr (by have e:q=ha.next:=e;omega)) λ q e=>.inl (.inr (by have e:q=ha.next:=e;omega))
   have pp:∀ {a c:H},Fr (·=p) (·=p) a c→Fr (λ q=>q=p∨h.next≤q) (λ q=>q=p∨h.next≤q) a c:=λ f=>f.mono (λ q _ e=>.inl e) λ q e=>.inl (.inl e)
   have F2:Fr (λ q=>q=p∨h.next≤q) (λ q=>q=p∨h.next≤q) h hg:=((((((pp fa).trans (fb.mono (λ _ _ k=>k.elim) λ _ k=>k.elim)).trans (ww fc)).trans (pp fd)).trans (ww fe)).trans (pp ff)).trans (ww fg)
   have Bh:hg.get x=some (.cells [c0,c1,c2,v,c4,c5] .fixed):=F2.get hw (by show ¬(x=p∨h.next≤x);omega)
   have gl:∀ q,isRow v q→q < h.next:=view_lt g.view
   have gh:Gro hg lo 3 v n cs:=by
    obtain ⟨g1,g2 | ⟨id,par,rfl,g3,g4,g5⟩⟩:=g
    ·exact ⟨g1,.inl g2⟩
    ·exact ⟨g1,.inr ⟨id,par,rfl,g3,F2.get g4 (by show ¬(id=p∨h.next≤id);have:=H.get_lt g4;omega),g5.keep λ q q1 q2 q3=>F2.keep q q3 (by show ¬(q=p∨h.next≤q);omega)⟩⟩
   have e4:kcat [3] [.agg [.str sa,.int .i64 nn,.str sc]]=some [.str sa,.int .i64 nn,.str sc]:=rfl
   generalize hh2:hg.push (.cells [.str sa,.int .i64 nn,.str sc] .fixed)=h2
   have f2:=calm_push hh2
   have w2:=view_row (n:=1) (es:=3) (rowCells_fixed (get_pushed hh2)) rfl
   have g2:Gro h2 lo 3 v n cs:=gh.keep f2 λ _ _ k=>k
   have B2:h2.get x=some (.cells [c0,c1,c2,v,c4,c5] .fixed):=(f2.keep x (H.get_lt Bh) λ k=>k).trans Bh
   have hlo2:lo≤h2.next:=by have:=F2.next;have:=f2.next;omega
   obtain ⟨v3,h3,q1,q2,q3⟩:=g2.append (bytes:=40) 1 [.str sa,.int .i64 nn,.str sc] rfl (by omega) hlo2
   have q0:=append_V w2 q1
   have B3:h3.get x=some (.cells [c0,c1,c2,v,c4,c5] .fixed):=q3.get B2 (by show ¬lo≤x;omega)
   have R3:RR h3 p b1 bad1:=(Rg.keep f2 λ _ _ k=>k).keep q3 λ q hq e=>by have e:lo≤q:=e;omega
   have L0:=row_box Bh
   have L3:=row_box B3
   have Lw:loadV (some 3) hg.get (.ptr ha.next 0)=some (.agg [.str sa,.int .i64 nn,.str sc]):=loadV_all (rowCells_fixed Wg) rfl
   have s3:storeV 1 h3 (.ptr x 3) v3=some (.tuple [],h3.put x (.cells [c0,c1,c2,v3,c4,c5] .fixed)):=storeV_one B3 (by simp) (gro_cells q2)
   have B4:(h3.put x (.cells [c0,c1,c2,v3,c4,c5] .fixed)).get x=some (.cells [c0,c1,c2,v3,c4,c5] .fixed):=get_put_self B3
   have f4:Fr (·=x) (·=x) h3 (h3.put x (.cells [c0,c1,c2,v3,c4,c5] .fixed)):=Fr.put (H.get_lt B3)
   generalize h3.put x (.cells [c0,c1,c2,v3,c4,c5] .fixed)=h4 at *
   have g4:Gro h4 lo 3 v3 (n+1) (cs++[.str sa,.int .i64 nn,.str sc]):=q2.keep f4 λ q hq e=>by have e:q=x:=e;omega
   have R4:RR h4 p b1 bad1:=R3.keep f4 λ q hq e=>by have e:q=x:=e;omega
   have F:Fr (λ q=>q=p∨q=x∨lo≤q) (λ q=>q=p∨q=x∨lo≤q) h h4:=(((F2.mono (λ q _ e=>e.imp id λ e=>.inr (by omega)) λ q e=>.inl (e.imp id λ e=>.inr (by omega))).trans (f2.mono (λ _ _ k=>k.elim) λ _ k=>k.elim)).trans (q3.mono (λ q _ e=>.inr (.inr e)) λ _ k=>k.elim)).trans (f4.mono (λ q _ e=>.inr (.inl e)) λ q e=>.inl (.inr (.inl e)))
   unfold Tryz.l17_0
   simp [↓ kq,kq,↓ ku,ku,↓ ko,ko,↓ kt,↓ kz,kb,kv,kt,kx,t4,t5,t6,t11,e1,e9,Lp,ka,ef,hhb,sb,kd,sd,kf,sf,e4,hh2,q0,L0,L3,Lw,s3,gets_some,-bO_of,-bB_true,-bB_false,-H.next_push,-Int.natCast_add]
   rw [← hL]
   refine Gets.mono (ih (i+1) k (n+1) b1 bad1 v3 _ _ h4 (by omega) (by omega) R4 (by omega) g4 (by omega) (by have:=F.next;omega) B4 ?_ ?_ ?_ ?_) ?_
   rotate_right
   ·rintro fl t'' h' ⟨x1,v',n',x3,x4,x5,x6,z0,z2,z4,z5⟩
    refine ⟨x1,v',n',x3,?_,x5,F.trans x6,?_,?_,?_,?_⟩
    ·show Gro h' lo 3 v' n' (cs++edgs (⟨sa,nn,sc⟩::_))
     rw [edgs_cons2,← List.append_assoc]
     exact x4
    ·rw [z0];simp [kq,kb]
    ·rw [z2];simp [kq,kb]
    ·rw [z4];simp [kq,kb]
    ·rw [z5];simp [kq,kb]
   all_goals simp [kq,kb,t4,t5,t6,t11]
end
end Go.Proofs
end
