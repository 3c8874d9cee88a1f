/- General laws of the proof: a shadow machine of the form, its soundness, and a compiled form of it. -/
import Derived.Test.YtpjpiigachahkaaGreatDoorTzG5
set_option linter.unusedVariables false
set_option linter.unusedSimpArgs false
set_option linter.unusedSectionVars false
section
/- LadderForms: the document's Decode. -/
namespace Go.Proofs
open Go.Sh
set_option maxRecDepth 100000
attribute [local instance] powHeld
noncomputable section
def DocP (b:List UInt8) (v:SV) (h':H):Prop:=(∃ r cs m,docD b=some r∧v=.tuple [.agg cs,.int .i64 0]∧RepV h' h'.next cs r m)∨(docD b=none∧v=.tuple [.agg zeroR,.int .i64 7])
theorem docD_short {b:List UInt8} (h:b.take 4≠magicB):docD b=none:=by
 unfold docD
 exact if_neg λ e=>h e.1
theorem Tryz.decode17_bad {h:H} {bv:SV} {b:List UInt8} (w:View h 1 bv b.length (u8s b)) (hmax:b.length≤1000000) (hb:b.take 4≠magicB):∃ v h',Tryz.l2 17 [bv] h=some (v,h')∧(DocP b v h'∧Calms h h'):=by
 refine Go.Sh.enG Tryz.kTab_ok (X:=Tryz.X2) (kf:=Tryz.k17) rfl (by kernel_rfl) 4 rfl rfl ?_
 generalize hh0:h.push (.cells [.str [],.nilslice,.nilslice,.nilslice,.nilslice,.nilslice] .fixed)=h0
 have f0:=calm_push hh0
 have B0:=get_pushed hh0
 have w0:View h0 1 bv b.length (u8s b):=w.keep f0 λ _ _ k=>k
 have e1:ltI 1048576 (b.length:Int)=false:=ltIf (by omega)
 have e3:∀ t,vFill [.str [],.nilslice,.nilslice,.nilslice,.nilslice,.nilslice] [] [] t=some (.agg zeroR):=λ _=>rfl
 have lb:=w.length
 have s1:storeV 6 h0 (.ptr h.next 0) (.agg zeroR)=some (.tuple [],h0.put h.next (.cells zeroR .fixed)):=storeV_all B0 rfl rfl
 have B2:(h0.put h.next (.cells zeroR .fixed)).get h.next=some (.cells zeroR .fixed):=get_put_self B0
 have f2:Fr (·=h.next) (·=h.next) h0 (h0.put h.next (.cells zeroR .fixed)):=Fr.put (H.get_lt B0)
 have C:Calms h (h0.put h.next (.cells zeroR .fixed)):=Fr.new f0 f2 (λ q hq=>by have e:q=h.next:=hq;omega) (λ q hq=>by have e:q=h.next:=hq;omega)
 generalize h0.put h.next (.cells zeroR .fixed)=h2 at *
 have La:loadV (some 6) h2.get (.ptr h.next 0)=some (.agg zeroR):=loadV_all (rowCells_fixed B2) rfl
 by_cases h4:b.length < 4
 ·have e2:ltI (b.length:Int) 4=true:=ltIt (by omega)
  simp [↓ kq,kq,↓ ku,ku,↓ ko,ko,↓ kt,↓ kz,kb,kv,kt,kx,hh0,e1,e2,e3,lb,s1,La,gets_some,kc,oneS,-bO_of,-bB_true,-bB_false,-H.next_push,-Int.natCast_add]
  exact ⟨.inr ⟨docD_short hb,rfl⟩,C⟩
 ·have e2:ltI (b.length:Int) 4=false:=ltIf (by omega)
  obtain ⟨b4,k4,w4,_⟩:=w0.upto 4 (by omega)
  rw [u8s_take] at w4
  have k4:kslice 1 bv none (some (.int .i64 4)) none=some b4:=k4
  have t4:=w4.text
  have e4:eqB (b.take 4) [82,80,84,49]=false:=eqB_not hb
  simp [↓ kq,kq,↓ ku,ku,↓ ko,ko,↓ kt,↓ kz,kb,kv,kt,kx,hh0,e1,e2,e3,e4,lb,k4,t4,s1,La,gets_some,kc,oneS,-bO_of,-bB_true,-bB_false,-H.next_push,-Int.natCast_add]
  exact ⟨.inr ⟨docD_short hb,rfl⟩,C⟩
set_option maxHeartbeats 8000000 in
theorem Tryz.decode17_long {h:H} {bv:SV} {b:List UInt8} (w:View h 1 bv b.length (u8s b)) (hmax:b.length≤1000000) (hb:b.take 4=magicB):∃ v h',Tryz.l2 17 [bv] h=some (v,h')∧(DocP b v h'∧Calms h h'):=by
 refine Go.Sh.enG Tryz.kTab_ok (X:=Tryz.X2) (kf:=Tryz.k17) rfl (by kernel_rfl) 200000 rfl rfl ?_
 have h4:¬b.length < 4:=λ e=>by
  have:=congrArg List.length hb
  rw [List.length_take] at this
  have q:magicB.length=4:=rfl
  omega
 obtain ⟨Z,hZ⟩:∃ Z,rdRD false (b.drop 4) false=Z:=⟨_,rfl⟩
 have hdoc:docD b=if b.take 4=magicB∧Z.2.2=false∧Z.2.1=[] then some Z.1 else none:=by rw [← hZ];rfl
 have hpro:=hZ
 simp only [rdRD,rdM,rdP,toRD] at hpro
 have hdl:(b.drop 4).length≤b.length:=by rw [List.length_drop];omega
 have len4:(b.drop 4).length < 4611686018427387904:=by omega
 generalize hh0:h.push (.cells [.str [],.nilslice,.nilslice,.nilslice,.nilslice,.nilslice] .fixed)=h0
 have f0:=calm_push hh0
 have B0:=get_pushed hh0
 have n0:h0.next=h.next+1:=by rw [← hh0];rfl
 have w0:View h0 1 bv b.length (u8s b):=w.keep f0 λ _ _ k=>k
 have e1:ltI 1048576 (b.length:Int)=false:=ltIf (by omega)
 have e2:ltI (b.length:Int) 4=false:=ltIf (by omega)
 have lb:=w.length
 obtain ⟨b4,k4,w4,_⟩:=w0.upto 4 (by omega)
 rw [u8s_take] at w4
 have k4:kslice 1 bv none (some (.int .i64 4)) none=some b4:=k4
 have t4:=w4.text
 have e4:eqB (b.take 4) [82,80,84,49]=true:=by rw [hb];rfl
 obtain ⟨bd,kd,wd,hrd⟩:=view_from w0 4 (by omega)
 have kd:kslice 1 bv (some (.int .i64 4)) none none=some bd:=kd
 rw [u8s_drop] at wd
 have hcd:=view_cells wd
 have ef:∀ t,vFill [.nilslice,.bool false] [(0,1)] [xC bd] t=some (.agg [bd,.bool false]):=λ t=>by
  have e:kfillV [.nilslice,.bool false] [(0,1)] [bd]=some [bd,.bool false]:=by
   simp [kfillV,fillS,fillAsc,hcd,List.range,List.range.loop]
  show bO (xL [xC bd] t) (λ vs=>bO (kfillV [.nilslice,.bool false] [(0,1)] vs) λ cs=>some (SV.agg cs))=_
  show bO (kfillV [.nilslice,.bool false] [(0,1)] [bd]) (λ cs=>some (SV.agg cs))=_
  rw [e];rfl
 generalize hh1:h0.push (.cells [bd,.bool false] .fixed)=h1
 have f1:=calm_push hh1
 have g1:=get_pushed hh1
 have n1:h1.next=h0.next+1:=by rw [← hh1];rfl
 obtain ⟨p,hpd⟩:∃ p,p=h0.next:=⟨_,rfl⟩
 have R1:RR h1 p (b.drop 4) false:=by
  rw [hpd]
  exact ⟨bd,g1,by rw [List.length_drop];exact wd.keep f1 λ _ _ k=>k,λ q hq=>view_lt wd q hq,hcd⟩
 generalize hh2:h1.push (.cells [.str [],.nilslice,.nilslice,.nilslice,.nilslice,.nilslice] .fixed)=h2
 have f2:=calm_push hh2
 have B2:=get_pushed hh2
 have n2:h2.next=h1.next+1:=by rw [← hh2];rfl
 obtain ⟨x,hxd⟩:∃ x,x=h1.next:=⟨_,rfl⟩
 have hpx:p < x:=by omega
 have hxp:¬x=p:=by omega
 rw [← hxd] at B2
 have R2:RR h2 p (b.drop 4) false:=R1.keep f2 λ _ _ k=>k
 have sx:∀ {a c:H},Fr (·=p) (·=p) a c→Fr (λ q=>q=p∨q=x) (λ q=>q=p∨q=x) a c:=λ f=>f.mono (λ q _ e=>.inl e) λ q e=>.inl (.inl e)
 have sp:∀ {a c:H},Fr (·=x) (·=x) a c→Fr (λ q=>q=p∨q=x) (λ q=>q=p∨q=x) a c:=λ f=>f.mono (λ q _ e=>.inr e) λ q e=>.inl (.inr e)
 have st:∀ {a c:H},Fr (λ q=>q=p∨a.next≤q) (·=p) a c→Fr (λ q=>q=p∨q=x) (λ q=>q=p∨q=x) a c:=λ f=>f.mono (λ q hq e=>e.elim .inl λ e=>absurd hq (Nat.not_lt.2 e)) λ q e=>.inl (.inl e)
 have sl:∀ {a c:H},Fr (λ q=>q=p∨q=x∨a.next≤q) (λ q=>q=p∨q=x∨a.next≤q) a c→Fr (λ q=>q=p∨q=x) (λ q=>q=p∨q=x) a c:=λ f=>f.mono (λ q hq e=>e.elim .inl λ e=>e.elim .inr λ e=>absurd hq (Nat.not_lt.2 e)) λ q e=>e.elim (λ e=>.inl (.inl e)) λ e=>e.elim (λ e=>.inl (.inr e)) .inr
 have nox:∀ {lo:Nat},x < lo→∀ q,lo≤q→¬(q=p∨q=x):=λ hl q hq e=>by omega
 have U:∀ {a:H} {cs:List SV} {bs:List UInt8} {bad:Bool},a.get x=some (.cells cs .fixed)→RR a p bs bad→∀ cs',(a.put x (.cells cs' .fixed)).get x=some (.cells cs' .fixed)∧Fr (λ q=>q=p∨q=x) (λ q=>q=p∨q=x) a (a.put x (.cells cs' .fixed))∧RR (a.put x (.cells cs' .fixed)) p bs bad:=λ {a cs bs bad} g R cs'=>
  ⟨get_put_self g,sp (Fr.put (H.get_lt g)),R.keep (show Fr (·=x) (·=x) a (a.put x (.cells cs' .fixed)) from Fr.put (H.get_lt g)) λ q hq e=>by have e:q=x:=e;omega⟩
 obtain ⟨_,h3,k3,rfl,R3,f3⟩:=Tryz.text50 R2 len4
 have B3:=f3.get B2 hxp
 have len3:=rdT_len (b.drop 4) false
 generalize rdT (b.drop 4) false=q at *
 obtain ⟨s,b3,bad3⟩:=q
 simp only at k3 R3 hpro len3
 have s3:storeV 1 h3 (.ptr x 0) (.str s)=some (.tuple [],h3.put x (.cells [.str s,.nilslice,.nilslice,.nilslice,.nilslice,.nilslice] .fixed)):=storeV_one B3 (by simp) rfl
 obtain ⟨B4,f4,R4⟩:=U B3 R3 [.str s,.nilslice,.nilslice,.nilslice,.nilslice,.nilslice]
 generalize h3.put x (.cells [.str s,.nilslice,.nilslice,.nilslice,.nilslice,.nilslice] .fixed)=h4' at *
 obtain ⟨sv,h5,k5,n5,g5,R5,f5⟩:=Tryz.texts51 R4 (by omega)
 rw [rdTexts_eq] at g5 R5
 have B5:=f5.get B4 (by show ¬(x=p∨h4'.next≤x);have:=H.get_lt B4;omega)
 have len5:=rdC_len rdT_len false b3 bad3
 generalize rdC false rdT b3 bad3=q at *
 obtain ⟨sites,b5,bad5⟩:=q
 simp only at g5 R5 hpro len5
 have s5:storeV 1 h5 (.ptr x 1) sv=some (.tuple [],h5.put x (.cells [.str s,sv,.nilslice,.nilslice,.nilslice,.nilslice] .fixed)):=storeV_one B5 (by simp) (gro_cells g5)
 obtain ⟨B6,f6,R6⟩:=U B5 R5 [.str s,sv,.nilslice,.nilslice,.nilslice,.nilslice]
 generalize h5.put x (.cells [.str s,sv,.nilslice,.nilslice,.nilslice,.nilslice] .fixed)=h6 at *
 obtain ⟨h7,k7,R7,f7⟩:=Tryz.two52 R6 (by omega)
 have B7:=f7.get B6 hxp
 have er:rdC false (rdRow false) b5 bad5=rdL false (rdRow false) (rd2 b5 bad5).1 (rd2 b5 bad5).2.1 (rd2 b5 bad5).2.2:=rfl
 rw [er] at hpro
 have hlt:=rd2_lt b5 bad5
 have len7:=rd2_len b5 bad5
 generalize rd2 b5 bad5=q at *
 obtain ⟨n,b7,bad7⟩:=q
 simp only at k7 R7 hpro hlt len7
 have x4:x < h4'.next:=H.get_lt B4
 have x7:x < h7.next:=H.get_lt B7
 simp [↓ kq,kq,↓ ku,ku,↓ ko,ko,↓ kt,↓ kz,kb,kv,kt,kx,hh0,e1,e2,e4,lb,k4,t4,kd,ef,hcd,hh1,hh2,← hpd,← hxd,k3,s3,k5,s5,k7,gets_some,-bO_of,-bB_true,-bB_false,-H.next_push,-Int.natCast_add]
 refine gets_next (gets_leave (Gets.mono (Tryz.rows17_loop (N:=n) hpx x7 (by omega) n 0 _ b7 bad7 .nilslice [] _ h7 (by omega) (by omega) R7 (by omega) .nil (by simp;omega) (Nat.le_refl _) B7 ?_ ?_ ?_ ?_) ?_))
 rotate_right
 ·rintro fl t8 h8 ⟨rfl,tv,m,hm,B8,G8,R8,F8,a0,a2,a4,a5⟩
  simp only [if_true]
  simp [kq,kb] at a0 a2 a4 a5
  have F8:=sl F8
  have len8:=rdL_len (rdRow_len false) false n b7 bad7
  generalize rdL false (rdRow false) n b7 bad7=q at *
  obtain ⟨sets,b8,bad8⟩:=q
  simp only at hm R8 hpro len8
  obtain ⟨h9,k9,R9,f9⟩:=Tryz.two52 R8 (by omega)
  have B9:=f9.get B8 hxp
  have er:rdC false rdEdg b8 bad8=rdL false rdEdg (rd2 b8 bad8).1 (rd2 b8 bad8).2.1 (rd2 b8 bad8).2.2:=rfl
  rw [er] at hpro
  have hlt2:=rd2_lt b8 bad8
  have len9:=rd2_len b8 bad8
  generalize rd2 b8 bad8=q at *
  obtain ⟨n2',b9,bad9⟩:=q
  simp only at k9 R9 hpro hlt2 len9
  have x9:x < h9.next:=H.get_lt B9
  simp [↓ kq,kq,↓ ku,ku,↓ ko,ko,↓ kt,↓ kz,kb,kv,kt,kx,a0,a2,a4,a5,k9,gets_some,-bO_of,-bB_true,-bB_false,-H.next_push,-Int.natCast_add]
  refine gets_next (gets_leave (Gets.mono (Tryz.edges17_loop (N:=n2') hpx x9 (by omega) n2' 0 _ 0 b9 bad9 .nilslice [] _ h9 (by omega) (by omega) R9 (by omega) .nil (by omega) (Nat.le_refl _) B9 ?_ ?_ ?_ ?_) ?_))
  rotate_right
  ·rintro fl t10 h10 ⟨rfl,ev,ne,B10,g10,R10,F10,c0,c2,c4,c5⟩
   simp only [if_true]
   simp [kq,kb,a0,a2,a4,a5] at c0 c2 c4 c5
   have F10:=sl F10
   have len10:=rdL_len rdEdg_len false n2' b9 bad9
   generalize rdL false rdEdg n2' b9 bad9=q at *
   obtain ⟨edges,b10,bad10⟩:=q
   simp only [List.nil_append] at g10 R10 hpro len10
   obtain ⟨rv,h11,k11,n11,g11,R11,f11⟩:=Tryz.texts51 R10 (by omega)
   rw [rdTexts_eq] at g11 R11
   have x10:x < h10.next:=H.get_lt B10
   have B11:=f11.get B10 (by show ¬(x=p∨h10.next≤x);omega)
   have len11:=rdC_len rdT_len false b10 bad10
   generalize rdC false rdT b10 bad10=q at *
   obtain ⟨reach,b11,bad11⟩:=q
   simp only at g11 R11 hpro len11
   have s11:storeV 1 h11 (.ptr x 4) rv=some (.tuple [],h11.put x (.cells [.str s,sv,tv,ev,rv,.nilslice] .fixed)):=storeV_one B11 (by simp) (gro_cells g11)
   obtain ⟨B12,f12,R12⟩:=U B11 R11 [.str s,sv,tv,ev,rv,.nilslice]
   generalize h11.put x (.cells [.str s,sv,tv,ev,rv,.nilslice] .fixed)=h12 at *
   have x12:x < h12.next:=H.get_lt B12
   obtain ⟨iv,h13,k13,n13,g13,R13,f13⟩:=Tryz.texts51 R12 (by omega)
   rw [rdTexts_eq] at g13 R13
   have B13:=f13.get B12 (by show ¬(x=p∨h12.next≤x);omega)
   generalize rdC false rdT b11 bad11=q at *
   obtain ⟨inits,b13,bad13⟩:=q
   simp only at g13 R13 hpro
   have s13:storeV 1 h13 (.ptr x 5) iv=some (.tuple [],h13.put x (.cells [.str s,sv,tv,ev,rv,iv] .fixed)):=storeV_one B13 (by simp) (gro_cells g13)
   obtain ⟨B14,f14,R14⟩:=U B13 R13 [.str s,sv,tv,ev,rv,iv]
   generalize h13.put x (.cells [.str s,sv,tv,ev,rv,iv] .fixed)=h14 at *
   have G13:Fr (λ q=>q=p∨q=x) (λ q=>q=p∨q=x) h13 h14:=f14
   have G11:=(f12.trans (st f13)).trans G13
   have G10:=(st f11).trans G11
   have G8':=((sx f9).trans F10).trans G10
   have G5:=((f6.trans (sx f7)).trans F8).trans G8'
   have F14:Fr (λ q=>q=p∨q=x) (λ q=>q=p∨q=x) h2 h14:=(((sx f3).trans f4).trans (st f5)).trans G5
   have C2:Calms h h2:=(f0.trans f1).trans f2
   have N2:Calms h0 h2:=f1.trans f2
   have C14:Calms h h14:=Fr.new C2 F14 (λ q hq=>by rcases hq with e | e <;> omega) (λ q hq=>by rcases hq with e | e <;> omega)
   have B2':h2.get h.next=some (.cells [.str [],.nilslice,.nilslice,.nilslice,.nilslice,.nilslice] .fixed):=(N2.keep _ (H.get_lt B0) λ k=>k).trans B0
   have A14:h14.get h.next=some (.cells [.str [],.nilslice,.nilslice,.nilslice,.nilslice,.nilslice] .fixed):=F14.get B2' (by show ¬(h.next=p∨h.next=x);omega)
   subst hpro
   obtain ⟨bl,gp,wl,hrl,hcl⟩:=R14
   have Lp:=row_box gp
   have ll:=wl.length
   have La:loadV (some 6) h14.get (.ptr x 0)=some (.agg [.str s,sv,tv,ev,rv,iv]):=loadV_all (rowCells_fixed B14) rfl
   by_cases hok:bad13=false∧b13=[]
   ·obtain ⟨rfl,rfl⟩:=hok
    have sa:storeV 6 h14 (.ptr h.next 0) (.agg [.str s,sv,tv,ev,rv,iv])=some (.tuple [],h14.put h.next (.cells [.str s,sv,tv,ev,rv,iv] .fixed)):=storeV_all A14 rfl rfl
    have B16:(h14.put h.next (.cells [.str s,sv,tv,ev,rv,iv] .fixed)).get h.next=some (.cells [.str s,sv,tv,ev,rv,iv] .fixed):=get_put_self A14
    have f16:Fr (·=h.next) (·=h.next) h14 (h14.put h.next (.cells [.str s,sv,tv,ev,rv,iv] .fixed)):=Fr.put (H.get_lt A14)
    have La2:loadV (some 6) (h14.put h.next (.cells [.str s,sv,tv,ev,rv,iv] .fixed)).get (.ptr h.next 0)=some (.agg [.str s,sv,tv,ev,rv,iv]):=loadV_all (rowCells_fixed B16) rfl
    generalize h14.put h.next (.cells [.str s,sv,tv,ev,rv,iv] .fixed)=h16 at *
    have e0:ltI 0 0=false:=ltIf (by omega)
    have ll:lenV bl=some 0:=ll
    simp [↓ kq,kq,↓ ku,ku,↓ ko,ko,↓ kt,↓ kz,kb,kv,kt,kx,c0,c2,c4,c5,k11,s11,k13,s13,Lp,ll,e0,La,sa,La2,gets_some,kc,oneS,-bO_of,-bB_true,-bB_false,-H.next_push,-Int.natCast_add]
    have C16:Calms h h16:=Fr.new C14 f16 (λ q hq=>by have e:q=h.next:=hq;omega) (λ q hq=>by have e:q=h.next:=hq;omega)
    have noh:∀ {lo:Nat},x < lo→∀ q,lo≤q→¬q=h.next:=λ hl q hq e=>by omega
    have V5:=((gro_texts g5).keep G5 λ q hq=>nox x4 q (g5.row q hq)).keep f16 λ q hq=>noh x4 q (g5.row q hq)
    have V8:=(G8.keep G8' λ q hq _=>nox x7 q hq).keep f16 λ q hq _=>noh x7 q hq
    have V10:=((gro_edges g10).keep G10 λ q hq=>nox x9 q (g10.row q hq)).keep f16 λ q hq=>noh x9 q (g10.row q hq)
    have V11:=((gro_texts g11).keep G11 λ q hq=>nox x10 q (g11.row q hq)).keep f16 λ q hq=>noh x10 q (g11.row q hq)
    have V13:=((gro_texts g13).keep G13 λ q hq=>nox x12 q (g13.row q hq)).keep f16 λ q hq=>noh x12 q (g13.row q hq)
    refine ⟨.inl ⟨_,[.str s,sv,tv,ev,rv,iv],m,hdoc.trans (if_pos ⟨hb,rfl,rfl⟩),rfl,?_⟩,C16⟩
    exact ⟨⟨sv,tv,ev,rv,iv,rfl,V5,view_lt V5,V8.rows,V10,view_lt V10,V11,view_lt V11,V13,view_lt V13⟩,hm⟩
   ·have e3:∀ t,vFill [.str [],.nilslice,.nilslice,.nilslice,.nilslice,.nilslice] [] [] t=some (.agg zeroR):=λ _=>rfl
    have s1:storeV 6 h14 (.ptr h.next 0) (.agg zeroR)=some (.tuple [],h14.put h.next (.cells zeroR .fixed)):=storeV_all A14 rfl rfl
    have B16:(h14.put h.next (.cells zeroR .fixed)).get h.next=some (.cells zeroR .fixed):=get_put_self A14
    have f16:Fr (·=h.next) (·=h.next) h14 (h14.put h.next (.cells zeroR .fixed)):=Fr.put (H.get_lt A14)
    have La2:loadV (some 6) (h14.put h.next (.cells zeroR .fixed)).get (.ptr h.next 0)=some (.agg zeroR):=loadV_all (rowCells_fixed B16) rfl
    generalize h14.put h.next (.cells zeroR .fixed)=h16 at *
    have C16:Calms h h16:=Fr.new C14 f16 (λ q hq=>by have e:q=h.next:=hq;omega) (λ q hq=>by have e:q=h.next:=hq;omega)
    have hnone:docD b=none:=hdoc.trans (if_neg λ e=>hok e.2)
    cases bad13 with
    | true=>
     simp [↓ kq,kq,↓ ku,ku,↓ ko,ko,↓ kt,↓ kz,kb,kv,kt,kx,c0,c2,c4,c5,k11,s11,k13,s13,Lp,e3,s1,La2,gets_some,kc,oneS,-bO_of,-bB_true,-bB_false,-H.next_push,-Int.natCast_add]
     exact ⟨.inr ⟨hnone,rfl⟩,C16⟩
    | false=>
     obtain ⟨c,r,rfl⟩:∃ c r,b13=c::r:=by
      cases b13 with
      | nil=>exact absurd ⟨rfl,rfl⟩ hok
      | cons c r=>exact ⟨c,r,rfl⟩
     have e0:ltI 0 ((c::r).length:Int)=true:=ltIt (by simp only [List.length_cons];omega)
     generalize (c::r).length=nl at *
     simp [↓ kq,kq,↓ ku,ku,↓ ko,ko,↓ kt,↓ kz,kb,kv,kt,kx,c0,c2,c4,c5,k11,s11,k13,s13,Lp,ll,e0,e3,s1,La2,gets_some,kc,oneS,-bO_of,-bB_true,-bB_false,-H.next_push,-Int.natCast_add]
     exact ⟨.inr ⟨hnone,rfl⟩,C16⟩
  all_goals simp [kq,kb,a0,a2,a4,a5]
 all_goals simp [kq,kb,hpd,hxd]
theorem Tryz.decode17 {h:H} {bv:SV} {b:List UInt8} (w:View h 1 bv b.length (u8s b)) (hmax:b.length≤1000000):∃ v h',Tryz.l2 17 [bv] h=some (v,h')∧(DocP b v h'∧Calms h h'):=by
 by_cases hb:b.take 4=magicB
 ·exact Tryz.decode17_long w hmax hb
 ·exact Tryz.decode17_bad w hmax hb
end
end Go.Proofs
end
section
/- LadderForms: how much is given. -/
namespace Go.Proofs
open Go.Sh
set_option maxRecDepth 100000
attribute [local instance] powHeld
noncomputable section
theorem Tryz.sum7_loop {h:H} {v:SV} {zs:List Int} (w:View h 1 v zs.length (i64s zs)) (hm:zs.length≤1099511627776) (hz0:∀ z,z ∈ zs→0≤z):∀ (j i k:Nat) (acc:Int) (t:T),i+j=zs.length→j < k→0≤acc→acc≤1099511627776→getP (way 1) t=some v→getP (way 5) t=some (.int .i64 i)→getP (way 0) t=some (.int .i64 acc) →
  Gets (cLoop Tryz.l22_0 k Tryz.l2 t h) λ fl t' h'=>h'=h∧(fl=.exit 0∧getP (way 0) t'=some (.int .i64 (acc+(zs.drop i).sum))∧acc+(zs.drop i).sum≤1099511627776∧0≤(zs.drop i).sum∨fl=.ret∧getP (way 4) t'=some (.int .i64 1099511627776)):=by
 have hl:=w.length
 intro j
 induction j with
 | zero=>
  intro i k acc t hi hk h0 h1 t1 t5 t0
  obtain ⟨k,rfl⟩:∃ m,k=m+1:=⟨k - 1,by omega⟩
  rw [loop_succ]
  generalize (λ t h=>cLoop Tryz.l22_0 k Tryz.l2 t h)=L
  unfold Tryz.l22_0
  have e1:ltI (i:Int) (zs.length:Int)=false:=ltIf (by omega)
  have hd:zs.drop i=[]:=List.drop_eq_nil_of_le (by omega)
  rw [hd]
  generalize zs.length=n at *
  simp [↓ kq,kq,↓ ko,ko,↓ kt,↓ kz,kb,kv,kt,kx,t1,t5,t0,hl,e1,gets_some,-bO_of,-bB_true,-bB_false,-H.next_push,-Int.natCast_add]
  exact h1
 | succ j ih=>
  intro i k acc t hi hk h0 h1 t1 t5 t0
  obtain ⟨k,rfl⟩:∃ m,k=m+1:=⟨k - 1,by omega⟩
  rw [loop_succ]
  generalize hL:(λ t h=>cLoop Tryz.l22_0 k Tryz.l2 t h)=L
  obtain ⟨z,hz⟩:∃ z,zs[i]?=some z:=⟨zs[i],List.getElem?_eq_getElem (by omega)⟩
  have hz1:=hz0 z (List.mem_of_getElem? hz)
  obtain ⟨p,c1,c2⟩:=w.loadV (i:=i) (by omega)
  rw [i64s_get hz] at c2
  have e1:ltI (i:Int) (zs.length:Int)=true:=ltIt (by omega)
  have e3:IntKind.i64.wrap ((i:Int)+1)=((i+1:Nat):Int):=by rw [wrapI64 (by omega) (by omega)];omega
  have e4:ltI 1099511627776 acc=false:=ltIf (by omega)
  have e5:IntKind.i64.wrap (1099511627776 - acc)=1099511627776 - acc:=wrapI64 (by omega) (by omega)
  have hdrop:zs.drop i=z::zs.drop (i+1):=by
   obtain ⟨h1,h2⟩:=List.getElem?_eq_some_iff.1 hz
   rw [List.drop_eq_getElem_cons h1,h2]
  by_cases hb:1099511627776 - acc < z
  ·have e6:ltI (1099511627776 - acc) z=true:=ltIt hb
   unfold Tryz.l22_0
   simp [↓ kq,kq,↓ ko,ko,↓ kt,↓ kz,kb,kv,kt,kx,t1,t5,t0,hl,e1,e3,e4,e5,e6,c1,c2,gets_some,-bO_of,-bB_true,-bB_false,-H.next_push,-Int.natCast_add]
  ·have e6:ltI (1099511627776 - acc) z=false:=ltIf hb
   have e7:IntKind.i64.wrap (acc+z)=acc+z:=wrapI64 (by omega) (by omega)
   unfold Tryz.l22_0
   simp [↓ kq,kq,↓ ko,ko,↓ kt,↓ kz,kb,kv,kt,kx,t1,t5,t0,hl,e1,e3,e4,e5,e6,e7,c1,c2,-bO_of,-bB_true,-bB_false,-H.next_push,-Int.natCast_add]
   rw [← hL]
   refine Gets.mono (ih (i+1) k (acc+z) _ (by omega) (by omega) (by omega) (by omega) (by simp [kq,kb,t1]) (by simp [kq,kb]) (by simp [kq,kb])) λ fl t' h' ⟨b1,b2⟩=>⟨b1,?_⟩
   rw [hdrop,List.sum_cons]
   rcases b2 with ⟨b2,b3,b4,b5⟩ | b2
   ·refine .inl ⟨b2,?_,by omega,by omega⟩
    rw [b3,Int.add_assoc]
   ·exact .inr b2
theorem Tryz.sum7 {h:H} {v:SV} {zs:List Int} (w:View h 1 v zs.length (i64s zs)) (hm:zs.length≤10) (hz0:∀ z,z ∈ zs→0≤z) {acc:Int} (h0:0≤acc) (h1:acc≤1099511627776) :
  ∃ r,Tryz.l2 22 [.int .i64 acc,v] h=some (.int .i64 r,h)∧0≤r∧r≤1099511627776∧(r=acc+zs.sum∨r=1099511627776):=by
 have main:∃ v' h',Tryz.l2 22 [.int .i64 acc,v] h=some (v',h')∧(h'=h∧∃ r,v'=.int .i64 r∧0≤r∧r≤1099511627776∧(r=acc+zs.sum∨r=1099511627776)):=by
  refine Go.Sh.enG Tryz.kTab_ok (X:=Tryz.X2) (kf:=Tryz.k22) rfl (by kernel_rfl) 102 rfl rfl ?_
  simp [↓ kq,kq,↓ ko,ko,↓ kt,↓ kz,kb,kv,kt,kx,gets_some,-bO_of,-bB_true,-bB_false,-H.next_push,-Int.natCast_add]
  refine gets_next (gets_leave (Gets.mono (Tryz.sum7_loop w (by omega) hz0 zs.length 0 102 acc _ (by omega) (by omega) h0 h1 (by simp [kq,kb]) (by simp [kq,kb]) (by simp [kq,kb])) λ fl t' h' ⟨b1,b2⟩=>?_))
  subst b1
  rcases b2 with ⟨rfl,b3,b4,b5⟩ | ⟨rfl,b3⟩
  ·rw [List.drop_zero] at b3 b4 b5
   simp only [if_true]
   simp [↓ kq,kq,↓ ko,ko,↓ kt,↓ kz,kb,kv,kt,kx,b3,gets_some,kc,oneS,-bO_of,-bB_true,-bB_false,-H.next_push,-Int.natCast_add]
   omega
  ·simp [↓ kq,kq,↓ ko,ko,↓ kt,↓ kz,kb,kv,kt,kx,b3,gets_some,kc,oneS,-bO_of,-bB_true,-bB_false,-H.next_push,-Int.natCast_add]
 obtain ⟨_,_,k1,rfl,r,rfl,k2⟩:=main
 exact ⟨r,k1,k2⟩
def tot (l:List (List UInt8)):Int:=(l.map λ s=>(s.length:Int)+1).sum
def totE (l:List Edg):Int:=(l.map λ e=>(e.src.length:Int)+(e.dst.length:Int)+1).sum
theorem tot_ge (l:List (List UInt8)):(l.length:Int)≤tot l:=by
 induction l with
 | nil=>exact Int.le_refl _
 | cons s l ih=>
  unfold tot at *
  simp only [List.map_cons,List.sum_cons,List.length_cons]
  omega
theorem totE_ge (l:List Edg):(l.length:Int)≤totE l:=by
 induction l with
 | nil=>exact Int.le_refl _
 | cons s l ih=>
  unfold totE at *
  simp only [List.map_cons,List.sum_cons,List.length_cons]
  omega
theorem tot_take {l:List (List UInt8)} {i:Nat} {s:List UInt8} (h:l[i]?=some s):tot (l.take (i+1))=tot (l.take i)+((s.length:Int)+1):=by
 unfold tot
 rw [List.take_add_one,h]
 simp
theorem totE_take {l:List Edg} {i:Nat} {e:Edg} (h:l[i]?=some e):totE (l.take (i+1))=totE (l.take i)+((e.src.length:Int)+(e.dst.length:Int)+1):=by
 unfold totE
 rw [List.take_add_one,h]
 simp
theorem Tryz.total9_loop {h0:H} {v:SV} {l:List (List UInt8)} (w0:View h0 1 v l.length (strs l)):∀ (j i k:Nat) (h:H) (acc:Int) (t:T),i+j=l.length→j < k→Calms h0 h→0≤acc→acc≤1099511627776→(acc≤3000→acc=tot (l.take i))→getP (way 0) t=some v→getP (way 1) t=some (.int .i64 3000)→getP (way 6) t=some (.int .i64 i)→getP (way 5) t=some (.int .i64 acc) →
  Gets (cLoop Tryz.l24_0 k Tryz.l2 t h) λ fl t' h'=>fl=.exit 0∧Calms h0 h'∧∃ r,getP (way 5) t'=some (.int .i64 r)∧0≤r∧r≤1099511627776∧(r≤3000→r=tot l):=by
 have hl:=w0.length
 intro j
 induction j with
 | zero=>
  intro i k h acc t hi hk f h0' h1' hacc t0 t1 t6 t5
  obtain ⟨k,rfl⟩:∃ m,k=m+1:=⟨k - 1,by omega⟩
  rw [loop_succ]
  generalize (λ t h=>cLoop Tryz.l24_0 k Tryz.l2 t h)=L
  unfold Tryz.l24_0
  have e1:ltI (i:Int) (l.length:Int)=false:=ltIf (by omega)
  rw [List.take_of_length_le (by omega)] at hacc
  generalize l.length=n at *
  simp [↓ kq,kq,↓ ko,ko,↓ kt,↓ kz,kb,kv,kt,kx,t0,t1,t6,t5,hl,e1,gets_some,-bO_of,-bB_true,-bB_false,-H.next_push,-Int.natCast_add]
  exact ⟨f,h0',h1',hacc⟩
 | succ j ih=>
  intro i k h acc t hi hk f h0' h1' hacc t0 t1 t6 t5
  obtain ⟨k,rfl⟩:∃ m,k=m+1:=⟨k - 1,by omega⟩
  rw [loop_succ]
  generalize hL:(λ t h=>cLoop Tryz.l24_0 k Tryz.l2 t h)=L
  have e1:ltI (i:Int) (l.length:Int)=true:=ltIt (by omega)
  by_cases hb:3000 < acc
  ·have e2:ltI 3000 acc=true:=ltIt hb
   unfold Tryz.l24_0
   generalize l.length=n at *
   simp [↓ kq,kq,↓ ko,ko,↓ kt,↓ kz,kb,kv,kt,kx,t0,t1,t6,t5,hl,e1,e2,gets_some,-bO_of,-bB_true,-bB_false,-H.next_push,-Int.natCast_add]
   exact ⟨f,h0',h1',λ hx=>by omega⟩
  ·have e2:ltI 3000 acc=false:=ltIf hb
   have hacc:=hacc (by omega)
   obtain ⟨s,hs⟩:∃ s,l[i]?=some s:=⟨l[i],List.getElem?_eq_getElem (by omega)⟩
   have hge:=tot_ge (l.take i)
   rw [List.length_take,Nat.min_eq_left (by omega)] at hge
   have e3:IntKind.i64.wrap ((i:Int)+1)=((i+1:Nat):Int):=by rw [wrapI64 (by omega) (by omega)];omega
   have w:=w0.keep f λ _ _ k=>k
   obtain ⟨p,c1,c2⟩:=w.loadV (i:=i) (by omega)
   have c3:(strs l)[i]?=some (.str s):=by unfold strs;rw [List.getElem?_map,hs];rfl
   rw [c3] at c2
   have kc1:kcat [1,1] [.int .i64 (s.length:Int),.int .i64 1]=some [.int .i64 (s.length:Int),.int .i64 1]:=rfl
   generalize hh1:h.push (.cells [.int .i64 (s.length:Int),.int .i64 1] .fixed)=h1
   have f1:=calm_push hh1
   have wr:View h1 1 (.slice h.next 0 2 1 (some 2)) 2 (i64s [(s.length:Int),1]):=view_row (cs:=[.int .i64 (s.length:Int),.int .i64 1]) (rowCells_fixed (get_pushed hh1)) rfl
   obtain ⟨r,k1,k2,k3,k4⟩:=Tryz.sum7 (zs:=[(s.length:Int),1]) wr (by simp) (λ z hz=>by simp at hz;rcases hz with rfl | rfl <;> omega) h0' h1'
   have k5:r=acc+((s.length:Int)+1)∨r=1099511627776:=by
    refine k4.imp (λ q=>?_) (λ q=>q)
    rw [q]
    simp only [List.sum_cons,List.sum_nil]
    omega
   unfold Tryz.l24_0
   generalize hn:l.length=n at *
   simp [↓ kq,kq,↓ ko,ko,↓ kt,↓ kz,kb,kv,kt,kx,t0,t1,t6,t5,hl,e1,e2,e3,hh1,kc1,k1,c1,c2,-bO_of,-bB_true,-bB_false,-H.next_push,-Int.natCast_add]
   rw [← hL]
   refine Gets.mono (ih (i+1) k h1 r _ (by omega) (by omega) (f.trans f1) k2 k3 (λ hr=>?_) (by simp [kq,kb,t0]) (by simp [kq,kb,t1]) (by simp [kq,kb]) (by simp [kq,kb])) λ fl t' h' q=>q
   rw [tot_take hs]
   rcases k5 with q | q
   ·rw [q,hacc]
   ·omega
theorem Tryz.total9 {h:H} {v:SV} {l:List (List UInt8)} (w:View h 1 v l.length (strs l)) :
  ∃ r h',Tryz.l2 24 [v,.int .i64 3000] h=some (.int .i64 r,h')∧Calms h h'∧0≤r∧r≤1099511627776∧(r≤3000→r=tot l):=by
 have main:∃ v' h',Tryz.l2 24 [v,.int .i64 3000] h=some (v',h')∧(Calms h h'∧∃ r,v'=.int .i64 r∧0≤r∧r≤1099511627776∧(r≤3000→r=tot l)):=by
  refine Go.Sh.enG Tryz.kTab_ok (X:=Tryz.X2) (kf:=Tryz.k24) rfl (by kernel_rfl) (l.length+2) rfl rfl ?_
  simp [↓ kq,kq,↓ ko,ko,↓ kt,↓ kz,kb,kv,kt,kx,gets_some,-bO_of,-bB_true,-bB_false,-H.next_push,-Int.natCast_add]
  refine gets_next (gets_leave (Gets.mono (Tryz.total9_loop w l.length 0 (l.length+2) h 0 _ (by omega) (by omega) .refl (by omega) (by omega) (λ _=>rfl) (by simp [kq,kb]) (by simp [kq,kb]) (by simp [kq,kb]) (by simp [kq,kb])) λ fl t' h' ⟨b1,b2,r,b3,b4,b5,b6⟩=>?_))
  subst b1
  simp only [if_true]
  simp [↓ kq,kq,↓ ko,ko,↓ kt,↓ kz,kb,kv,kt,kx,b3,gets_some,kc,oneS,-bO_of,-bB_true,-bB_false,-H.next_push,-Int.natCast_add]
  exact ⟨b2,b4,b5,b6⟩
 obtain ⟨_,h',k1,k2,r,rfl,k3⟩:=main
 exact ⟨r,h',k1,k2,k3⟩
theorem Tryz.edges8_loop {h0:H} {v:SV} {l:List Edg} (w0:View h0 3 v l.length (edgs l)):∀ (j i k:Nat) (h:H) (acc:Int) (t:T),i+j=l.length→j < k→Calms h0 h→0≤acc→acc≤1099511627776→(acc≤3000→acc=totE (l.take i))→getP (way 0) t=some v→getP (way 1) t=some (.int .i64 3000)→getP (way 6) t=some (.int .i64 i)→getP (way 5) t=some (.int .i64 acc) →
  Gets (cLoop Tryz.l23_0 k Tryz.l2 t h) λ fl t' h'=>fl=.exit 0∧Calms h0 h'∧∃ r,getP (way 5) t'=some (.int .i64 r)∧0≤r∧r≤1099511627776∧(r≤3000→r=totE l):=by
 have hl:=w0.length
 intro j
 induction j with
 | zero=>
  intro i k h acc t hi hk f h0' h1' hacc t0 t1 t6 t5
  obtain ⟨k,rfl⟩:∃ m,k=m+1:=⟨k - 1,by omega⟩
  rw [loop_succ]
  generalize (λ t h=>cLoop Tryz.l23_0 k Tryz.l2 t h)=L
  unfold Tryz.l23_0
  have e1:ltI (i:Int) (l.length:Int)=false:=ltIf (by omega)
  rw [List.take_of_length_le (by omega)] at hacc
  generalize l.length=n at *
  simp [↓ kq,kq,↓ ko,ko,↓ kt,↓ kz,kb,kv,kt,kx,t0,t1,t6,t5,hl,e1,gets_some,-bO_of,-bB_true,-bB_false,-H.next_push,-Int.natCast_add]
  exact ⟨f,h0',h1',hacc⟩
 | succ j ih=>
  intro i k h acc t hi hk f h0' h1' hacc t0 t1 t6 t5
  obtain ⟨k,rfl⟩:∃ m,k=m+1:=⟨k - 1,by omega⟩
  rw [loop_succ]
  generalize hL:(λ t h=>cLoop Tryz.l23_0 k Tryz.l2 t h)=L
  have e1:ltI (i:Int) (l.length:Int)=true:=ltIt (by omega)
  by_cases hb:3000 < acc
  ·have e2:ltI 3000 acc=true:=ltIt hb
   unfold Tryz.l23_0
   generalize l.length=n at *
   simp [↓ kq,kq,↓ ko,ko,↓ kt,↓ kz,kb,kv,kt,kx,t0,t1,t6,t5,hl,e1,e2,gets_some,-bO_of,-bB_true,-bB_false,-H.next_push,-Int.natCast_add]
   exact ⟨f,h0',h1',λ hx=>by omega⟩
  ·have e2:ltI 3000 acc=false:=ltIf hb
   have hacc:=hacc (by omega)
   obtain ⟨s,hs⟩:∃ s,l[i]?=some s:=⟨l[i],List.getElem?_eq_getElem (by omega)⟩
   have hge:=totE_ge (l.take i)
   rw [List.length_take,Nat.min_eq_left (by omega)] at hge
   have e3:IntKind.i64.wrap ((i:Int)+1)=((i+1:Nat):Int):=by rw [wrapI64 (by omega) (by omega)];omega
   have w:=w0.keep f λ _ _ k=>k
   obtain ⟨id,o,c1,_,c2,_,c3,_⟩:=view_edge w hs
   have kc1:kcat [1,1,1] [.int .i64 (s.src.length:Int),.int .i64 (s.dst.length:Int),.int .i64 1]=some [.int .i64 (s.src.length:Int),.int .i64 (s.dst.length:Int),.int .i64 1]:=rfl
   generalize hh1:h.push (.cells [.int .i64 (s.src.length:Int),.int .i64 (s.dst.length:Int),.int .i64 1] .fixed)=h1
   have f1:=calm_push hh1
   have wr:View h1 1 (.slice h.next 0 3 1 (some 3)) 3 (i64s [(s.src.length:Int),(s.dst.length:Int),1]):=view_row (cs:=[.int .i64 (s.src.length:Int),.int .i64 (s.dst.length:Int),.int .i64 1]) (rowCells_fixed (get_pushed hh1)) rfl
   obtain ⟨r,k1,k2,k3,k4⟩:=Tryz.sum7 (zs:=[(s.src.length:Int),(s.dst.length:Int),1]) wr (by simp) (λ z hz=>by simp at hz;rcases hz with rfl | rfl | rfl <;> omega) h0' h1'
   have k5:r=acc+((s.src.length:Int)+(s.dst.length:Int)+1)∨r=1099511627776:=by
    refine k4.imp (λ q=>?_) (λ q=>q)
    rw [q]
    simp only [List.sum_cons,List.sum_nil]
    omega
   unfold Tryz.l23_0
   generalize hn:l.length=n at *
   simp [↓ kq,kq,↓ ko,ko,↓ kt,↓ kz,kb,kv,kt,kx,t0,t1,t6,t5,hl,e1,e2,e3,hh1,kc1,k1,c1,c2,c3,-bO_of,-bB_true,-bB_false,-H.next_push,-Int.natCast_add]
   rw [← hL]
   refine Gets.mono (ih (i+1) k h1 r _ (by omega) (by omega) (f.trans f1) k2 k3 (λ hr=>?_) (by simp [kq,kb,t0]) (by simp [kq,kb,t1]) (by simp [kq,kb]) (by simp [kq,kb])) λ fl t' h' q=>q
   rw [totE_take hs]
   rcases k5 with q | q
   ·rw [q,hacc]
   ·omega
theorem Tryz.edges8 {h:H} {v:SV} {l:List Edg} (w:View h 3 v l.length (edgs l)) :
  ∃ r h',Tryz.l2 23 [v,.int .i64 3000] h=some (.int .i64 r,h')∧Calms h h'∧0≤r∧r≤1099511627776∧(r≤3000→r=totE l):=by
 have main:∃ v' h',Tryz.l2 23 [v,.int .i64 3000] h=some (v',h')∧(Calms h h'∧∃ r,v'=.int .i64 r∧0≤r∧r≤1099511627776∧(r≤3000→r=totE l)):=by
  refine Go.Sh.enG Tryz.kTab_ok (X:=Tryz.X2) (kf:=Tryz.k23) rfl (by kernel_rfl) (l.length+2) rfl rfl ?_
  simp [↓ kq,kq,↓ ko,ko,↓ kt,↓ kz,kb,kv,kt,kx,gets_some,-bO_of,-bB_true,-bB_false,-H.next_push,-Int.natCast_add]
  refine gets_next (gets_leave (Gets.mono (Tryz.edges8_loop w l.length 0 (l.length+2) h 0 _ (by omega) (by omega) .refl (by omega) (by omega) (λ _=>rfl) (by simp [kq,kb]) (by simp [kq,kb]) (by simp [kq,kb]) (by simp [kq,kb])) λ fl t' h' ⟨b1,b2,r,b3,b4,b5,b6⟩=>?_))
  subst b1
  simp only [if_true]
  simp [↓ kq,kq,↓ ko,ko,↓ kt,↓ kz,kb,kv,kt,kx,b3,gets_some,kc,oneS,-bO_of,-bB_true,-bB_false,-H.next_push,-Int.natCast_add]
  exact ⟨b2,b4,b5,b6⟩
 obtain ⟨_,h',k1,k2,r,rfl,k3⟩:=main
 exact ⟨r,h',k1,k2,k3⟩
end
end Go.Proofs
end
section
/- LadderForms: a report of the other side's type. -/
namespace Go.Proofs
open Go.Sh
set_option maxRecDepth 100000
attribute [local instance] powHeld
noncomputable section
def MkEnd (r:RD) (m:List (Row × SV)) (x:SV) (h':H):Prop:=∃ cs',x=.agg cs'∧RepV h' h'.next cs' r m
def MkPost (h0:H) (lo:Nat) (m:List (Row × SV)) (t:T) (fl:Flow) (t':T) (h':H):Prop:=fl=.exit 0∧∃ v',getP (way 3) t'=some v'∧Gro h' lo 2 v' m.length (rowCs m)∧Fr (lo≤·) (λ _=>False) h0 h'∧getP (way 1) t'=getP (way 1) t∧getP (way 2) t'=getP (way 2) t
theorem Tryz.mk15_loop {h0:H} {tv e0 c1 c3 c4 c5:SV} {m:List (Row × SV)} {bx lo:Nat} (r0:RowsV h0 lo tv m) (hbx:bx < lo) (hm:m.length≤1073741824) (hlo:lo≤h0.next):∀ (j i k:Nat) (v:SV) (t:T) (h:H),i+j=m.length→j < k→Gro h lo 2 v i (rowCs (m.take i))→Fr (lo≤·) (λ _=>False) h0 h→h.get bx=some (.cells [e0,c1,tv,c3,c4,c5] .fixed)→getP (way 1) t=some (.ptr bx 0)→getP (way 3) t=some v→getP (way 4) t=some (.int .i64 i) →
  Gets (cLoop Tryz.l15_0 k Tryz.l2 t h) (MkPost h0 lo m t):=by
 intro j
 induction j with
 | zero=>
  intro i k v t h hi hk g fr hb t1 t3 t4
  obtain ⟨k,rfl⟩:∃ m,k=m+1:=⟨k - 1,by omega⟩
  rw [loop_succ]
  generalize (λ t h=>cLoop Tryz.l15_0 k Tryz.l2 t h)=L
  unfold Tryz.l15_0
  have e1:ltI (i:Int) (m.length:Int)=false:=ltIf (by omega)
  have ln:=r0.1.length
  have L0:=row_box hb
  rw [List.take_of_length_le (by omega)] at g
  obtain rfl:i=m.length:=by omega
  simp [↓ kq,kq,↓ ku,ku,↓ ko,ko,↓ kt,↓ kz,kb,kv,kt,kx,t1,t3,t4,L0,ln,e1,gets_some,-bO_of,-bB_true,-bB_false,-H.next_push,-Int.natCast_add]
  exact ⟨rfl,v,by simp [kq,kb,t3],g,fr,by simp [kq,kb],by simp [kq,kb]⟩
 | succ j ih=>
  intro i k v t h hi hk g fr hb t1 t3 t4
  obtain ⟨k,rfl⟩:∃ m,k=m+1:=⟨k - 1,by omega⟩
  rw [loop_succ]
  generalize hL:(λ t h=>cLoop Tryz.l15_0 k Tryz.l2 t h)=L
  have e1:ltI (i:Int) (m.length:Int)=true:=ltIt (by omega)
  have e6:intN (i:Int)=some i:=intN_nat i
  have e9:IntKind.i64.wrap ((i:Int)+1)=((i+1:Nat):Int):=by rw [wrapI64 (by omega) (by omega)];omega
  have ln:=r0.1.length
  have L0:=row_box hb
  obtain ⟨x,hx⟩:∃ x,m[i]?=some x:=⟨m[i]'(by omega),List.getElem?_eq_getElem (by omega)⟩
  have rr:RowsV h lo tv m:=r0.keep fr λ q hq hp=>by have:lo≤q:=hp;omega
  obtain ⟨id,o,a1,a2,a3⟩:=row_fields rr.1 rfl hx
  have hc:=(rr.2.2 x (List.mem_of_getElem? hx)).2.2
  have ht:m.take (i+1)=m.take i++[x]:=by rw [List.take_add_one,hx];rfl
  obtain ⟨⟨xv,xs⟩,x2⟩:=x
  simp only at a2 a3 hc
  have e5:kcat [1,1] [.str xv,x2]=some [.str xv,x2]:=by
   show bO (SV.str xv).cells? (λ cs=>bB (hasLen 1 cs) (bO (bO x2.cells? λ cs=>bB (hasLen 1 cs) (bO (some []) λ q=>some (catX cs q)) none) λ q=>some (catX cs q)) none)=_
   rw [hc];rfl
  have e4:kcat [2] [.agg [.str xv,x2]]=some [.str xv,x2]:=rfl
  generalize hh2:h.push (.cells [.str xv,x2] .fixed)=h2
  have f2:=calm_push hh2
  have w2:=view_row (n:=1) (es:=2) (rowCells_fixed (get_pushed hh2)) rfl
  have g2:=g.keep f2 λ _ _ k=>k
  have hlo2:lo≤h2.next:=by have:=fr.next;have:=f2.next;omega
  obtain ⟨v3,h3,q1,q2,q3⟩:=g2.append (bytes:=40) 1 [.str xv,x2] rfl (by omega) hlo2
  have q0:=append_V w2 q1
  have B2:=(f2.keep bx (H.get_lt hb) λ k=>k).trans hb
  have B3:=q3.get B2 (by show ¬lo≤bx;omega)
  have F:Fr (lo≤·) (λ _=>False) h0 h3:=(fr.trans (f2.mono (λ _ _ k=>k.elim) λ _ k=>k.elim)).trans q3
  have q2:Gro h3 lo 2 v3 (i+1) (rowCs (m.take (i+1))):=by rw [ht,rowCs_app];exact q2
  unfold Tryz.l15_0
  simp [↓ kq,kq,↓ ku,ku,↓ ko,ko,↓ kt,↓ kz,kb,kv,kt,kx,t1,t3,t4,L0,ln,e1,e6,e9,a1,a2,a3,e5,e4,hh2,q0,gets_some,-bO_of,-bB_true,-bB_false,-H.next_push,-Int.natCast_add]
  rw [← hL]
  refine Gets.mono (ih (i+1) k v3 _ h3 (by omega) (by omega) q2 F B3 ?_ ?_ ?_) ?_
  rotate_right
  ·rintro fl t' h' ⟨x1,v',x2,x3,x4,x5,x6⟩
   refine ⟨x1,v',x2,x3,x4,?_,?_⟩
   ·rw [x5];simp [kq,kb]
   ·rw [x6];simp [kq,kb]
  all_goals simp [kq,kb,t1,t3,t4]
theorem Tryz.mk15 {h:H} {cs:List SV} {r:RD} {m:List (Row × SV)} (R:RepV h h.next cs r m) (hm:m.length≤1073741824) :
  ∃ x h',Tryz.l2 15 [.agg cs] h=some (x,h')∧(MkEnd r m x h'∧Calms h h'):=by
 refine Go.Sh.enG Tryz.kTab_ok (X:=Tryz.X2) (kf:=Tryz.k15) rfl (by kernel_rfl) (m.length+2) rfl rfl ?_
 obtain ⟨⟨sv,tv,ev,rv,iv,rfl,a1,a2,b,c1,c2,d1,d2,i1,i2⟩,hrows⟩:=R
 have ca:=view_cells a1
 have cb:=view_cells b.1
 have cc:=view_cells c1
 have cd:=view_cells d1
 have ci:=view_cells i1
 generalize hh1:h.push (.cells [.str r.entry,sv,tv,ev,rv,iv] .fixed)=h1
 have f1:=calm_push hh1
 have B1:=get_pushed hh1
 have n1:h1.next=h.next+1:=by rw [← hh1];rfl
 generalize hh2:h1.push (.cells [.str [],.nilslice,.nilslice,.nilslice,.nilslice,.nilslice] .fixed)=h2
 have f2:=calm_push hh2
 have O2:=get_pushed hh2
 have n2:h2.next=h1.next+1:=by rw [← hh2];rfl
 have B2:=(f2.keep _ (H.get_lt B1) λ k=>k).trans B1
 have F2:Calms h h2:=f1.trans f2
 have up:∀ {v:SV},(∀ q,isRow v q→q < h.next)→∀ q,isRow v q→q < h2.next:=λ a q hq=>by have:=a q hq;omega
 have r2:RowsV h2 h2.next tv m:=⟨b.1.keep F2 λ _ _ k=>k,up b.2.1,λ x hx=>⟨(b.2.2 x hx).1.keep F2 λ _ _ k=>k,up (b.2.2 x hx).2.1,(b.2.2 x hx).2.2⟩⟩
 simp [↓ kq,kq,↓ ku,ku,↓ ko,ko,↓ kt,↓ kz,kb,kv,kt,kx,hh1,hh2,gets_some,-bO_of,-bB_true,-bB_false,-H.next_push,-Int.natCast_add]
 refine gets_next (gets_leave (Gets.mono (Tryz.mk15_loop (h0:=h2) (bx:=h.next) r2 (by omega) hm (Nat.le_refl _) m.length 0 _ .nilslice _ h2 (by omega) (by omega) .nil .refl B2 ?_ ?_ ?_) ?_))
 rotate_right
 ·rintro fl t' h3 ⟨rfl,v',x2,x3,x4,x5,x6⟩
  simp only [if_true]
  simp [kq,kb] at x5 x6
  have B3:=x4.get B2 (by show ¬h2.next≤h.next;omega)
  have O3:=x4.get O2 (by show ¬h2.next≤h1.next;omega)
  have L:=row_box B3
  have cv:=gro_cells x3
  have e5:kcat [1,1,1,1,1,1] [.str r.entry,sv,v',ev,rv,iv]=some [.str r.entry,sv,v',ev,rv,iv]:=by
   show bO (SV.str r.entry).cells? (λ cs=>bB (hasLen 1 cs) (bO (bO sv.cells? λ cs=>bB (hasLen 1 cs) (bO (bO v'.cells? λ cs=>bB (hasLen 1 cs) (bO (bO ev.cells? λ cs=>bB (hasLen 1 cs) (bO (bO rv.cells? λ cs=>bB (hasLen 1 cs) (bO (bO iv.cells? λ cs=>bB (hasLen 1 cs) (bO (some []) λ q=>some (catX cs q)) none) λ q=>some (catX cs q)) none) λ q=>some (catX cs q)) none) λ q=>some (catX cs q)) none) λ q=>some (catX cs q)) none) λ q=>some (catX cs q)) none)=_
   rw [ca,cv,cc,cd,ci];rfl
  have s3:storeV 6 h3 (.ptr h1.next 0) (.agg [.str r.entry,sv,v',ev,rv,iv])=some (.tuple [],h3.put h1.next (.cells [.str r.entry,sv,v',ev,rv,iv] .fixed)):=storeV_all O3 rfl rfl
  have O4:(h3.put h1.next (.cells [.str r.entry,sv,v',ev,rv,iv] .fixed)).get h1.next=some (.cells [.str r.entry,sv,v',ev,rv,iv] .fixed):=get_put_self O3
  have f4:Fr (·=h1.next) (·=h1.next) h3 (h3.put h1.next (.cells [.str r.entry,sv,v',ev,rv,iv] .fixed)):=Fr.put (H.get_lt O3)
  generalize h3.put h1.next (.cells [.str r.entry,sv,v',ev,rv,iv] .fixed)=h4 at *
  have La:loadV (some 6) h4.get (.ptr h1.next 0)=some (.agg [.str r.entry,sv,v',ev,rv,iv]):=loadV_all (rowCells_fixed O4) rfl
  simp [↓ kq,kq,↓ ku,ku,↓ ko,ko,↓ kt,↓ kz,kb,kv,kt,kx,x2,x5,x6,L,e5,s3,La,gets_some,kc,oneS,-bO_of,-bB_true,-bB_false,-H.next_push,-Int.natCast_add]
  have F4:Fr (λ q=>h.next≤q) (λ q=>h.next≤q) h h4:=((F2.mono (λ _ _ k=>k.elim) λ _ k=>k.elim).trans (x4.mono (λ q _ e=>by have e:h2.next≤q:=e;omega) λ _ k=>k.elim)).trans (f4.mono (λ q _ e=>by have e:q=h1.next:=e;omega) λ q e=>.inl (by have e:q=h1.next:=e;omega))
  have old:∀ {v:SV},(∀ q,isRow v q→q < h.next)→∀ q,isRow v q→¬h.next≤q:=λ a q hq hle=>by have:=a q hq;omega
  have tp:∀ {v:SV},(∀ q,isRow v q→q < h.next)→∀ q,isRow v q→q < h4.next:=λ a q hq=>by have:=a q hq;have:=F4.next;omega
  have V':=x3.view.keep f4 λ q hq e=>by have:=x3.row q hq;have e:q=h1.next:=e;omega
  refine ⟨⟨[.str r.entry,sv,v',ev,rv,iv],rfl,⟨⟨sv,v',ev,rv,iv,rfl,a1.keep F4 (old a2),tp a2,⟨V',view_lt V',λ x hx=>⟨(b.2.2 x hx).1.keep F4 (old (b.2.2 x hx).2.1),tp (b.2.2 x hx).2.1,(b.2.2 x hx).2.2⟩⟩,c1.keep F4 (old c2),tp c2,d1.keep F4 (old d2),tp d2,i1.keep F4 (old i2),tp i2⟩,hrows⟩⟩,F4.mono (λ q hq e=>absurd hq (Nat.not_lt.2 e)) λ q e=>.inr e⟩
 all_goals simp [kq,kb]
theorem Tryz.mk20_loop {h0:H} {tv e0 c1 c3 c4 c5:SV} {m:List (Row × SV)} {bx lo:Nat} (r0:RowsV h0 lo tv m) (hbx:bx < lo) (hm:m.length≤1073741824) (hlo:lo≤h0.next):∀ (j i k:Nat) (v:SV) (t:T) (h:H),i+j=m.length→j < k→Gro h lo 2 v i (rowCs (m.take i))→Fr (lo≤·) (λ _=>False) h0 h→h.get bx=some (.cells [e0,c1,tv,c3,c4,c5] .fixed)→getP (way 1) t=some (.ptr bx 0)→getP (way 3) t=some v→getP (way 4) t=some (.int .i64 i) →
  Gets (cLoop Tryz.l20_0 k Tryz.l2 t h) (MkPost h0 lo m t):=by
 intro j
 induction j with
 | zero=>
  intro i k v t h hi hk g fr hb t1 t3 t4
  obtain ⟨k,rfl⟩:∃ m,k=m+1:=⟨k - 1,by omega⟩
  rw [loop_succ]
  generalize (λ t h=>cLoop Tryz.l20_0 k Tryz.l2 t h)=L
  unfold Tryz.l20_0
  have e1:ltI (i:Int) (m.length:Int)=false:=ltIf (by omega)
  have ln:=r0.1.length
  have L0:=row_box hb
  rw [List.take_of_length_le (by omega)] at g
  obtain rfl:i=m.length:=by omega
  simp [↓ kq,kq,↓ ku,ku,↓ ko,ko,↓ kt,↓ kz,kb,kv,kt,kx,t1,t3,t4,L0,ln,e1,gets_some,-bO_of,-bB_true,-bB_false,-H.next_push,-Int.natCast_add]
  exact ⟨rfl,v,by simp [kq,kb,t3],g,fr,by simp [kq,kb],by simp [kq,kb]⟩
 | succ j ih=>
  intro i k v t h hi hk g fr hb t1 t3 t4
  obtain ⟨k,rfl⟩:∃ m,k=m+1:=⟨k - 1,by omega⟩
  rw [loop_succ]
  generalize hL:(λ t h=>cLoop Tryz.l20_0 k Tryz.l2 t h)=L
  have e1:ltI (i:Int) (m.length:Int)=true:=ltIt (by omega)
  have e6:intN (i:Int)=some i:=intN_nat i
  have e9:IntKind.i64.wrap ((i:Int)+1)=((i+1:Nat):Int):=by rw [wrapI64 (by omega) (by omega)];omega
  have ln:=r0.1.length
  have L0:=row_box hb
  obtain ⟨x,hx⟩:∃ x,m[i]?=some x:=⟨m[i]'(by omega),List.getElem?_eq_getElem (by omega)⟩
  have rr:RowsV h lo tv m:=r0.keep fr λ q hq hp=>by have:lo≤q:=hp;omega
  obtain ⟨id,o,a1,a2,a3⟩:=row_fields rr.1 rfl hx
  have hc:=(rr.2.2 x (List.mem_of_getElem? hx)).2.2
  have ht:m.take (i+1)=m.take i++[x]:=by rw [List.take_add_one,hx];rfl
  obtain ⟨⟨xv,xs⟩,x2⟩:=x
  simp only at a2 a3 hc
  have e5:kcat [1,1] [.str xv,x2]=some [.str xv,x2]:=by
   show bO (SV.str xv).cells? (λ cs=>bB (hasLen 1 cs) (bO (bO x2.cells? λ cs=>bB (hasLen 1 cs) (bO (some []) λ q=>some (catX cs q)) none) λ q=>some (catX cs q)) none)=_
   rw [hc];rfl
  have e4:kcat [2] [.agg [.str xv,x2]]=some [.str xv,x2]:=rfl
  generalize hh2:h.push (.cells [.str xv,x2] .fixed)=h2
  have f2:=calm_push hh2
  have w2:=view_row (n:=1) (es:=2) (rowCells_fixed (get_pushed hh2)) rfl
  have g2:=g.keep f2 λ _ _ k=>k
  have hlo2:lo≤h2.next:=by have:=fr.next;have:=f2.next;omega
  obtain ⟨v3,h3,q1,q2,q3⟩:=g2.append (bytes:=40) 1 [.str xv,x2] rfl (by omega) hlo2
  have q0:=append_V w2 q1
  have B2:=(f2.keep bx (H.get_lt hb) λ k=>k).trans hb
  have B3:=q3.get B2 (by show ¬lo≤bx;omega)
  have F:Fr (lo≤·) (λ _=>False) h0 h3:=(fr.trans (f2.mono (λ _ _ k=>k.elim) λ _ k=>k.elim)).trans q3
  have q2:Gro h3 lo 2 v3 (i+1) (rowCs (m.take (i+1))):=by rw [ht,rowCs_app];exact q2
  unfold Tryz.l20_0
  simp [↓ kq,kq,↓ ku,ku,↓ ko,ko,↓ kt,↓ kz,kb,kv,kt,kx,t1,t3,t4,L0,ln,e1,e6,e9,a1,a2,a3,e5,e4,hh2,q0,gets_some,-bO_of,-bB_true,-bB_false,-H.next_push,-Int.natCast_add]
  rw [← hL]
  refine Gets.mono (ih (i+1) k v3 _ h3 (by omega) (by omega) q2 F B3 ?_ ?_ ?_) ?_
  rotate_right
  ·rintro fl t' h' ⟨x1,v',x2,x3,x4,x5,x6⟩
   refine ⟨x1,v',x2,x3,x4,?_,?_⟩
   ·rw [x5];simp [kq,kb]
   ·rw [x6];simp [kq,kb]
  all_goals simp [kq,kb,t1,t3,t4]
theorem Tryz.mk20 {h:H} {cs:List SV} {r:RD} {m:List (Row × SV)} (R:RepV h h.next cs r m) (hm:m.length≤1073741824) :
  ∃ x h',Tryz.l2 20 [.agg cs] h=some (x,h')∧(MkEnd r m x h'∧Calms h h'):=by
 refine Go.Sh.enG Tryz.kTab_ok (X:=Tryz.X2) (kf:=Tryz.k20) rfl (by kernel_rfl) (m.length+2) rfl rfl ?_
 obtain ⟨⟨sv,tv,ev,rv,iv,rfl,a1,a2,b,c1,c2,d1,d2,i1,i2⟩,hrows⟩:=R
 have ca:=view_cells a1
 have cb:=view_cells b.1
 have cc:=view_cells c1
 have cd:=view_cells d1
 have ci:=view_cells i1
 generalize hh1:h.push (.cells [.str r.entry,sv,tv,ev,rv,iv] .fixed)=h1
 have f1:=calm_push hh1
 have B1:=get_pushed hh1
 have n1:h1.next=h.next+1:=by rw [← hh1];rfl
 generalize hh2:h1.push (.cells [.str [],.nilslice,.nilslice,.nilslice,.nilslice,.nilslice] .fixed)=h2
 have f2:=calm_push hh2
 have O2:=get_pushed hh2
 have n2:h2.next=h1.next+1:=by rw [← hh2];rfl
 have B2:=(f2.keep _ (H.get_lt B1) λ k=>k).trans B1
 have F2:Calms h h2:=f1.trans f2
 have up:∀ {v:SV},(∀ q,isRow v q→q < h.next)→∀ q,isRow v q→q < h2.next:=λ a q hq=>by have:=a q hq;omega
 have r2:RowsV h2 h2.next tv m:=⟨b.1.keep F2 λ _ _ k=>k,up b.2.1,λ x hx=>⟨(b.2.2 x hx).1.keep F2 λ _ _ k=>k,up (b.2.2 x hx).2.1,(b.2.2 x hx).2.2⟩⟩
 simp [↓ kq,kq,↓ ku,ku,↓ ko,ko,↓ kt,↓ kz,kb,kv,kt,kx,hh1,hh2,gets_some,-bO_of,-bB_true,-bB_false,-H.next_push,-Int.natCast_add]
 refine gets_next (gets_leave (Gets.mono (Tryz.mk20_loop (h0:=h2) (bx:=h.next) r2 (by omega) hm (Nat.le_refl _) m.length 0 _ .nilslice _ h2 (by omega) (by omega) .nil .refl B2 ?_ ?_ ?_) ?_))
 rotate_right
 ·rintro fl t' h3 ⟨rfl,v',x2,x3,x4,x5,x6⟩
  simp only [if_true]
  simp [kq,kb] at x5 x6
  have B3:=x4.get B2 (by show ¬h2.next≤h.next;omega)
  have O3:=x4.get O2 (by show ¬h2.next≤h1.next;omega)
  have L:=row_box B3
  have cv:=gro_cells x3
  have e5:kcat [1,1,1,1,1,1] [.str r.entry,sv,v',ev,rv,iv]=some [.str r.entry,sv,v',ev,rv,iv]:=by
   show bO (SV.str r.entry).cells? (λ cs=>bB (hasLen 1 cs) (bO (bO sv.cells? λ cs=>bB (hasLen 1 cs) (bO (bO v'.cells? λ cs=>bB (hasLen 1 cs) (bO (bO ev.cells? λ cs=>bB (hasLen 1 cs) (bO (bO rv.cells? λ cs=>bB (hasLen 1 cs) (bO (bO iv.cells? λ cs=>bB (hasLen 1 cs) (bO (some []) λ q=>some (catX cs q)) none) λ q=>some (catX cs q)) none) λ q=>some (catX cs q)) none) λ q=>some (catX cs q)) none) λ q=>some (catX cs q)) none) λ q=>some (catX cs q)) none)=_
   rw [ca,cv,cc,cd,ci];rfl
  have s3:storeV 6 h3 (.ptr h1.next 0) (.agg [.str r.entry,sv,v',ev,rv,iv])=some (.tuple [],h3.put h1.next (.cells [.str r.entry,sv,v',ev,rv,iv] .fixed)):=storeV_all O3 rfl rfl
  have O4:(h3.put h1.next (.cells [.str r.entry,sv,v',ev,rv,iv] .fixed)).get h1.next=some (.cells [.str r.entry,sv,v',ev,rv,iv] .fixed):=get_put_self O3
  have f4:Fr (·=h1.next) (·=h1.next) h3 (h3.put h1.next (.cells [.str r.entry,sv,v',ev,rv,iv] .fixed)):=Fr.put (H.get_lt O3)
  generalize h3.put h1.next (.cells [.str r.entry,sv,v',ev,rv,iv] .fixed)=h4 at *
  have La:loadV (some 6) h4.get (.ptr h1.next 0)=some (.agg [.str r.entry,sv,v',ev,rv,iv]):=loadV_all (rowCells_fixed O4) rfl
  simp [↓ kq,kq,↓ ku,ku,↓ ko,ko,↓ kt,↓ kz,kb,kv,kt,kx,x2,x5,x6,L,e5,s3,La,gets_some,kc,oneS,-bO_of,-bB_true,-bB_false,-H.next_push,-Int.natCast_add]
  have F4:Fr (λ q=>h.next≤q) (λ q=>h.next≤q) h h4:=((F2.mono (λ _ _ k=>k.elim) λ _ k=>k.elim).trans (x4.mono (λ q _ e=>by have e:h2.next≤q:=e;omega) λ _ k=>k.elim)).trans (f4.mono (λ q _ e=>by have e:q=h1.next:=e;omega) λ q e=>.inl (by have e:q=h1.next:=e;omega))
  have old:∀ {v:SV},(∀ q,isRow v q→q < h.next)→∀ q,isRow v q→¬h.next≤q:=λ a q hq hle=>by have:=a q hq;omega
  have tp:∀ {v:SV},(∀ q,isRow v q→q < h.next)→∀ q,isRow v q→q < h4.next:=λ a q hq=>by have:=a q hq;have:=F4.next;omega
  have V':=x3.view.keep f4 λ q hq e=>by have:=x3.row q hq;have e:q=h1.next:=e;omega
  refine ⟨⟨[.str r.entry,sv,v',ev,rv,iv],rfl,⟨⟨sv,v',ev,rv,iv,rfl,a1.keep F4 (old a2),tp a2,⟨V',view_lt V',λ x hx=>⟨(b.2.2 x hx).1.keep F4 (old (b.2.2 x hx).2.1),tp (b.2.2 x hx).2.1,(b.2.2 x hx).2.2⟩⟩,c1.keep F4 (old c2),tp c2,d1.keep F4 (old d2),tp d2,i1.keep F4 (old i2),tp i2⟩,hrows⟩⟩,F4.mono (λ q hq e=>absurd hq (Nat.not_lt.2 e)) λ q e=>.inr e⟩
 all_goals simp [kq,kb]
end
end Go.Proofs
end
section
/- LadderForms: how much two reports are. -/
namespace Go.Proofs
open Go.Sh
set_option maxRecDepth 100000
attribute [local instance] powHeld
noncomputable section
theorem flat_at {α:Type} {f:α→List SV} {es:Nat} (hf:∀ x,(f x).length=es):∀ {l:List α} {i:Nat} {x:α},l[i]?=some x→((l.flatMap f).drop (i * es)).take es=f x
 | y::l,0,x,h=>by
  simp at h;subst h
  rw [Nat.zero_mul,List.drop_zero,List.flatMap_cons,List.take_append_of_le_length (by rw [hf];exact Nat.le_refl _),List.take_of_length_le (by rw [hf];exact Nat.le_refl _)]
 | y::l,i+1,x,h=>by
  have h:l[i]?=some x:=by simpa using h
  have ih:=flat_at hf h
  rw [List.flatMap_cons,show (i+1) * es=(f y).length+i * es by rw [hf,Nat.add_mul];omega,List.drop_append]
  simp only [Nat.add_sub_cancel_left]
  rw [List.drop_eq_nil_of_le (by omega),List.nil_append]
  exact ih
theorem load_flat {α:Type} {f:α→List SV} {es:Nat} (hf:∀ x,(f x).length=es) {h:H} {v:SV} {l:List α} (w:View h es v l.length (l.flatMap f)) {i:Nat} {x:α} (hx:l[i]?=some x):∃ p,atIdx es i v=some p∧loadV (some es) h.get p=some (.agg (f x)):=by
 have hi:i < l.length:=(List.getElem?_eq_some_iff.1 hx).1
 obtain ⟨id,o,all,h1,h2,h3,h4,h5⟩:=w.at hi
 rw [flat_at hf hx] at h5
 refine ⟨_,h1,?_⟩
 rw [loadV_part h3 h4,h5]
def rowN (m:List (Row × SV)):Int:=(m.map λ x=>(x.1.var.length:Int)+(x.1.set.length:Int)+1).sum
theorem rowN_nonneg:∀ m:List (Row × SV),0≤rowN m
 | []=>Int.le_refl _
 | x::m=>by
  have:=rowN_nonneg m
  show 0≤((x.1.var.length:Int)+(x.1.set.length:Int)+1)+rowN m
  omega
def SnPost (h0:H) (acc:Int) (m:List (Row × SV)) (t:T) (fl:Flow) (t':T) (h':H):Prop:=fl=.exit 2∧Calms h0 h'∧getP (way 0) t'=getP (way 0) t∧getP (way 4) t'=getP (way 4) t∧∃ r:Int,getP (way 3) t'=some (.int .i64 r)∧0≤r∧r≤1099511627776∧(r≤3000→r=acc+rowN m)
theorem Tryz.smallr_loop {h0:H} {tv e0 c1 c3 c4 c5:SV} {m:List (Row × SV)} {bx lo:Nat} (r0:RowsV h0 lo tv m) (hb0:h0.get bx=some (.cells [e0,c1,tv,c3,c4,c5] .fixed)):∀ (j i k:Nat) (acc:Int) (t:T) (h:H),i+j=m.length→j < k→(i:Int)≤acc→acc≤1099511627776→Calms h0 h→getP (way 5) t=some (.ptr bx 0)→getP (way 3) t=some (.int .i64 acc)→getP (way 6) t=some (.int .i64 i) →
  Gets (cLoop Tryz.l12_0 k Tryz.l2 t h) (SnPost h0 acc (m.drop i) t):=by
 intro j
 induction j with
 | zero=>
  intro i k acc t h hi hk ha1 ha2 fr t5 t3 t6
  obtain ⟨k,rfl⟩:∃ m,k=m+1:=⟨k - 1,by omega⟩
  rw [loop_succ]
  generalize (λ t h=>cLoop Tryz.l12_0 k Tryz.l2 t h)=L
  unfold Tryz.l12_0
  have e1:ltI (i:Int) (m.length:Int)=false:=ltIf (by omega)
  have ln:=r0.1.length
  have L0:=row_box ((fr.keep bx (H.get_lt hb0) λ k=>k).trans hb0)
  rw [List.drop_eq_nil_of_le (by omega)]
  simp [↓ kq,kq,↓ ku,ku,↓ ko,ko,↓ kt,↓ kz,kb,kv,kt,kx,t5,t3,t6,L0,ln,e1,gets_some,-bO_of,-bB_true,-bB_false,-H.next_push,-Int.natCast_add]
  exact ⟨rfl,fr,by simp [kq,kb],by simp [kq,kb],acc,by simp [kq,kb,t3],by omega,ha2,λ _=>by simp [rowN]⟩
 | succ j ih=>
  intro i k acc t h hi hk ha1 ha2 fr t5 t3 t6
  obtain ⟨k,rfl⟩:∃ m,k=m+1:=⟨k - 1,by omega⟩
  rw [loop_succ]
  generalize hL:(λ t h=>cLoop Tryz.l12_0 k Tryz.l2 t h)=L
  have e1:ltI (i:Int) (m.length:Int)=true:=ltIt (by omega)
  have e6:intN (i:Int)=some i:=intN_nat i
  have ln:=r0.1.length
  have L0:=row_box ((fr.keep bx (H.get_lt hb0) λ k=>k).trans hb0)
  obtain ⟨x,hx⟩:∃ x,m[i]?=some x:=⟨m[i]'(by omega),List.getElem?_eq_getElem (by omega)⟩
  have hd:=drop_at hx
  rw [hd]
  by_cases hc:acc≤3000
  ·have e2:ltI 3000 acc=false:=ltIf (by omega)
   have e9:IntKind.i64.wrap ((i:Int)+1)=((i+1:Nat):Int):=by rw [wrapI64 (by omega) (by omega)];omega
   have rr:RowsV h lo tv m:=r0.keep fr λ q hq k=>k
   obtain ⟨id,o,a1,a2,a3⟩:=row_fields rr.1 rfl hx
   have hlx:=(rr.2.2 x (List.mem_of_getElem? hx)).1.length
   obtain ⟨A,hA⟩:∃ A:Int,A=(x.1.var.length:Int):=⟨_,rfl⟩
   obtain ⟨B,hB⟩:∃ B:Int,B=(x.1.set.length:Int):=⟨_,rfl⟩
   have e4:kcat [1,1,1] [.int .i64 A,.int .i64 B,.int .i64 1]=some [.int .i64 A,.int .i64 B,.int .i64 1]:=rfl
   generalize hh2:h.push (.cells [.int .i64 A,.int .i64 B,.int .i64 1] .fixed)=h2
   have f2:=calm_push hh2
   have w2:View h2 1 (.slice h.next 0 3 1 (some 3)) ([A,B,1]:List Int).length (i64s [A,B,1]):=view_row (n:=3) (es:=1) (rowCells_fixed (get_pushed hh2)) rfl
   obtain ⟨r,k1,r1,r2,r3⟩:=Tryz.sum7 w2 (by simp) (λ z hz=>by simp at hz;omega) (by omega) ha2
   have hs:([A,B,1]:List Int).sum=A+B+1:=by simp;omega
   rw [hs] at r3
   have F:Calms h0 h2:=fr.trans f2
   unfold Tryz.l12_0
   simp [↓ kq,kq,↓ ku,ku,↓ ko,ko,↓ kt,↓ kz,kb,kv,kt,kx,t5,t3,t6,L0,ln,e1,e2,e6,e9,a1,a2,a3,hlx,← hA,← hB,e4,hh2,k1,gets_some,-bO_of,-bB_true,-bB_false,-H.next_push,-Int.natCast_add]
   rw [← hL]
   refine Gets.mono (ih (i+1) k r _ h2 (by omega) (by omega) (by rcases r3 with r3 | r3 <;> omega) r2 F ?_ ?_ ?_) ?_
   rotate_right
   ·rintro fl t' h' ⟨x1,x2,x3,x4,r',y1,y2,y3,y4⟩
    refine ⟨x1,x2,?_,?_,r',y1,y2,y3,λ hr=>?_⟩
    ·rw [x3];simp [kq,kb]
    ·rw [x4];simp [kq,kb]
    ·have:=y4 hr
     have:=rowN_nonneg (m.drop (i+1))
     show r'=acc+(((x.1.var.length:Int)+(x.1.set.length:Int)+1)+rowN (m.drop (i+1)))
     rcases r3 with r3 | r3 <;> omega
   all_goals simp [kq,kb,t5,t3,t6]
  ·have e2:ltI 3000 acc=true:=ltIt (by omega)
   unfold Tryz.l12_0
   simp [↓ kq,kq,↓ ku,ku,↓ ko,ko,↓ kt,↓ kz,kb,kv,kt,kx,t5,t3,t6,L0,ln,e1,e2,gets_some,-bO_of,-bB_true,-bB_false,-H.next_push,-Int.natCast_add]
   exact ⟨rfl,fr,by simp [kq,kb],by simp [kq,kb],acc,by simp [kq,kb,t3],by omega,ha2,λ e=>absurd e hc⟩
structure RP where
 cs:List SV
 r:RD
 m:List (Row × SV)
 len:cs.length=6
def RP.D (x:RP):Int:=(x.r.entry.length:Int)+tot x.r.sites+totE x.r.edges+tot x.r.reach+tot x.r.inits+rowN x.m
def sumD (l:List RP):Int:=(l.map RP.D).sum
theorem RP.nonneg (x:RP):0≤x.D:=by
 have h1:=tot_ge x.r.sites
 have h2:=totE_ge x.r.edges
 have h3:=tot_ge x.r.reach
 have h4:=tot_ge x.r.inits
 have h5:=rowN_nonneg x.m
 unfold RP.D
 omega
theorem sumD_nonneg:∀ l:List RP,0≤sumD l
 | []=>Int.le_refl _
 | x::l=>by
  have:=sumD_nonneg l
  have:=x.nonneg
  show 0≤x.D+sumD l
  omega
def SmPost (h0:H) (acc:Int) (l:List RP) (fl:Flow) (t':T) (h':H):Prop:=fl=.exit 0∧Calms h0 h'∧∃ r:Int,getP (way 3) t'=some (.int .i64 r)∧0≤r∧r≤1099511627776∧(r≤3000→r=acc+sumD l)
set_option maxHeartbeats 8000000 in
theorem Tryz.small_loop {h0:H} {v:SV} {l:List RP} {M:Nat} (w0:View h0 6 v l.length (l.flatMap RP.cs)) (hr:∀ x ∈ l,RepV h0 h0.next x.cs x.r x.m∧x.m.length≤M) (hl:l.length≤10):∀ (j i k:Nat) (acc:Int) (t:T) (h:H),i+j=l.length→j+M+10 < k→0≤acc→acc≤1099511627776→Calms h0 h→getP (way 0) t=some v→getP (way 3) t=some (.int .i64 acc)→getP (way 4) t=some (.int .i64 i) →
  Gets (cLoop Tryz.l12_1 k Tryz.l2 t h) (SmPost h0 acc (l.drop i)):=by
 intro j
 induction j with
 | zero=>
  intro i k acc t h hi hk ha1 ha2 fr t0 t3 t4
  obtain ⟨k,rfl⟩:∃ m,k=m+1:=⟨k - 1,by omega⟩
  rw [loop_succ]
  generalize (λ t h=>cLoop Tryz.l12_1 k Tryz.l2 t h)=L
  unfold Tryz.l12_1
  have e1:ltI (i:Int) (l.length:Int)=false:=ltIf (by omega)
  have ln:=w0.length
  rw [List.drop_eq_nil_of_le (by omega)]
  simp [↓ kq,kq,↓ ku,ku,↓ ko,ko,↓ kt,↓ kz,kb,kv,kt,kx,t0,t3,t4,ln,e1,gets_some,-bO_of,-bB_true,-bB_false,-H.next_push,-Int.natCast_add]
  exact ⟨rfl,fr,acc,by simp [kq,kb,t3],ha1,ha2,λ _=>by simp [sumD]⟩
 | succ j ih=>
  intro i k acc t h hi hk ha1 ha2 fr t0 t3 t4
  obtain ⟨k,rfl⟩:∃ m,k=m+1:=⟨k - 1,by omega⟩
  rw [loop_succ]
  generalize hL:(λ t h=>cLoop Tryz.l12_1 k Tryz.l2 t h)=L
  have e1:ltI (i:Int) (l.length:Int)=true:=ltIt (by omega)
  have e6:intN (i:Int)=some i:=intN_nat i
  have e9:IntKind.i64.wrap ((i:Int)+1)=((i+1:Nat):Int):=by rw [wrapI64 (by omega) (by omega)];omega
  have ln:=w0.length
  obtain ⟨x,hx⟩:∃ x,l[i]?=some x:=⟨l[i]'(by omega),List.getElem?_eq_getElem (by omega)⟩
  have hd:=drop_at hx
  rw [hd]
  by_cases hc:acc≤3000
  ·have e2:ltI 3000 acc=false:=ltIf (by omega)
   obtain ⟨p,a1,a2⟩:=load_flat (λ x=>x.len) (w0.keep fr λ _ _ k=>k) hx
   obtain ⟨hR,hM⟩:=hr x (List.mem_of_getElem? hx)
   obtain ⟨cs,r,m,hcl⟩:=x
   simp only at hR hM a2
   obtain ⟨⟨sv,tv,ev,rv,iv,rfl,b1,b2,b,c1,c2,d1,d2,i1,i2⟩,hrows⟩:=hR
   generalize hh1:h.push (.cells [.str [],.nilslice,.nilslice,.nilslice,.nilslice,.nilslice] .fixed)=h1
   have f1:=calm_push hh1
   have B1:=get_pushed hh1
   have s1:storeV 6 h1 (.ptr h.next 0) (.agg [.str r.entry,sv,tv,ev,rv,iv])=some (.tuple [],h1.put h.next (.cells [.str r.entry,sv,tv,ev,rv,iv] .fixed)):=storeV_all B1 rfl rfl
   have B2:(h1.put h.next (.cells [.str r.entry,sv,tv,ev,rv,iv] .fixed)).get h.next=some (.cells [.str r.entry,sv,tv,ev,rv,iv] .fixed):=get_put_self B1
   have f2:Fr (·=h.next) (·=h.next) h1 (h1.put h.next (.cells [.str r.entry,sv,tv,ev,rv,iv] .fixed)):=Fr.put (H.get_lt B1)
   generalize h1.put h.next (.cells [.str r.entry,sv,tv,ev,rv,iv] .fixed)=h2 at *
   have C2:Calms h h2:=Fr.new f1 f2 (λ q e=>by have e:q=h.next:=e;omega) (λ q e=>by have e:q=h.next:=e;omega)
   have C2':Calms h0 h2:=fr.trans C2
   obtain ⟨T1,h3,k3,f3,p3,p3',p3''⟩:=Tryz.total9 (b1.keep C2' λ _ _ k=>k)
   have C3:=C2'.trans f3
   have B3:=(f3.keep _ (H.get_lt B2) λ k=>k).trans B2
   obtain ⟨T2,h4,k4,f4,p4,p4',p4''⟩:=Tryz.edges8 (c1.keep C3 λ _ _ k=>k)
   have C4:=C3.trans f4
   have B4:=(f4.keep _ (H.get_lt B3) λ k=>k).trans B3
   obtain ⟨T3,h5,k5,f5,p5,p5',p5''⟩:=Tryz.total9 (d1.keep C4 λ _ _ k=>k)
   have C5:=C4.trans f5
   have B5:=(f5.keep _ (H.get_lt B4) λ k=>k).trans B4
   obtain ⟨T4,h6,k6,f6,p6,p6',p6''⟩:=Tryz.total9 (i1.keep C5 λ _ _ k=>k)
   have C6:=C5.trans f6
   have B6:=(f6.keep _ (H.get_lt B5) λ k=>k).trans B5
   obtain ⟨N0,hN0⟩:∃ A:Int,A=(r.entry.length:Int):=⟨_,rfl⟩
   have e4:kcat [1,1,1,1,1] [.int .i64 N0,.int .i64 T1,.int .i64 T2,.int .i64 T3,.int .i64 T4]=some [.int .i64 N0,.int .i64 T1,.int .i64 T2,.int .i64 T3,.int .i64 T4]:=rfl
   generalize hh7:h6.push (.cells [.int .i64 N0,.int .i64 T1,.int .i64 T2,.int .i64 T3,.int .i64 T4] .fixed)=h7
   have f7:=calm_push hh7
   have w7:View h7 1 (.slice h6.next 0 5 1 (some 5)) ([N0,T1,T2,T3,T4]:List Int).length (i64s [N0,T1,T2,T3,T4]):=view_row (n:=5) (es:=1) (rowCells_fixed (get_pushed hh7)) rfl
   obtain ⟨r',k7,r1,r2,r3⟩:=Tryz.sum7 w7 (by simp) (λ z hz=>by simp at hz;omega) ha1 ha2
   have hs:([N0,T1,T2,T3,T4]:List Int).sum=N0+T1+T2+T3+T4:=by simp;omega
   rw [hs] at r3
   have C7:Calms h0 h7:=C6.trans f7
   have B7:=(f7.keep _ (H.get_lt B6) λ k=>k).trans B6
   have L2:=row_box B2
   have L3:=row_box B3
   have L4:=row_box B4
   have L5:=row_box B5
   have L6:=row_box B6
   have M2:∀ y n o,loadV none (mixTo h2 y n) (.ptr h.next o)=_:=λ y n=>row_mix B2
   have M3:∀ y n o,loadV none (mixTo h3 y n) (.ptr h.next o)=_:=λ y n=>row_mix B3
   have M4:∀ y n o,loadV none (mixTo h4 y n) (.ptr h.next o)=_:=λ y n=>row_mix B4
   have M5:∀ y n o,loadV none (mixTo h5 y n) (.ptr h.next o)=_:=λ y n=>row_mix B5
   have eb:eqSV (.str r.entry) (.str r.entry)=true:=eqB_self _
   have see3:∀ t,seeL (lLoad none (xC (.ptr h.next 0))) t h2 h3=true:=λ t=>ks (L2 0) (L3 0) eb
   have see4:∀ t,seeL (lLoad none (xC (.ptr h.next 0))) t h2 h4=true:=λ t=>ks (L2 0) (L4 0) eb
   have see5:∀ t,seeL (lLoad none (xC (.ptr h.next 0))) t h2 h5=true:=λ t=>ks (L2 0) (L5 0) eb
   have see6:∀ t,seeL (lLoad none (xC (.ptr h.next 0))) t h2 h6=true:=λ t=>ks (L2 0) (L6 0) eb
   have seev:∀ t a b,seeV (vLenS (xC (.str r.entry))) t a b=true:=λ _ _ _=>rfl
   have es1:=eqSV_view c1
   have es2:=eqSV_view d1
   have es3:=eqSV_view i1
   have rows7:RowsV h7 h0.next tv m:=b.keep C7 λ _ _ k=>k
   unfold Tryz.l12_1
   simp [↓ kq,kq,↓ ku,ku,↓ ko,ko,↓ kt,↓ kz,kb,kv,kt,kx,t0,t3,t4,ln,e1,e2,e6,e9,a1,a2,hh1,s1,L2,L3,L4,L5,L6,M2,M3,M4,M5,k3,k4,k5,k6,← hN0,e4,hh7,k7,kw,see3,see4,see5,see6,seev,es1,es2,es3,gets_some,-bO_of,-bB_true,-bB_false,-H.next_push,-Int.natCast_add]
   refine gets_next (gets_next (gets_leave (gets_leave (Gets.mono (Tryz.smallr_loop (h0:=h7) rows7 B7 m.length 0 (k+1) r' _ h7 (by omega) (by omega) (by omega) r2 .refl ?_ ?_ ?_) ?_))))
   rotate_right
   ·rintro fl t' h8 ⟨rfl,f8,z0,z4,r8,z3,q1,q2,q3⟩
    simp only [if_true]
    simp [kq,kb,t0,t4] at z0 z4
    simp [↓ kq,kq,↓ ku,ku,↓ ko,ko,↓ kt,↓ kz,kb,kv,kt,kx,z0,z3,z4,e9,gets_some,-bO_of,-bB_true,-bB_false,-H.next_push,-Int.natCast_add]
    rw [← hL]
    refine Gets.mono (ih (i+1) k r8 _ h8 (by omega) (by omega) q1 q2 (C7.trans f8) ?_ ?_ ?_) ?_
    rotate_right
    ·rintro fl t'' h' ⟨x1,x2,r9,y1,y2,y3,y4⟩
     refine ⟨x1,x2,r9,y1,y2,y3,λ hr9=>?_⟩
     have:=y4 hr9
     have n1:=sumD_nonneg (l.drop (i+1))
     have n2:=rowN_nonneg m
     have q3:=q3 (by omega)
     rw [List.drop_zero] at q3
     show r9=acc+(((r.entry.length:Int)+tot r.sites+totE r.edges+tot r.reach+tot r.inits+rowN m)+sumD (l.drop (i+1)))
     have hr':r'=acc+(N0+T1+T2+T3+T4):=by rcases r3 with r3 | r3 <;> omega
     have a1:=p3'' (by omega)
     have a2:=p4'' (by omega)
     have a3:=p5'' (by omega)
     have a4:=p6'' (by omega)
     omega
    all_goals simp [kq,kb,z0,z3,z4]
   all_goals simp [kq,kb]
  ·have e2:ltI 3000 acc=true:=ltIt (by omega)
   unfold Tryz.l12_1
   simp [↓ kq,kq,↓ ku,ku,↓ ko,ko,↓ kt,↓ kz,kb,kv,kt,kx,t0,t3,t4,ln,e1,e2,gets_some,-bO_of,-bB_true,-bB_false,-H.next_push,-Int.natCast_add]
   exact ⟨rfl,fr,acc,by simp [kq,kb,t3],ha1,ha2,λ e=>absurd e hc⟩
theorem Tryz.small12 {h:H} {v:SV} {l:List RP} (w:View h 6 v l.length (l.flatMap RP.cs)) (hr:∀ x ∈ l,RepV h h.next x.cs x.r x.m) (hl:l.length≤10):∃ rb h',Tryz.l2 12 [v] h=some (.bool rb,h')∧Calms h h'∧(rb=true→sumD l≤3000):=by
 obtain ⟨M,hM⟩:∃ M,∀ x ∈ l,x.m.length≤M:=by
  clear w hr hl
  induction l with
  | nil=>exact ⟨0,λ x hx=>by cases hx⟩
  | cons y l ih=>
   obtain ⟨M,h⟩:=ih
   refine ⟨M+y.m.length,λ x hx=>?_⟩
   rcases List.mem_cons.1 hx with rfl | hx
   ·omega
   ·have:=h x hx;omega
 have main:∃ v' h',Tryz.l2 12 [v] h=some (v',h')∧(Calms h h'∧∃ r:Int,v'=.bool (!ltI 3000 r)∧(r≤3000→r=sumD l)):=by
  refine Go.Sh.enG Tryz.kTab_ok (X:=Tryz.X2) (kf:=Tryz.k12) rfl (by kernel_rfl) (l.length+M+20) rfl rfl ?_
  simp [↓ kq,kq,↓ ku,ku,↓ ko,ko,↓ kt,↓ kz,kb,kv,kt,kx,kq,gets_some,-bO_of,-bB_true,-bB_false,-H.next_push,-Int.natCast_add]
  refine gets_next (gets_leave (Gets.mono (Tryz.small_loop w (λ x hx=>⟨hr x hx,hM x hx⟩) hl l.length 0 _ 0 _ h (by omega) (by omega) (by omega) (by omega) .refl ?_ ?_ ?_) ?_))
  rotate_right
  ·rintro fl t' h' ⟨rfl,f,r,y1,y2,y3,y4⟩
   simp only [if_true]
   rw [List.drop_zero] at y4
   simp [↓ kq,kq,↓ ku,ku,↓ ko,ko,↓ kt,↓ kz,kb,kv,kt,kx,y1,gets_some,kc,oneS,-bO_of,-bB_true,-bB_false,-H.next_push,-Int.natCast_add]
   exact ⟨f,r,rfl,λ e=>by have:=y4 e;omega⟩
  all_goals simp [kq,kb]
 obtain ⟨_,h',k1,k2,r,rfl,k3⟩:=main
 refine ⟨_,h',k1,k2,λ e=>?_⟩
 by_cases c:r≤3000
 ·have:=k3 c;omega
 ·rw [ltIt (by omega)] at e;cases e
end
end Go.Proofs
end
section
/- LadderForms: the law, but for awake. -/
namespace Go.Proofs
open Go.Sh
set_option maxRecDepth 100000
attribute [local instance] powHeld
noncomputable section
theorem szT_tot:∀ l,(szT l:Int)≤2 * tot l
 | []=>Int.le_refl _
 | s::l=>by
  have:=szT_tot l
  have e:tot (s::l)=((s.length:Int)+1)+tot l:=rfl
  have e2:szT (s::l)=s.length+2+szT l:=rfl
  omega
theorem szE_tot:∀ l,(szE l:Int)≤6 * totE l
 | []=>Int.le_refl _
 | s::l=>by
  have:=szE_tot l
  have e:totE (s::l)=((s.src.length:Int)+(s.dst.length:Int)+1)+totE l:=rfl
  have e2:szE (s::l)=s.src.length+s.dst.length+6+szE l:=rfl
  omega
theorem szR_row:∀ m:List (Row × SV),(szR (m.map (·.1)):Int)≤4 * rowN m
 | []=>Int.le_refl _
 | x::m=>by
  have:=szR_row m
  have e:rowN (x::m)=((x.1.var.length:Int)+(x.1.set.length:Int)+1)+rowN m:=rfl
  have e2:szR ((x::m).map (·.1))=x.1.var.length+4+2 * x.1.set.length+szR (m.map (·.1)):=rfl
  omega
theorem len_row:∀ m:List (Row × SV),(m.length:Int)≤rowN m
 | []=>Int.le_refl _
 | x::m=>by
  have:=len_row m
  have e:rowN (x::m)=((x.1.var.length:Int)+(x.1.set.length:Int)+1)+rowN m:=rfl
  rw [List.length_cons,e];omega
theorem RP.size (x:RP) (hm:x.m.map (·.1)=x.r.sets) (h:x.D≤3000):szD x.r≤100000∧x.m.length≤3000:=by
 have h1:=szT_tot x.r.sites
 have h2:=szE_tot x.r.edges
 have h3:=szT_tot x.r.reach
 have h4:=szT_tot x.r.inits
 have h5:=szR_row x.m
 have h6:=len_row x.m
 have g1:=tot_ge x.r.sites
 have g2:=totE_ge x.r.edges
 have g3:=tot_ge x.r.reach
 have g4:=tot_ge x.r.inits
 have g5:=rowN_nonneg x.m
 rw [hm] at h5
 unfold RP.D at h
 unfold szD
 constructor <;> omega
theorem eqE_self {α:Type} (l:List α):eqE l l=true:=by
 unfold eqE
 simp
theorem sameD_self (r:RD):sameD r r=true:=by
 unfold sameD
 rw [eqB_self,decide_eq_true rfl,eqE_self,eqE_self,decide_eq_true rfl,decide_eq_true rfl]
 rfl
def zeroD:RD:=⟨[],[],[],[],[],[]⟩
theorem view_nil {h:H} {es:Nat}:View h es .nilslice 0 []:=⟨by simp,.inl ⟨rfl,rfl⟩⟩
theorem zeroV (h:H) (p:Nat):RepV h p zeroR zeroD []:=
 ⟨⟨.nilslice,.nilslice,.nilslice,.nilslice,.nilslice,rfl,view_nil,λ q hq=>hq.elim,⟨view_nil,λ q hq=>hq.elim,λ x hx=>by cases hx⟩,view_nil,λ q hq=>hq.elim,view_nil,λ q hq=>hq.elim,view_nil,λ q hq=>hq.elim⟩,rfl⟩
theorem both_read {b:List UInt8} {v u:SV} {h h':H} (D:DecP b v h) (E:DocP b u h'):∃ r ca cb ma mb c,v=.tuple [.agg ca,.int .i64 c]∧u=.tuple [.agg cb,.int .i64 c]∧RepV h h.next ca r ma∧RepV h' h'.next cb r mb∧szD r≤b.length+64∧(c=0∨c=7):=by
 have hsz:szD (proD b)≤b.length+64:=Nat.le_trans (proD_size true (b.drop 4) false) (by rw [List.length_drop];omega)
 rcases D with ⟨h4,he,cs,m,rfl,R⟩ | ⟨hn,rfl⟩
 ·rcases E with ⟨r,cb,mb,hd,rfl,Q⟩ | ⟨hd,rfl⟩
  ·have:=((read_same h4).1 r hd).1
   rw [← this] at Q
   exact ⟨_,cs,cb,m,mb,0,rfl,rfl,R,Q,hsz,.inl rfl⟩
  ·exact absurd he ((read_same h4).2 hd)
 ·rcases E with ⟨r,cb,mb,hd,rfl,Q⟩ | ⟨hd,rfl⟩
  ·exfalso
   have ht:b.take 4=magicB:=by
    unfold docD at hd
    split at hd
    ·rename_i hc;exact hc.1
    ·cases hd
   have h4:4≤b.length:=by
    have:=congrArg List.length ht
    rw [List.length_take] at this
    have q:magicB.length=4:=rfl
    omega
   exact hn ⟨h4,((read_same h4).1 r hd).2⟩
  ·exact ⟨zeroD,zeroR,zeroR,[],[],7,rfl,rfl,zeroV _ _,zeroV _ _,by show 16≤_;omega,.inr rfl⟩
theorem loadV_mix {g h:H} {fr b n:Nat} {cs:List SV} (e:g.get b=some (.cells cs .fixed)) (hn:cs.length=n):loadV (some n) (mixTo g h fr) (.ptr b 0)=some (.agg cs):=loadV_all ((rowCells_mix (H.get_lt e)).trans (rowCells_fixed e)) hn
theorem RepV.len {h:H} {p:Nat} {cs:List SV} {r:RD} {m:List (Row × SV)} (R:RepV h p cs r m):cs.length=6:=by
 obtain ⟨⟨sv,tv,ev,rv,iv,rfl,_⟩,_⟩:=R
 rfl
theorem view_eq1 {h:H} {es n:Nat} {v:SV} {cs:List SV} (w:View h es v n cs):eqS1 v v=true:=by
 have e:=eqSV_view w
 obtain ⟨_,⟨rfl,_⟩ | ⟨id,off,cap,all,rfl,_⟩⟩:=w <;> exact e
theorem RepV.eqs {h:H} {p:Nat} {cs:List SV} {r:RD} {m:List (Row × SV)} (R:RepV h p cs r m):eqSV (.agg cs) (.agg cs)=true:=by
 obtain ⟨⟨sv,tv,ev,rv,iv,rfl,a,_,b,c,_,d,_,i,_⟩,_⟩:=R
 show (eqB r.entry r.entry&&(eqS1 sv sv&&(eqS1 tv tv&&(eqS1 ev ev&&(eqS1 rv rv&&(eqS1 iv iv&&true))))))=true
 rw [eqB_self,view_eq1 a,view_eq1 b.1,view_eq1 c,view_eq1 d,view_eq1 i];rfl
theorem kcat66 {h:H} {p:Nat} {ca cb:List SV} {r o:RD} {ma mb:List (Row × SV)} (R:RepV h p ca r ma) (Q:RepV h p cb o mb):kcat [6,6] [.agg ca,.agg cb]=some (ca++cb):=by
 obtain ⟨⟨sv,tv,ev,rv,iv,rfl,_⟩,_⟩:=R
 obtain ⟨⟨sv,tv,ev,rv,iv,rfl,_⟩,_⟩:=Q
 rfl
theorem DecP.shape {b:List UInt8} {v:SV} {h:H} (D:DecP b v h):∃ cs c,v=.tuple [.agg cs,.int .i64 c]∧cs.length=6:=by
 rcases D with ⟨_,_,cs,m,rfl,R⟩ | ⟨_,rfl⟩
 ·exact ⟨cs,0,rfl,R.len⟩
 ·exact ⟨zeroR,7,rfl,rfl⟩
theorem DocP.shape {b:List UInt8} {v:SV} {h:H} (D:DocP b v h):∃ cs c,v=.tuple [.agg cs,.int .i64 c]∧cs.length=6:=by
 rcases D with ⟨_,cs,m,_,rfl,R⟩ | ⟨_,rfl⟩
 ·exact ⟨cs,0,rfl,R.len⟩
 ·exact ⟨zeroR,7,rfl,rfl⟩
set_option maxHeartbeats 16000000 in
theorem Tryz.law4 {h:H} {ca cb:List SV} {bv:SV} {r o:RD} {ma mb:List (Row × SV)} {b:List UInt8} (R:RepV h h.next ca r ma) (Q:RepV h h.next cb o mb) (w:View h 1 bv b.length (u8s b)) :
  ∃ v h',Tryz.l2 4 [.agg ca,.agg cb,bv] h=some (v,h')∧v=.bool true:=by
 refine Go.Sh.enG Tryz.kTab_ok (X:=Tryz.X2) (kf:=Tryz.k4) rfl (by kernel_rfl) 4 rfl rfl ?_
 have la:=R.len
 have lb:=Q.len
 have lw:=w.length
 have ka:(SV.agg ca).cells?=some ca:=rfl
 have kb1:(SV.agg cb).cells?=some cb:=rfl
 generalize hhA:h.push (.cells ca .fixed)=hA
 have fA:=calm_push hhA
 have A0:=get_pushed hhA
 generalize hhB:hA.push (.cells cb .fixed)=hB
 have fB:=calm_push hhB
 have O0:=get_pushed hhB
 have A1:=(fB.keep _ (H.get_lt A0) λ k=>k).trans A0
 have ldA:∀ {g:H},g.get h.next=some (.cells ca .fixed)→loadV (some 6) g.get (.ptr h.next 0)=some (.agg ca):=λ e=>loadV_all (rowCells_fixed e) la
 have ldB:∀ {g:H},g.get hA.next=some (.cells cb .fixed)→loadV (some 6) g.get (.ptr hA.next 0)=some (.agg cb):=λ e=>loadV_all (rowCells_fixed e) lb
 have kc12:=kcat66 R Q
 generalize hhC:hB.push (.cells (ca++cb) .fixed)=hC
 have fC:=calm_push hhC
 have C1:Calms h hC:=(fA.trans fB).trans fC
 have wC:View hC 6 (.slice hB.next 0 2 6 (some 2)) ([⟨ca,r,ma,la⟩,⟨cb,o,mb,lb⟩]:List RP).length (([⟨ca,r,ma,la⟩,⟨cb,o,mb,lb⟩]:List RP).flatMap RP.cs):=by
  have e:([⟨ca,r,ma,la⟩,⟨cb,o,mb,lb⟩]:List RP).flatMap RP.cs=ca++cb:=by simp
  rw [e]
  exact view_row (n:=2) (es:=6) (rowCells_fixed (get_pushed hhC)) (by rw [List.length_append,la,lb])
 have rk:∀ {g:H},Calms h g→RepV g g.next ca r ma∧RepV g g.next cb o mb∧View g 1 bv b.length (u8s b):=λ f=>⟨(R.keep f λ _ _ k=>k).up f.next,(Q.keep f λ _ _ k=>k).up f.next,w.keep f λ _ _ k=>k⟩
 obtain ⟨rb,hD,kD,fD,hsm⟩:=Tryz.small12 wC (λ x hx=>by
  have:=rk C1
  simp at hx
  rcases hx with rfl | rfl
  ·exact this.1
  ·exact this.2.1) (by simp)
 have CD:Calms h hD:=C1.trans fD
 have AD:=(fD.keep _ (by have:=H.get_lt A1;have:=fC.next;omega) λ k=>k).trans ((fC.keep _ (H.get_lt A1) λ k=>k).trans A1)
 have OD:=(fD.keep _ (by have:=H.get_lt O0;have:=fC.next;omega) λ k=>k).trans ((fC.keep _ (H.get_lt O0) λ k=>k).trans O0)
 have kaw:=Tryz.awake13
 have LA1:=ldA A1
 have LB1:=ldB O0
 cases rb with
 | false=>
  simp [↓ kq,kq,↓ ku,ku,↓ ko,ko,↓ kt,↓ kz,kb,kv,kt,kx,hhA,hhB,LA1,LB1,kc12,hhC,kD,kaw,gets_some,kc,oneS,-bO_of,-bB_true,-bB_false,-H.next_push,-Int.natCast_add]
 | true=>
 by_cases h3:3000 < b.length
 ·have e1:ltI 3000 (b.length:Int)=true:=ltIt (by omega)
  simp [↓ kq,kq,↓ ku,ku,↓ ko,ko,↓ kt,↓ kz,kb,kv,kt,kx,hhA,hhB,LA1,LB1,kc12,hhC,kD,kaw,lw,e1,gets_some,kc,oneS,-bO_of,-bB_true,-bB_false,-H.next_push,-Int.natCast_add]
 ·have e1:ltI 3000 (b.length:Int)=false:=ltIf (by omega)
  have hD3:sumD [⟨ca,r,ma,la⟩,⟨cb,o,mb,lb⟩]≤3000:=hsm rfl
  have hD3:RP.D ⟨ca,r,ma,la⟩+(RP.D ⟨cb,o,mb,lb⟩+0)≤3000:=hD3
  have nn1:=RP.nonneg ⟨ca,r,ma,la⟩
  have nn2:=RP.nonneg ⟨cb,o,mb,lb⟩
  obtain ⟨zr,zm⟩:=RP.size ⟨ca,r,ma,la⟩ R.rows (by omega)
  obtain ⟨zo,zmo⟩:=RP.size ⟨cb,o,mb,lb⟩ Q.rows (by omega)
  simp only at zr zm zo zmo
  obtain ⟨_,hE,kE,⟨cE,rfl,RE⟩,fE⟩:=Tryz.mk15 (rk CD).1 (by omega)
  obtain ⟨vF,hF,kF,⟨wF,oF⟩,fF⟩:=Tryz.encode14 RE (by omega)
  rw [encD_eq] at wF
  have CF':Calms h hF:=(CD.trans fE).trans fF
  obtain ⟨vG,hG,kG,DG,fG⟩:=Tryz.decode16 (rk CF').2.2 (by omega)
  have CG:Calms h hG:=CF'.trans fG
  generalize hhH:hG.push (.cells [.str [],.nilslice,.nilslice,.nilslice,.nilslice,.nilslice] .fixed)=hH
  have fH:=calm_push hhH
  have X0:=get_pushed hhH
  obtain ⟨cx,cc,rfl,lx⟩:=DG.shape
  have sX:storeV 6 hH (.ptr hG.next 0) (.agg cx)=some (.tuple [],hH.put hG.next (.cells cx .fixed)):=storeV_all X0 rfl lx
  have XI:(hH.put hG.next (.cells cx .fixed)).get hG.next=some (.cells cx .fixed):=get_put_self X0
  have fI:Calms hG (hH.put hG.next (.cells cx .fixed)):=Fr.new fH (show Fr (·=hG.next) (·=hG.next) hH _ from Fr.put (H.get_lt X0)) (λ q e=>by have e:q=hG.next:=e;omega) (λ q e=>by have e:q=hG.next:=e;omega)
  generalize hH.put hG.next (.cells cx .fixed)=hI at *
  have CI:Calms h hI:=CG.trans fI
  obtain ⟨vJ,hJ,kJ,DJ,fJ⟩:=Tryz.decode17 (rk CI).2.2 (by omega)
  have CJ:Calms h hJ:=CI.trans fJ
  have XJ:=(fJ.keep _ (H.get_lt XI) λ k=>k).trans XI
  generalize hhK:hJ.push (.cells [.str [],.nilslice,.nilslice,.nilslice,.nilslice,.nilslice] .fixed)=hK
  have fK:=calm_push hhK
  have Y0:=get_pushed hhK
  obtain ⟨cy,cd,rfl,ly⟩:=DJ.shape
  have sY:storeV 6 hK (.ptr hJ.next 0) (.agg cy)=some (.tuple [],hK.put hJ.next (.cells cy .fixed)):=storeV_all Y0 rfl ly
  have YL:(hK.put hJ.next (.cells cy .fixed)).get hJ.next=some (.cells cy .fixed):=get_put_self Y0
  have fL:Calms hJ (hK.put hJ.next (.cells cy .fixed)):=Fr.new fK (show Fr (·=hJ.next) (·=hJ.next) hK _ from Fr.put (H.get_lt Y0)) (λ q e=>by have e:q=hJ.next:=e;omega) (λ q e=>by have e:q=hJ.next:=e;omega)
  generalize hK.put hJ.next (.cells cy .fixed)=hL at *
  have CL:Calms h hL:=CJ.trans fL
  have XL:=(fL.keep _ (H.get_lt XJ) λ k=>k).trans XJ
  have GL:Calms hG hL:=(fI.trans fJ).trans fL
  have wL:View hL 1 vF (encD r).length (encD r):=wF.keep (fG.trans GL) λ _ _ k=>k
  obtain ⟨vM,hM,kM,⟨wM,oM⟩,fM⟩:=Tryz.rencode18 (rk CL).1 (by omega)
  have CM:Calms h hM:=CL.trans fM
  have wLM:View hM 1 vF (encD r).length (encD r):=wL.keep fM λ _ _ k=>k
  obtain ⟨zs,hzs⟩:=IsZ.enc r
  rw [hzs] at wL wM wLM
  have tL:=View.str wL
  have tM:=View.str wM
  have tLM:=View.str wLM
  generalize bytesZ zs=S at *
  have eS:eqB S S=true:=eqB_self S
  have seeS:∀ t,seeL (lToStr (xC vF)) t hL hM=true:=λ t=>ks (u:=.str S) (show lToStr (xC vF) hL.get t=_ from tL) (show lToStr (xC vF) hM.get t=_ from tLM) eS
  obtain ⟨rd,cx',cy',mx,my,cdd,q1,q2,RX,RY,hrd,hcd⟩:=both_read DG DJ
  injection q1 with q1
  injection q1 with q1 q1'
  injection q1 with q1
  injection q1' with q1'
  injection q1' with _ q1'
  injection q2 with q2
  injection q2 with q2 q2'
  injection q2 with q2
  injection q2' with q2'
  injection q2' with _ q2'
  subst q1 q1' q2 q2'
  have XM:=(fM.keep _ (H.get_lt XL) λ k=>k).trans XL
  have YM:=(fM.keep _ (H.get_lt YL) λ k=>k).trans YL
  have ldX:loadV (some 6) hM.get (.ptr hG.next 0)=some (.agg cx):=loadV_all (rowCells_fixed XM) lx
  have GM:Calms hG hM:=GL.trans fM
  have RXM:RepV hM hM.next cx rd mx:=(RX.keep GM λ _ _ k=>k).up GM.next
  have mxl:mx.length≤1073741824:=by
   have e:mx.length=rd.sets.length:=by rw [← RX.rows,List.length_map]
   have:=szR_len rd.sets
   unfold szD at hrd
   omega
  obtain ⟨_,hN,kN,⟨cN,rfl,RN⟩,fN⟩:=Tryz.mk20 RXM mxl
  have CN:Calms h hN:=CM.trans fN
  have YN:=(fN.keep _ (H.get_lt YM) λ k=>k).trans YM
  have ldY:loadV (some 6) hN.get (.ptr hJ.next 0)=some (.agg cy):=loadV_all (rowCells_fixed YN) ly
  have ldYm:∀ y n,loadV (some 6) (mixTo hM y n) (.ptr hJ.next 0)=some (.agg cy):=λ y n=>loadV_mix YM ly
  have JN:Calms hJ hN:=(fL.trans fM).trans fN
  obtain ⟨_,hO,kO,rfl,fO⟩:=Tryz.rsame19 RN ((RY.keep JN λ _ _ k=>k).up JN.next) (by omega) (by omega)
  rw [sameD_self] at kO
  have CO:Calms h hO:=CN.trans fO
  have ecd:eqI cd cd=true:=eqI_self cd
  have eca:=R.eqs
  have ecb:=Q.eqs
  have ecy:=RY.eqs
  have boxA:∀ {g:H},Calms hD g→g.get h.next=some (.cells ca .fixed):=λ f=>(f.keep _ (H.get_lt AD) λ k=>k).trans AD
  have boxB:∀ {g:H},Calms hD g→g.get hA.next=some (.cells cb .fixed):=λ f=>(f.keep _ (H.get_lt OD) λ k=>k).trans OD
  have DO':Calms hD hO:=((((((fE.trans fF).trans fG).trans GM).trans fN).trans fO))
  have DM:Calms hD hM:=((fE.trans fF).trans fG).trans GM
  have DL:Calms hD hL:=((fE.trans fF).trans fG).trans GL
  obtain ⟨_,hP,kP,⟨cP,rfl,RP1⟩,fP⟩:=Tryz.mk15 (rk CO).1 (by omega)
  have CP:Calms h hP:=CO.trans fP
  obtain ⟨_,hQ,kQ,⟨cQ,rfl,RQ1⟩,fQ⟩:=Tryz.mk15 (rk CP).2.1 (by omega)
  have CQ:Calms h hQ:=CP.trans fQ
  obtain ⟨_,hR,kR,rfl,fR⟩:=Tryz.same21 ((RP1.keep fQ λ _ _ k=>k).up fQ.next) RQ1 (by omega) (by omega)
  have CR:Calms h hR:=CQ.trans fR
  obtain ⟨_,hS,kS,rfl,fS⟩:=Tryz.rsame19 (rk CR).1 (rk CR).2.1 (by omega) (by omega)
  generalize sameD r o=B at *
  have DP:Calms hD hP:=DO'.trans fP
  have DQ:Calms hD hQ:=DP.trans fQ
  have DR:Calms hD hR:=DQ.trans fR
  have lA0:=ldA AD
  have lAL:=ldA (boxA DL)
  have lAO:=ldA (boxA DO')
  have lAR:=ldA (boxA DR)
  have lBP:=ldB (boxB DP)
  have lBR:=ldB (boxB DR)
  have mBO:∀ y n,loadV (some 6) (mixTo hO y n) (.ptr hA.next 0)=some (.agg cb):=λ y n=>loadV_mix (boxB DO') lb
  have mBP:∀ y n,loadV (some 6) (mixTo hP y n) (.ptr hA.next 0)=some (.agg cb):=λ y n=>loadV_mix (boxB DP) lb
  have mBQ:∀ y n,loadV (some 6) (mixTo hQ y n) (.ptr hA.next 0)=some (.agg cb):=λ y n=>loadV_mix (boxB DQ) lb
  have mAO:∀ y n,loadV (some 6) (mixTo hO y n) (.ptr h.next 0)=some (.agg ca):=λ y n=>loadV_mix (boxA DO') la
  have mAP:∀ y n,loadV (some 6) (mixTo hP y n) (.ptr h.next 0)=some (.agg ca):=λ y n=>loadV_mix (boxA DP) la
  have mAQ:∀ y n,loadV (some 6) (mixTo hQ y n) (.ptr h.next 0)=some (.agg ca):=λ y n=>loadV_mix (boxA DQ) la
  simp [↓ kq,kq,↓ ku,ku,↓ ko,ko,↓ kt,↓ kz,kb,kv,kt,kx,hhA,hhB,LA1,LB1,kc12,hhC,kD,kaw,lw,e1,lA0,kE,kF,kG,hhH,sX,kJ,hhK,sY,kw,seeS,tL,lAL,kM,tM,eS,ldX,kN,ldY,ldYm,kO,ecd,eca,ecb,ecy,lAO,kP,lBP,mBO,kQ,kR,lAR,lBR,mBP,mBQ,mAO,mAP,mAQ,kS,gets_some,kc,oneS,-bO_of,-bB_true,-bB_false,-H.next_push,-Int.natCast_add]
end
end Go.Proofs
end
