/- General laws of the proof: a shadow machine of the form, its soundness, and a compiled form of it. -/
import Derived.Test.YtpjpiigachahkaaGreatDoorSh5
import Derived.Scope
import Derived.Below
set_option linter.unusedVariables false
set_option linter.unusedSimpArgs false
set_option linter.unusedSectionVars false
section
/- The shadow machine: code, calls, all of it. -/
namespace Go.Sh
def Regs (P:Program):Code→Prop
 | .region _ ops draw=>Region.ok P.types ops draw=true
 | .seq a b=>Regs P a∧Regs P b
 | .cond _ a b=>Regs P a∧Regs P b
 | .block _ c=>Regs P c
 | .loop c=>Regs P c
 | .scope c=>Regs P c
 | _=>True
def exitOf:Flow→Exit
 | .normal=>.normal
 | .exit id=>.exit id
 | .goto l=>.goto l
 | .ret=>.ret
section
variable [Held] {P:Program} {e:Ev} {n:Nat} {B:Nat} {ι:Inj} {h h':H} {t t':T} {a:Act} {w:World} {fl:Flow}
theorem regs_label:∀ {c rest:Code} {l:Nat},Regs P c→findLabel c l=some rest→Regs P rest
 | .seq a b,rest,l,hr,hf=>by
  simp only [findLabel] at hf
  split at hf
  ·rename_i r hr'
   simp only [Option.some.injEq] at hf;subst hf
   exact ⟨regs_label hr.1 hr',hr.2⟩
  ·exact regs_label hr.2 hf
 | .label l',rest,l,_,hf=>by
  simp only [findLabel] at hf
  split at hf <;> simp only [Option.some.injEq,reduceCtorEq] at hf
  subst hf;trivial
 | .skip,_,_,_,hf=>by simp [findLabel] at hf
 | .region ..,_,_,_,hf=>by simp [findLabel] at hf
 | .cond ..,_,_,_,hf=>by simp [findLabel] at hf
 | .block ..,_,_,_,hf=>by simp [findLabel] at hf
 | .loop ..,_,_,_,hf=>by simp [findLabel] at hf
 | .rangeFunc ..,_,_,_,hf=>by simp [findLabel] at hf
 | .exit ..,_,_,_,hf=>by simp [findLabel] at hf
 | .scope ..,_,_,_,hf=>by simp [findLabel] at hf
 | .goto ..,_,_,_,hf=>by simp [findLabel] at hf
 | .ret,_,_,_,hf=>by simp [findLabel] at hf
 | .refuse ..,_,_,_,hf=>by simp [findLabel] at hf
def Post (B:Nat) (ι:Inj) (h:H) (w:World) (n:Nat) (fl:Flow) (t':T) (h':H):Exit→Act→World→Prop:=λ en a' w'=>en=exitOf fl∧∃ ι',Moves B ι h w ι' h' w'∧TRel ι' t' n a'
theorem Post.trans {ι1:Inj} {h1:H} {w1:World} {en:Exit} {a':Act} {w':World} (hs:St B ι h w) (hm:Moves B ι h w ι1 h1 w1) (hp:Post B ι1 h1 w1 n fl t' h' en a' w'):Post B ι h w n fl t' h' en a' w':=by
 obtain ⟨h1,ι',h2,h3⟩:=hp
 exact ⟨h1,ι',hm.trans hs h2,h3⟩
def Claim (P:Program) (j:Job) (Q:Exit→Act→World→Prop) (a:Act) (w:World):Prop:=match j with
 | .code (.loop c)=>∀ (b:Frame) (k:List Item) (cs:List Frame),∃ en a' w',Q en a' w'∧Arrives P (lone (b.at a (.code c::.inLoop c::k)) cs w) b k cs en a' w'
 | .code c=>c.wp P Q a w
 | .within cur body=>∀ (b:Frame) (k:List Item) (cs:List Frame),∃ en a' w',Q en a' w'∧Arrives P (lone (b.at a (.code cur::.inScope body::k)) cs w) b k cs en a' w'
theorem Claim.wp {c:Code} {Q:Exit→Act→World→Prop} (hc:Claim P (.code c) Q a w):c.wp P Q a w:=by
 cases c with
 | loop c=>
  intro b k cs
  obtain ⟨en,a',w',h1,h2⟩:=hc b k cs
  exact ⟨en,a',w',h1,.of_steps (.one step_loop) h2⟩
 | _=>exact hc
def RegsJ (P:Program):Job→Prop
 | .code c=>Regs P c
 | .within cur body=>Regs P cur∧Regs P body
def JobOK (P:Program) (e:Ev):Prop:=∀ j n t h fl t' h',e.job j n t h=some (fl,t',h')→RegsJ P j→∀ B ι a w,St B ι h w→TRel ι t n a→Claim P j (Post B ι h w n fl t' h') a w
theorem job_code (hj:JobOK P e) {c:Code} (hr:e.job (.code c) n t h=some (fl,t',h')) (hg:Regs P c) (hs:St B ι h w) (ht:TRel ι t n a):c.wp P (Post B ι h w n fl t' h') a w:=(hj _ _ _ _ _ _ _ hr hg B ι a w hs ht).wp
theorem job_sound (hc:CallOK P e) (hj:JobOK P e) (hmix:P.follows .mixedOrders=true) {j:Job} (hr:jobStep P e j n t h=some (fl,t',h')) (hg:RegsJ P j) (hs:St B ι h w) (ht:TRel ι t n a):Claim P j (Post B ι h w n fl t' h') a w:=by
 have here:Post B ι h w n fl t h (exitOf fl) a w:=⟨rfl,ι,.refl hs,ht⟩
 cases j with
 | within cur body=>
  simp only [jobStep] at hr
  intro b k cs
  cases h0:e.job (.code cur) n t h with
  | none=>simp [h0] at hr
  | some r=>
   obtain ⟨fl1,t1,h1⟩:=r
   obtain ⟨en,a1,w1,⟨he,ι1,hm,ht1⟩,harr⟩:=job_code hj h0 hg.1 hs ht b (.inScope body::k) cs
   subst he
   cases fl1 with
   | goto l=>
    simp only [h0] at hr
    cases hf:findLabel body l with
    | some rest=>
     simp only [hf] at hr
     obtain ⟨en,a2,w2,hp,harr2⟩:=hj _ _ _ _ _ _ _ hr ⟨regs_label hg.2 hf,hg.2⟩ B ι1 a1 w1 hm.st ht1 b k cs
     exact ⟨en,a2,w2,hp.trans hs hm,.of_steps (harr (.code rest::.inScope body::k) (by simp [gotoIn,hf])) harr2⟩
    | none=>
     simp only [hf,Option.some.injEq,Prod.mk.injEq] at hr
     obtain ⟨rfl,rfl,rfl⟩:=hr
     exact ⟨.goto l,a1,w1,⟨rfl,ι1,hm,ht1⟩,λ k' hk=>harr k' (by simp [gotoIn,hf,hk])⟩
   | normal=>
    simp only [h0,Option.some.injEq,Prod.mk.injEq] at hr
    obtain ⟨rfl,rfl,rfl⟩:=hr
    exact ⟨.normal,a1,w1,⟨rfl,ι1,hm,ht1⟩,Steps.trans harr (.one step_inScope)⟩
   | exit id=>
    simp only [h0,Option.some.injEq,Prod.mk.injEq] at hr
    obtain ⟨rfl,rfl,rfl⟩:=hr
    exact ⟨.exit id,a1,w1,⟨rfl,ι1,hm,ht1⟩,λ k' hk=>harr k' (by simp [exitTo,hk])⟩
   | ret=>
    simp only [h0,Option.some.injEq,Prod.mk.injEq] at hr
    obtain ⟨rfl,rfl,rfl⟩:=hr
    exact ⟨.ret,a1,w1,⟨rfl,ι1,hm,ht1⟩,harr⟩
 | code c=>
  cases c with
  | skip=>
   simp only [jobStep,Option.some.injEq,Prod.mk.injEq] at hr
   obtain ⟨rfl,rfl,rfl⟩:=hr
   exact wp_skip here
  | label l=>
   simp only [jobStep,Option.some.injEq,Prod.mk.injEq] at hr
   obtain ⟨rfl,rfl,rfl⟩:=hr
   exact wp_label here
  | exit id=>
   simp only [jobStep,Option.some.injEq,Prod.mk.injEq] at hr
   obtain ⟨rfl,rfl,rfl⟩:=hr
   exact wp_exit here
  | goto l=>
   simp only [jobStep,Option.some.injEq,Prod.mk.injEq] at hr
   obtain ⟨rfl,rfl,rfl⟩:=hr
   exact wp_goto here
  | ret=>
   simp only [jobStep,Option.some.injEq,Prod.mk.injEq] at hr
   obtain ⟨rfl,rfl,rfl⟩:=hr
   exact wp_ret here
  | refuse y=>simp [jobStep] at hr
  | rangeFunc f ps x c=>simp [jobStep] at hr
  | region id ops draw=>
   simp only [jobStep,Option.map_eq_some_iff,Prod.mk.injEq] at hr
   obtain ⟨⟨t1,h1⟩,h2,h3⟩:=hr
   simp only at h3
   obtain ⟨rfl,rfl,rfl⟩:=h3
   exact region_ok hc hg hmix hs ht h2 λ ι' a' w' hm ht'=>⟨rfl,ι',hm,ht'⟩
  | seq x y=>
   simp only [jobStep] at hr
   cases h0:e.job (.code x) n t h with
   | none=>simp [h0] at hr
   | some r=>
    obtain ⟨fl1,t1,h1⟩:=r
    have hx:=job_code hj h0 hg.1 hs ht
    refine wp_seq (wp_mono hx λ en a1 w1 ⟨he,ι1,hm,ht1⟩=>?_)
    subst he
    cases fl1 with
    | normal=>
     simp only [h0] at hr
     exact wp_mono (job_code hj hr hg.2 hm.st ht1) λ en a2 w2 hp=>hp.trans hs hm
    | _=>
     simp only [h0,Option.some.injEq,Prod.mk.injEq] at hr
     obtain ⟨rfl,rfl,rfl⟩:=hr
     exact ⟨rfl,ι1,hm,ht1⟩
  | cond c x y=>
   simp only [jobStep] at hr
   have hv:∀ b,opd t c=some (.bool b)→a.eval c=.bool b:=λ b hb=>by
    cases c with
    | tmp d=>
     obtain ⟨u,hu,hr⟩:=ht.rel d _ hb
     simp only [VRel] at hr;subst hr
     simp [Act.eval,Array.getD_eq_getD_getElem?,hu]
    | const v=>
     have:=ofConst_rel (ι:=ι) hb
     exact this
    | global g=>simp [opd] at hb
    | func f=>simp [opd] at hb
   split at hr
   ·rename_i h0
    exact wp_cond_true (hv _ h0) (job_code hj hr hg.1 hs ht)
   ·rename_i h0
    exact wp_cond_false (hv _ h0) (job_code hj hr hg.2 hs ht)
   ·simp at hr
  | block id c=>
   simp only [jobStep] at hr
   cases h0:e.job (.code c) n t h with
   | none=>simp [h0] at hr
   | some r=>
    obtain ⟨fl1,t1,h1⟩:=r
    refine wp_block (wp_mono (job_code hj h0 hg hs ht) λ en a1 w1 ⟨he,ι1,hm,ht1⟩=>?_)
    subst he
    cases fl1 with
    | exit id'=>
     simp only [h0] at hr
     show Exit.inBlock id _ (.exit id') a1 w1
     unfold Exit.inBlock
     simp only
     split at hr
     ·rename_i hid
      simp only [Option.some.injEq,Prod.mk.injEq] at hr
      obtain ⟨rfl,rfl,rfl⟩:=hr
      rw [if_pos hid]
      exact ⟨rfl,ι1,hm,ht1⟩
     ·rename_i hid
      simp only [Option.some.injEq,Prod.mk.injEq] at hr
      obtain ⟨rfl,rfl,rfl⟩:=hr
      rw [if_neg hid]
      exact ⟨rfl,ι1,hm,ht1⟩
    | _=>
     simp only [h0,Option.some.injEq,Prod.mk.injEq] at hr
     obtain ⟨rfl,rfl,rfl⟩:=hr
     exact ⟨rfl,ι1,hm,ht1⟩
  | loop c=>
   simp only [jobStep] at hr
   intro b k cs
   cases h0:e.job (.code c) n t h with
   | none=>simp [h0] at hr
   | some r=>
    obtain ⟨fl1,t1,h1⟩:=r
    obtain ⟨en,a1,w1,⟨he,ι1,hm,ht1⟩,harr⟩:=job_code hj h0 hg hs ht b (.inLoop c::k) cs
    subst he
    cases fl1 with
    | normal=>
     simp only [h0] at hr
     obtain ⟨en,a2,w2,hp,harr2⟩:=hj _ _ _ _ _ _ _ hr hg B ι1 a1 w1 hm.st ht1 b k cs
     exact ⟨en,a2,w2,hp.trans hs hm,.of_steps (Steps.trans harr (.one step_inLoop)) harr2⟩
    | exit id=>
     simp only [h0,Option.some.injEq,Prod.mk.injEq] at hr
     obtain ⟨rfl,rfl,rfl⟩:=hr
     exact ⟨.exit id,a1,w1,⟨rfl,ι1,hm,ht1⟩,λ k' hk=>harr k' (by simp [exitTo,hk])⟩
    | goto l=>
     simp only [h0,Option.some.injEq,Prod.mk.injEq] at hr
     obtain ⟨rfl,rfl,rfl⟩:=hr
     exact ⟨.goto l,a1,w1,⟨rfl,ι1,hm,ht1⟩,λ k' hk=>harr k' (by simp [gotoIn,hk])⟩
    | ret=>
     simp only [h0,Option.some.injEq,Prod.mk.injEq] at hr
     obtain ⟨rfl,rfl,rfl⟩:=hr
     exact ⟨.ret,a1,w1,⟨rfl,ι1,hm,ht1⟩,harr⟩
  | scope c=>
   simp only [jobStep] at hr
   intro b k cs
   obtain ⟨en,a1,w1,hp,harr⟩:=hj _ _ _ _ _ _ _ hr ⟨hg,hg⟩ B ι a w hs ht b k cs
   exact ⟨en,a1,w1,hp,.of_steps (.one step_scope) harr⟩
end
end Go.Sh
end
section
/- The shadow machine: calls; the whole. -/
namespace Go.Sh
section
variable [Held] {P:Program} {e:Ev} {n:Nat} {B:Nat} {ι:Inj} {h h':H} {t t':T} {a:Act} {w:World}
structure Good (P:Program):Prop where
 mixed:P.follows .mixedOrders=true
 funcs : ∀ (f : FuncId) (fn : Func) (c : Code), P.funcs[f]? = some fn → fn.body = some c → Regs P c ∧ fn.name ≠ "runtime.NumGoroutine"
omit [Held] in
theorem argsT_get:∀ (args:List SV) (i k:Nat) (t:T),(argsT args i t).get k=if i≤k∧k < i+args.length then args[k - i]? else t.get k
 | [],i,k,t=>by simp only [argsT,List.length_nil];rw [if_neg (by omega)]
 | v::l,i,k,t=>by
  simp only [argsT]
  rw [argsT_get l (i+1) k]
  simp only [List.length_cons]
  by_cases h1:i+1≤k∧k < i+1+l.length
  ·rw [if_pos h1,if_pos (by omega),show k - i=(k - (i+1))+1 from by omega,List.getElem?_cons_succ]
  ·rw [if_neg h1,Tr.get_set]
   by_cases h2:k=i
   ·subst h2;rw [if_pos rfl,if_pos (by omega)];simp
   ·rw [if_neg h2,if_neg (by omega)]
theorem args_rel {args:List SV} {us:Array Value} (hl:LRel ι args us.toList) (hle:args.length≤n):TRel ι (argsT args 0 .leaf) n { tmps:=us++Array.replicate (n - us.size) undef,defers:=[] }:=by
 have hlen:us.size=args.length:=by have:=hl.length;simpa using this
 refine ⟨by simp;omega,rfl,λ d x hx=>?_⟩
 rw [argsT_get] at hx
 split at hx
 ·rename_i hd
  simp only [Nat.sub_zero] at hx
  obtain ⟨v,hv,hr⟩:=hl.get d hx
  rw [Array.getElem?_toList] at hv
  exact ⟨v,by rw [Array.getElem?_append_left (by omega)];exact hv,hr⟩
 ·simp [Tr.get_leaf] at hx
theorem result_run (hs:Sim B ι h.get w) (ht:TRel ι t n a) {r:ResultVar} {x:SV} (e:resultS P t h r=some x) :
  ∃ v,(match r with | .tmp t=>Pure.pure (a.tmps.getD t undef) | .cell k ty=>do loadVar ty (← asAddr (a.tmps.getD k undef)):Sem Value).run P w=.ok v w∧VRel ι x v:=by
 cases r with
 | tmp d=>
  obtain ⟨v,h1,h2⟩:=ht.rel d x e
  exact ⟨v,by simp [Array.getD_eq_getD_getElem?,h1],h2⟩
 | cell d ty=>
  simp only [resultS] at e
  split at e
  ·rename_i id off hd
   split at e
   ·rename_i cs hc
    obtain ⟨u,h1,b,o,s,hi,hu⟩:=ht.rel d _ hd
    obtain ⟨v,h2,h3⟩:=load_run (P:=P) hs hi hc e
    exact ⟨v,by simp [Array.getD_eq_getD_getElem?,h1,hu,asAddr,h2],h3⟩
   ·simp at e
  ·simp at e
theorem resultsL_run (hs:Sim B ι h.get w) (ht:TRel ι t n a):∀ (l:List ResultVar) (xs:List SV),resultsS P t h l=some xs →
  ∃ vs,(l.mapM λ r=>(match r with | .tmp t=>Pure.pure (a.tmps.getD t undef) | .cell k ty=>do loadVar ty (← asAddr (a.tmps.getD k undef)):Sem Value)).run P w=.ok vs w∧LRel ι xs vs
 | [],xs,e=>by
  simp only [resultsS,Option.some.injEq] at e;subst e
  exact ⟨[],by simp,rfl⟩
 | r::l,xs,e=>by
  simp only [resultsS] at e
  split at e <;> simp only [Option.some.injEq,reduceCtorEq] at e
  rename_i x xs' h1 h2
  subst e
  obtain ⟨v,a1,a2⟩:=result_run hs ht h1
  obtain ⟨vs,b1,b2⟩:=resultsL_run hs ht l xs' h2
  refine ⟨v::vs,?_,.cons a2 b2⟩
  simp only [List.mapM_cons,Sem.run_bind,a1,Result.andThen_ok,b1,Sem.run_pure]
theorem results_ok (hs:Sim B ι h.get w) (ht:TRel ι t n a) {fn:Func} {xs:List SV} (e:resultsS P t h fn.results.toList=some xs):∃ v,(results fn a.tmps).run P w=.ok v w∧VRel ι (oneS xs) v:=by
 obtain ⟨vs,h1,h2⟩:=resultsL_run hs ht _ _ e
 have hrun:(results fn a.tmps).run P w=.ok (if h:vs.toArray.size=1 then vs.toArray[0] else .tuple vs.toArray) w:=by
  unfold results
  rw [Array.mapM_eq_mapM_toList]
  simp only [Sem.run_bind,map_eq_pure_bind]
  erw [h1]
  rfl
 refine ⟨_,hrun,?_⟩
 match xs,vs,h2 with
 | [x],[v],⟨_,_,rfl,hx,_⟩=>exact hx
 | [],[],_=>exact ⟨#[],rfl,rfl⟩
 | x::y::xs,u::v::vs,h2=>exact ⟨_,rfl,h2⟩
def OracleOK (P:Program) (X:FuncId→Option (List SV→H→Option (SV × H))):Prop:=∀ f g,X f=some g→∀ args h v h',g args h=some (v,h')→∀ B ι w (us:Array Value),St B ι h w→LRel ι args us.toList →
 Answers P f us w λ v' w'=>∃ ι',VRel ι' v v'∧Moves B ι h w ι' h' w'
theorem enter_run (hG:Good P) {f:FuncId} {fn:Func} {c:Code} (hf:P.funcs[f]?=some fn) (hb:fn.body=some c) (us:Array Value):(callFunc f us).run P w=.ok (.enter f us) w:=by
 have hne:=(hG.funcs f fn c hf hb).2
 unfold callFunc
 simp [hf,hb,hne]
theorem call_sound {X:FuncId→Option (List SV→H→Option (SV × H))} (hG:Good P) (hX:OracleOK P X) (hj:JobOK P e) {f:FuncId} {args:List SV} {v:SV} (hr:callStep P X e f args h=some (v,h')) {us:Array Value} (hs:St B ι h w) (hl:LRel ι args us.toList) :
  Answers P f us w λ v' w'=>∃ ι',VRel ι' v v'∧Moves B ι h w ι' h' w':=by
 unfold callStep at hr
 split at hr
 ·rename_i g hg
  exact hX f g hg args h v h' hr B ι w us hs hl
 ·split at hr
  ·rename_i fn hf
   split at hr
   ·rename_i c hb
    split at hr
    ·rename_i hle
     have hlen:us.size=args.length:=by have:=hl.length;simpa using this
     refine .inl ⟨enter_run hG hf hb us,calls_of_wp hf hb ?_⟩
     have fin:∀ (fl:Flow) (t1:T) (h1:H),e.job (.code c) fn.ntmps (argsT args 0 .leaf) h=some (fl,t1,h1)→(fl=.normal∨fl=.ret)→((resultsS P t1 h1 fn.results.toList).map λ vs=>(oneS vs,h1))=some (v,h') →
       c.wp P (bodyPost P fn λ en w'=>∃ v',en=.returned v'∧∃ ι',VRel ι' v v'∧Moves B ι h w ι' h' w') { tmps:=us++Array.replicate (fn.ntmps - us.size) undef,defers:=[] } w:=λ fl t1 h1 h0 hfl hres=>by
      simp only [Option.map_eq_some_iff,Prod.mk.injEq] at hres
      obtain ⟨xs,hx,rfl,rfl⟩:=hres
      refine wp_mono (job_code hj h0 (hG.funcs f fn c hf hb).1 hs (args_rel hl hle)) λ en a1 w1 ⟨he,ι1,hm,ht1⟩=>?_
      obtain ⟨v',r1,r2⟩:=results_ok (P:=P) hm.st.sim ht1 hx
      subst he
      rcases hfl with rfl | rfl
      ·exact ⟨ht1.defers,v',r1,v',rfl,ι1,r2,hm⟩
      ·exact ⟨ht1.defers,v',r1,v',rfl,ι1,r2,hm⟩
     split at hr
     ·rename_i t1 h1 h0;exact fin _ _ _ h0 (.inl rfl) hr
     ·rename_i t1 h1 h0;exact fin _ _ _ h0 (.inr rfl) hr
     ·simp at hr
    ·simp at hr
   ·simp at hr
  ·simp at hr
theorem ev_ok {X:FuncId→Option (List SV→H→Option (SV × H))} (hG:Good P) (hX:OracleOK P X):∀ k,JobOK P (ev P X k)∧CallOK P (ev P X k)
 | 0=>⟨λ _ _ _ _ _ _ _ h=>by simp [ev] at h,λ _ _ _ _ _ h=>by simp [ev] at h⟩
 | k+1=>by
  obtain ⟨hj,hc⟩:=ev_ok hG hX k
  exact ⟨λ j n t h fl t' h' hr hg B ι a w hs ht=>job_sound hc hj hG.mixed hr hg hs ht,λ f args h v h' hr B ι w us hs hl=>call_sound hG hX hj hr hs hl⟩
end
end Go.Sh
end
section
/- The shadow machine: what the program's check says of its regions. -/
namespace Go.Sh
section
variable {P:Program} {α β:Type}
theorem ex_bind {x:Except String α} {k:α→Except String β} {b:β} (h:(x >>= k)=.ok b):∃ a,x=.ok a∧k a=.ok b:=by
 cases x with
 | error e=>simp [bind,Except.bind] at h
 | ok a=>exact ⟨a,rfl,h⟩
theorem ex_forM {f:α→Except String PUnit}:∀ {l:List α},l.forM f=.ok ()→∀ x ∈ l,f x=.ok ()
 | [],_,x,hx=>by simp at hx
 | y::l,h,x,hx=>by
  change (f y >>= λ _=>l.forM f)=_ at h
  obtain ⟨_,h1,h2⟩:=ex_bind h
  rcases List.mem_cons.1 hx with rfl | hx
  ·exact h1
  ·exact ex_forM h2 x hx
theorem require_ok {c:Bool} {s:String} (h:CheckCode.require c s=.ok ()):c=true:=by
 unfold CheckCode.require at h
 cases c <;> simp at h ⊢
theorem regs_of_code {f:Func}:∀ (c:Code) (bl lb:List Nat),CheckCode.code P f bl lb c=.ok ()→Regs P c
 | .skip,_,_,_=>trivial
 | .ret,_,_,_=>trivial
 | .label _,_,_,_=>trivial
 | .refuse _,_,_,_=>trivial
 | .exit _,_,_,_=>trivial
 | .goto _,_,_,_=>trivial
 | .rangeFunc ..,_,_,_=>trivial
 | .region id ops draw,bl,lb,h=>by
  simp only [CheckCode.code,CheckCode.region] at h
  obtain ⟨_,_,h⟩:=ex_bind h
  obtain ⟨_,_,h⟩:=ex_bind h
  exact require_ok h
 | .seq a b,bl,lb,h=>by
  simp only [CheckCode.code] at h
  obtain ⟨_,h1,h2⟩:=ex_bind h
  exact ⟨regs_of_code a bl lb h1,regs_of_code b bl lb h2⟩
 | .cond c a b,bl,lb,h=>by
  simp only [CheckCode.code] at h
  obtain ⟨_,_,h⟩:=ex_bind h
  obtain ⟨_,h1,h2⟩:=ex_bind h
  exact ⟨regs_of_code a bl lb h1,regs_of_code b bl lb h2⟩
 | .block id c,bl,lb,h=>by
  simp only [CheckCode.code] at h
  exact regs_of_code c _ _ h
 | .loop c,bl,lb,h=>by
  simp only [CheckCode.code] at h
  exact regs_of_code c _ _ h
 | .scope c,bl,lb,h=>by
  simp only [CheckCode.code] at h
  exact regs_of_code c _ _ h
theorem regs_of_func {fn:Func} {c:Code} (hb:fn.body=some c) (h:CheckCode.func P fn=.ok ()):Regs P c:=by
 unfold CheckCode.func at h
 obtain ⟨_,_,h⟩:=ex_bind h
 obtain ⟨_,_,h⟩:=ex_bind h
 obtain ⟨_,_,h⟩:=ex_bind h
 simp only [hb] at h
 obtain ⟨_,_,h⟩:=ex_bind h
 obtain ⟨_,h,_⟩:=ex_bind h
 exact regs_of_code c _ _ h
theorem good_of_check (hc : P.check = .ok ()) (hm : P.follows .mixedOrders = true) (hn : P.funcs.toList.all (fun fn => fn.name != "runtime.NumGoroutine") = true) : Good P := by
 refine ⟨hm,λ f fn c hf hb=>⟨?_,?_⟩⟩
 ·unfold Program.check at hc
  obtain ⟨_,h,_⟩:=ex_bind hc
  have hfs:f < P.funcs.size:=(Array.getElem?_eq_some_iff.1 hf).1
  have h1:=ex_forM h f (List.mem_range.2 hfs)
  unfold CheckCode.funcAt at h1
  rw [hf] at h1
  simp only at h1
  cases h2:CheckCode.func P fn with
  | error e=>rw [h2] at h1;simp [Except.mapError] at h1
  | ok u=>exact regs_of_func hb h2
 ·have:=List.all_eq_true.1 hn fn (by
   rw [List.mem_iff_getElem?]
   exact ⟨f,by rw [Array.getElem?_toList];exact hf⟩)
  simpa using this
end
end Go.Sh
end
section
/- The shadow machine: a call of which all is known. -/
namespace Go.Sh
section
variable [Held] {P:Program}
def none0:Inj:=λ _=>none
theorem st_empty (w:World) (hw:HeldAt w.heap.size w):St w.heap.size none0 H.empty w:=
 ⟨⟨λ _ _ _ _ h=>by simp [none0] at h,λ _ _ _ _ _ h=>by simp [none0] at h,λ _ _ _ _ _ _ _ _ _ _ _ h=>by simp [none0] at h⟩,λ _ _ h=>by simp [none0] at h,Nat.le_refl _,hw⟩
theorem closed_call {X:FuncId→Option (List SV→H→Option (SV × H))} (hG:Good P) (hX:OracleOK P X) {k:Nat} {f:FuncId} {args:List SV} {v:SV} {h':H} (hr:(ev P X k).call f args H.empty=some (v,h')) {us:Array Value} (hl:LRel none0 args us.toList) {fn:Func} {c:Code} (hf:P.funcs[f]?=some fn) (hb:fn.body=some c) (w:World) (hw:HeldAt w.heap.size w) :
  Calls P f us w λ en w'=>∃ v' ι',en=.returned v'∧VRel ι' v v'∧RowKit.Below w.heap.size w w':=by
 rcases (ev_ok hG hX k).2 f args H.empty v h' hr w.heap.size none0 w us (st_empty w hw) hl with ⟨_,h⟩ | ⟨v',w',h,_⟩
 ·refine Calls.mono h λ en w' ⟨v',h1,ι',h2,h3⟩=>?_
  exact ⟨v',ι',h1,h2,⟨h3.ext.os,h3.ext.tape,h3.ext.output,h3.ext.size,λ b hb=>h3.ext.frame b hb λ id x ob h=>by simp [none0] at h⟩⟩
 ·rw [enter_run hG hf hb us] at h
  cases h
end
end Go.Sh
end
