/- General laws of the proof: a shadow machine of the form, its soundness, and a compiled form of it. -/
import Derived.Test.YtpjpiigachahkaaGreatDoorSh6
set_option linter.unusedVariables false
set_option linter.unusedSimpArgs false
set_option linter.unusedSectionVars false
section
/- The shadow machine without fuel: whatever it answers with enough of it. -/
namespace Go.Sh
section
variable {P:Program} {X:FuncId→Option (List SV→H→Option (SV × H))}
structure Ev.Le (e e':Ev):Prop where
  job:∀ j n t h r,e.job j n t h=some r→e'.job j n t h=some r
  call:∀ f args h r,e.call f args h=some r→e'.call f args h=some r
theorem Ev.Le.refl (e:Ev):e.Le e:=⟨λ _ _ _ _ _ h=>h,λ _ _ _ _ h=>h⟩
theorem Ev.Le.trans {a b c:Ev} (x:a.Le b) (y:b.Le c):a.Le c:=⟨λ j n t h r q=>y.job j n t h r (x.job j n t h r q),λ f args h r q=>y.call f args h r (x.call f args h r q)⟩
theorem runM_mono {e e':Ev} (le:e.Le e') {h:H} {m:Option MR} {r:SV × H} (q:runM e h m=some r):runM e' h m=some r:=by
  unfold runM at q ⊢
  split at q
  · exact q
  · exact le.call _ _ _ _ q
  · simp at q
theorem stepV_some {n:Nat} {dst:Option Tmp} {t:T} {x:Option (SV × H)} {r:T × H} (q:stepV n dst t x=some r):∃ y,x=some y:=by
  cases x with
  | none=>simp [stepV] at q
  | some y=>exact ⟨y,rfl⟩
theorem lower_mono {m low:Nat} {x y:Option (SV × H)} (le:∀ r,x=some r→y=some r) {r:SV × H} (q:lower m low x=some r):lower m low y=some r:=by
  cases x with
  | none=>simp [lower] at q
  | some z=>rw [le z rfl];exact q
theorem SameP.still {t:T} {h:H} {op:Op} (q:SameP P t h op) (e e':Ev) (g:H):runM e g (opM P g t op)=runM e' g (opM P g t op):=by
  obtain ⟨ty,a,x,id,off,v,vs,cs,i,rfl,_⟩:=q
  show runM e g (mStore P g ty (opd t a) (opd t x))=runM e' g (mStore P g ty (opd t a) (opd t x))
  have mv:∀ (z:Option H) {r:MR},mVal z=some r→∃ v h,r=.val v h:=λ z r hz=>by
    cases z with
    | none=>cases hz
    | some y=>exact ⟨_,_,(Option.some.inj hz).symm⟩
  have:∀ r,mStore P g ty (opd t a) (opd t x)=some r→∃ v h,r=.val v h:=λ r hr=>by
    unfold mStore at hr
    split at hr
    · split at hr
      · split at hr
        · exact mv _ hr
        · cases hr
      · cases hr
    · cases hr
  cases hm:mStore P g ty (opd t a) (opd t x) with
  | none=>rfl
  | some r=>obtain ⟨v,h,rfl⟩:=this r hm;rfl
theorem runS_mono {e e':Ev} (le:e.Le e') {m:Nat} {t:T} {h:H} {op:Op} {r:SV × H} (q:runS P e m t h op=some r):runS P e' m t h op=some r:=by
  unfold runS at q ⊢
  split at q
  · rename_i r' hr
    rw [lower_mono (λ r=>runM_mono le) hr];exact q
  · rename_i hr
    split at q
    · rename_i hp
      rw [← hp.still e e' _,hr]
      simp only [if_pos hp]
      exact q
    · cases q
theorem opStep_mono {e e':Ev} (le:e.Le e') {n:Nat} {s:Option Nat} {o:Oper} {t:T} {h:H} {r:T × H} (q:opStep P e n s o t h=some r):opStep P e' n s o t h=some r:=by
  unfold opStep at q ⊢
  split at q
  · split at q
    · exact q
    · obtain ⟨y,hy⟩:=stepV_some q
      rw [runM_mono le hy,← hy];exact q
  · split at q
    · exact q
    · obtain ⟨y,hy⟩:=stepV_some q
      rw [runS_mono le hy,← hy];exact q
theorem wantRun_mono {w:Option Bool} {a b c:Option (T × H)} {r:T × H} (le:∀ r,a=some r→b=some r) (q:wantRun w a c=some r):wantRun w b c=some r:=by
  cases w with
  | none=>simp [wantRun] at q
  | some x=>cases x with
    | true=>exact le _ q
    | false=>exact q
theorem andThen_some {x:Option (T × H)} {k:T→H→Option (T × H)} {r:T × H} (q:andThen x k=some r):∃ t h,x=some (t,h)∧k t h=some r:=by
  cases x with
  | none=>simp [andThen] at q
  | some y=>exact ⟨y.1,y.2,rfl,q⟩
open Classical in
noncomputable def lateRun (p:Prop) (x:Option (T × H)):Option (T × H):=if p then x else none
theorem lateRun_some {p:Prop} {x:Option (T × H)} {r:T × H} (h:lateRun p x=some r):p∧x=some r:=by
  unfold lateRun at h
  split at h
  · exact ⟨by assumption,h⟩
  · cases h
theorem lateRun_of {p:Prop} {x:Option (T × H)} (h:p):lateRun p x=x:=if_pos h
theorem runOps_yes {e:Ev} {n m:Nat} {ops l:List Oper} {o:Oper} {plan:List PC} {A:Past} {t:T} {h:H} (hs:SoftP P ops (headC plan) A o t h) :
    runOps P e n m ops (o::l) plan A t h=andThen (wantRun (wantedS ops t o) (opStep P e n (strictC m (headC plan)) o t h) (skipT n o.dst t h)) λ t' h'=>lateRun (LateP (headC plan) A h') (runOps P e n m ops l plan.tail (A.next (headC plan) h h' (lookOf P ops (headC plan) plan.tail o t h)) t' h'):=by
  rw [runOps,if_pos hs]
  rfl
theorem runOps_soft {e:Ev} {n m:Nat} {ops l:List Oper} {o:Oper} {plan:List PC} {A:Past} {t:T} {h:H} {r:T × H} (q:runOps P e n m ops (o::l) plan A t h=some r):SoftP P ops (headC plan) A o t h:=by
  unfold runOps at q
  split at q
  · assumption
  · cases q
theorem runOps_n {e:Ev} {n m:Nat} {ops:List Oper} {plan:List PC} {A:Past} {t:T} {h:H}:runOps P e n m ops [] plan A t h=some (t,h):=rfl
theorem runOps_mono {e e':Ev} (le:e.Le e') {n m:Nat} {ops:List Oper}:∀ {l:List Oper} {plan:List PC} {A:Past} {t:T} {h:H} {r:T × H},runOps P e n m ops l plan A t h=some r→runOps P e' n m ops l plan A t h=some r
  | [],_,_,_,_,_,q=>q
  | o::l,plan,A,t,h,r,q=>by
    have hs:=runOps_soft q
    rw [runOps_yes hs] at q ⊢
    obtain ⟨t1,h1,a,b⟩:=andThen_some q
    obtain ⟨b0,b⟩:=lateRun_some b
    rw [wantRun_mono (λ r=>opStep_mono le) a]
    show lateRun _ _=_
    rw [lateRun_of b0]
    exact runOps_mono le b
theorem regionStep_mono {e e':Ev} (le:e.Le e') {n:Nat} {a:Array Oper} {d:Bool} {t:T} {h:H} {r:T × H} (q:regionStep P e n a d t h=some r):regionStep P e' n a d t h=some r:=by
  unfold regionStep at q ⊢
  split at q
  · rename_i hd
    rw [if_pos hd]
    split at q
    · exact runOps_mono le q
    · simp at q
  · rename_i hd
    rw [if_neg hd]
    exact runOps_mono le q
theorem jobStep_mono {e e':Ev} (le:e.Le e') {j:Job} {n:Nat} {t:T} {h:H} {r:Flow × T × H} (q:jobStep P e j n t h=some r):jobStep P e' j n t h=some r:=by
  have two:∀ {j:Job} {k1 k2:Flow × T × H→Option (Flow × T × H)},(e.job j n t h).bind k1=some r→(∀ x y,k1 x=some y→k2 x=some y)→(e'.job j n t h).bind k2=some r:=by
    intro j k1 k2 q hk
    cases hx:e.job j n t h with
    | none=>rw [hx] at q;simp at q
    | some x=>rw [hx] at q;rw [le.job _ _ _ _ _ hx];exact hk _ _ q
  cases j with
  | within cur body=>
    simp only [jobStep] at q ⊢
    cases hx:e.job (.code cur) n t h with
    | none=>rw [hx] at q;simp at q
    | some x=>
      rw [hx] at q;rw [le.job _ _ _ _ _ hx]
      obtain ⟨fl,t1,h1⟩:=x
      cases fl <;> simp only at q ⊢ <;> try exact q
      split at q
      · exact le.job _ _ _ _ _ q
      · exact q
  | code c=>
    cases c <;> simp only [jobStep] at q ⊢ <;> try exact q
    case seq a b=>
      cases hx:e.job (.code a) n t h with
      | none=>rw [hx] at q;simp at q
      | some x=>
        rw [hx] at q;rw [le.job _ _ _ _ _ hx]
        obtain ⟨fl,t1,h1⟩:=x
        cases fl <;> simp only at q ⊢ <;> first | exact q | exact le.job _ _ _ _ _ q
    case region=>
      simp only [Option.map_eq_some_iff] at q ⊢
      obtain ⟨a,b,c⟩:=q
      exact ⟨a,regionStep_mono le b,c⟩
    case cond=>
      split at q
      · exact le.job _ _ _ _ _ q
      · exact le.job _ _ _ _ _ q
      · simp at q
    case block c=>
      cases hx:e.job (.code c) n t h with
      | none=>rw [hx] at q;simp at q
      | some x=>
        rw [hx] at q;rw [le.job _ _ _ _ _ hx]
        exact q
    case loop c=>
      cases hx:e.job (.code c) n t h with
      | none=>rw [hx] at q;simp at q
      | some x=>
        rw [hx] at q;rw [le.job _ _ _ _ _ hx]
        obtain ⟨fl,t1,h1⟩:=x
        cases fl <;> simp only at q ⊢ <;> first | exact q | exact le.job _ _ _ _ _ q
    case scope c=>exact le.job _ _ _ _ _ q
theorem callStep_mono {e e':Ev} (le:e.Le e') {f:FuncId} {args:List SV} {h:H} {r:SV × H} (q:callStep P X e f args h=some r):callStep P X e' f args h=some r:=by
  unfold callStep at q ⊢
  split at q
  · exact q
  · split at q
    · split at q
      · rename_i c hb
        split at q
        · rename_i hle
          simp only [hb,if_pos hle]
          split at q
          · rename_i hx;rw [le.job _ _ _ _ _ hx];exact q
          · rename_i hx;rw [le.job _ _ _ _ _ hx];exact q
          · simp at q
        · simp at q
      · simp at q
    · simp at q
theorem ev_le:∀ k,(ev P X k).Le (ev P X (k+1))
  | 0=>⟨λ _ _ _ _ _ h=>by simp [ev] at h,λ _ _ _ _ h=>by simp [ev] at h⟩
  | k+1=>⟨λ _ _ _ _ _ h=>jobStep_mono (ev_le k) h,λ _ _ _ _ h=>callStep_mono (ev_le k) h⟩
theorem ev_le' {k:Nat}:∀ {k':Nat},k≤k'→(ev P X k).Le (ev P X k')
  | 0,h=>by
               have:k=0:=by omega
               subst this;exact .refl _
  | k'+1,h=>by
    by_cases e:k=k'+1
    · subst e;exact .refl _
    · exact (ev_le' (k':=k') (by omega)).trans (ev_le k')
open Classical in
noncomputable def lim (P:Program) (X:FuncId→Option (List SV→H→Option (SV × H))):Ev:=
  ⟨λ j n t h=>if q:∃ r,∃ k,(ev P X k).job j n t h=some r then some (Classical.choose q) else none,
   λ f args h=>if q:∃ r,∃ k,(ev P X k).call f args h=some r then some (Classical.choose q) else none⟩
open Classical in
theorem lim_job {j:Job} {n:Nat} {t:T} {h:H} {r:Flow × T × H}:(lim P X).job j n t h=some r ↔ ∃ k,(ev P X k).job j n t h=some r:=by
  show (if q:∃ r,∃ k,(ev P X k).job j n t h=some r then some (Classical.choose q) else none)=some r ↔ _
  constructor
  · intro e
    split at e
    · rename_i q
      cases e
      exact Classical.choose_spec q
    · simp at e
  · rintro ⟨k,hk⟩
    have q:∃ r,∃ k,(ev P X k).job j n t h=some r:=⟨r,k,hk⟩
    rw [dif_pos q]
    obtain ⟨k',hk'⟩:=Classical.choose_spec q
    rcases Nat.le_total k k' with l | l
    · rw [(ev_le' l).job _ _ _ _ _ hk] at hk';exact hk'.symm
    · rw [(ev_le' l).job _ _ _ _ _ hk'] at hk;exact hk
open Classical in
theorem lim_call {f:FuncId} {args:List SV} {h:H} {r:SV × H}:(lim P X).call f args h=some r ↔ ∃ k,(ev P X k).call f args h=some r:=by
  show (if q:∃ r,∃ k,(ev P X k).call f args h=some r then some (Classical.choose q) else none)=some r ↔ _
  constructor
  · intro e
    split at e
    · rename_i q
      cases e
      exact Classical.choose_spec q
    · simp at e
  · rintro ⟨k,hk⟩
    have q:∃ r,∃ k,(ev P X k).call f args h=some r:=⟨r,k,hk⟩
    rw [dif_pos q]
    obtain ⟨k',hk'⟩:=Classical.choose_spec q
    rcases Nat.le_total k k' with l | l
    · rw [(ev_le' l).call _ _ _ _ hk] at hk';exact hk'.symm
    · rw [(ev_le' l).call _ _ _ _ hk'] at hk;exact hk
theorem ev_lim (k:Nat):(ev P X k).Le (lim P X):=⟨λ _ _ _ _ _ q=>lim_job.2 ⟨k,q⟩,λ _ _ _ _ q=>lim_call.2 ⟨k,q⟩⟩
theorem runM_cont {h:H} {m:Option MR} {r:SV × H} (q:runM (lim P X) h m=some r):∃ k,runM (ev P X k) h m=some r:=by
  unfold runM at q ⊢
  split at q
  · exact ⟨0,q⟩
  · exact lim_call.1 q
  · simp at q
theorem opStep_cont {n:Nat} {s:Option Nat} {o:Oper} {t:T} {h:H} {r:T × H} (q:opStep P (lim P X) n s o t h=some r):∃ k,opStep P (ev P X k) n s o t h=some r:=by
  unfold opStep at q ⊢
  split at q
  · split at q
    · exact ⟨0,q⟩
    · obtain ⟨y,hy⟩:=stepV_some q
      obtain ⟨k,hk⟩:=runM_cont hy
      exact ⟨k,by rw [hk,← hy];exact q⟩
  · rename_i m
    split at q
    · exact ⟨0,q⟩
    · cases hy:runM (lim P X) ⟨h.next,m,h.tr⟩ (opM P ⟨h.next,m,h.tr⟩ t o.op) with
      | none=>
        unfold runS at q
        rw [hy] at q
        simp only [lower] at q
        by_cases hp:SameP P t h o.op
        · refine ⟨0,?_⟩
          rw [if_pos hp] at q
          unfold runS
          rw [← hp.still (lim P X) (ev P X 0) _,hy]
          simp only [lower,if_pos hp]
          exact q
        · rw [if_neg hp] at q;simp [stepV] at q
      | some y=>
        obtain ⟨k,hk⟩:=runM_cont hy
        refine ⟨k,?_⟩
        unfold runS at q ⊢
        rw [hk,← hy];exact q
theorem wantRun_cont {n:Nat} {s:Option Nat} {o:Oper} {t:T} {h:H} {w:Option Bool} {c:Option (T × H)} {r:T × H} (q:wantRun w (opStep P (lim P X) n s o t h) c=some r):∃ k,wantRun w (opStep P (ev P X k) n s o t h) c=some r:=by
  cases w with
  | none=>simp [wantRun] at q
  | some x=>cases x with
    | true=>exact opStep_cont q
    | false=>exact ⟨0,q⟩
theorem runOps_cont {n m:Nat} {ops:List Oper}:∀ {l:List Oper} {plan:List PC} {A:Past} {t:T} {h:H} {r:T × H},runOps P (lim P X) n m ops l plan A t h=some r→∃ k,runOps P (ev P X k) n m ops l plan A t h=some r
  | [],_,_,_,_,_,q=>⟨0,q⟩
  | o::l,plan,A,t,h,r,q=>by
    have hs:=runOps_soft q
    rw [runOps_yes hs] at q
    obtain ⟨t1,h1,a,b⟩:=andThen_some q
    obtain ⟨b0,b⟩:=lateRun_some b
    obtain ⟨k1,hk1⟩:=wantRun_cont a
    obtain ⟨k2,hk2⟩:=runOps_cont b
    refine ⟨max k1 k2,?_⟩
    rw [runOps_yes hs,wantRun_mono (λ r=>opStep_mono (ev_le' (Nat.le_max_left k1 k2))) hk1]
    show lateRun _ _=_
    rw [lateRun_of b0]
    exact runOps_mono (ev_le' (Nat.le_max_right k1 k2)) hk2
theorem regionStep_cont {n:Nat} {a:Array Oper} {d:Bool} {t:T} {h:H} {r:T × H} (q:regionStep P (lim P X) n a d t h=some r):∃ k,regionStep P (ev P X k) n a d t h=some r:=by
  unfold regionStep at q ⊢
  split at q
  · rename_i hd
    simp only [if_pos hd]
    split at q
    · rename_i pl hp;first | exact runOps_cont q | (rw [hp];exact runOps_cont q) | (obtain ⟨k,hk⟩:=runOps_cont q;exact ⟨k,by rw [hp];exact hk⟩)
    · simp at q
  · rename_i hd
    simp only [if_neg hd]
    exact runOps_cont q
theorem seq_cont {j j':Job} {n:Nat} {t t1:T} {h h1:H} {fl:Flow} {r:Flow × T × H} (a:(lim P X).job j n t h=some (fl,t1,h1)) (b:(lim P X).job j' n t1 h1=some r) :
    ∃ k,(ev P X k).job j n t h=some (fl,t1,h1)∧(ev P X k).job j' n t1 h1=some r:=by
  obtain ⟨k1,h1⟩:=lim_job.1 a
  obtain ⟨k2,h2⟩:=lim_job.1 b
  exact ⟨max k1 k2,(ev_le' (Nat.le_max_left _ _)).job _ _ _ _ _ h1,(ev_le' (Nat.le_max_right _ _)).job _ _ _ _ _ h2⟩
theorem jobStep_cont {j:Job} {n:Nat} {t:T} {h:H} {r:Flow × T × H} (q:jobStep P (lim P X) j n t h=some r):∃ k,jobStep P (ev P X k) j n t h=some r:=by
  have one:∀ j',(lim P X).job j' n t h=some r→∃ k,(ev P X k).job j' n t h=some r:=λ j'=>lim_job.1
  cases j with
  | within cur body=>
    simp only [jobStep] at q ⊢
    cases hx:(lim P X).job (.code cur) n t h with
    | none=>rw [hx] at q;simp at q
    | some x=>
      rw [hx] at q
      obtain ⟨fl,t1,h1⟩:=x
      cases fl <;> simp only at q
      case goto l=>
        split at q
        · rename_i rest hr
          obtain ⟨k,a,b⟩:=seq_cont hx q
          exact ⟨k,by rw [a];simp only [hr];exact b⟩
        · rename_i hr
          obtain ⟨k,a⟩:=lim_job.1 hx
          exact ⟨k,by rw [a];simp only [hr];exact q⟩
      all_goals
        obtain ⟨k,a⟩:=lim_job.1 hx
        exact ⟨k,by rw [a];exact q⟩
  | code c=>
    cases c <;> simp only [jobStep] at q ⊢ <;> try exact ⟨0,q⟩
    case seq a b=>
      cases hx:(lim P X).job (.code a) n t h with
      | none=>rw [hx] at q;simp at q
      | some x=>
        rw [hx] at q
        obtain ⟨fl,t1,h1⟩:=x
        cases fl <;> simp only at q
        case normal=>
          obtain ⟨k,a,b⟩:=seq_cont hx q
          exact ⟨k,by rw [a];exact b⟩
        all_goals
          obtain ⟨k,a⟩:=lim_job.1 hx
          exact ⟨k,by rw [a];exact q⟩
    case region=>
      simp only [Option.map_eq_some_iff] at q ⊢
      obtain ⟨a,b,c⟩:=q
      obtain ⟨k,b⟩:=regionStep_cont b
      exact ⟨k,a,b,c⟩
    case cond=>
      split at q
      · exact one _ q
      · exact one _ q
      · simp at q
    case block c=>
      cases hx:(lim P X).job (.code c) n t h with
      | none=>rw [hx] at q;simp at q
      | some x=>
        rw [hx] at q
        obtain ⟨k,a⟩:=lim_job.1 hx
        exact ⟨k,by rw [a];exact q⟩
    case loop c=>
      cases hx:(lim P X).job (.code c) n t h with
      | none=>rw [hx] at q;simp at q
      | some x=>
        rw [hx] at q
        obtain ⟨fl,t1,h1⟩:=x
        cases fl <;> simp only at q
        case normal=>
          obtain ⟨k,a,b⟩:=seq_cont hx q
          exact ⟨k,by rw [a];exact b⟩
        all_goals
          obtain ⟨k,a⟩:=lim_job.1 hx
          exact ⟨k,by rw [a];exact q⟩
    case scope c=>exact one _ q
theorem callStep_cont {f:FuncId} {args:List SV} {h:H} {r:SV × H} (q:callStep P X (lim P X) f args h=some r):∃ k,callStep P X (ev P X k) f args h=some r:=by
  unfold callStep at q ⊢
  split at q
  · exact ⟨0,q⟩
  · split at q
    · split at q
      · rename_i c hb
        split at q
        · rename_i hle
          simp only [hb,if_pos hle]
          split at q
          · rename_i hx;obtain ⟨k,a⟩:=lim_job.1 hx;exact ⟨k,by rw [a];exact q⟩
          · rename_i hx;obtain ⟨k,a⟩:=lim_job.1 hx;exact ⟨k,by rw [a];exact q⟩
          · simp at q
        · simp at q
      · simp at q
    · simp at q
theorem opt_ext {α:Type} {a b:Option α} (x:∀ r,a=some r→b=some r) (y:∀ r,b=some r→a=some r):a=b:=by
  cases a with
  | none=>cases b with
    | none=>rfl
    | some r=>exact y r rfl
  | some r=>exact (x r rfl).symm
theorem job_eq (j:Job) (n:Nat) (t:T) (h:H):(lim P X).job j n t h=jobStep P (lim P X) j n t h:=by
  refine opt_ext (λ r q=>?_) λ r q=>?_
  · obtain ⟨k,hk⟩:=lim_job.1 q
    cases k with
    | zero=>simp [ev] at hk
    | succ k=>exact jobStep_mono (ev_lim k) hk
  · obtain ⟨k,hk⟩:=jobStep_cont q
    exact lim_job.2 ⟨k+1,hk⟩
theorem call_eq (f:FuncId) (args:List SV) (h:H):(lim P X).call f args h=callStep P X (lim P X) f args h:=by
  refine opt_ext (λ r q=>?_) λ r q=>?_
  · obtain ⟨k,hk⟩:=lim_call.1 q
    cases k with
    | zero=>simp [ev] at hk
    | succ k=>exact callStep_mono (ev_lim k) hk
  · obtain ⟨k,hk⟩:=callStep_cont q
    exact lim_call.2 ⟨k+1,hk⟩
end
section
variable [Held] {P:Program} {X:FuncId→Option (List SV→H→Option (SV × H))}
theorem lim_ok (hG:Good P) (hX:OracleOK P X):CallOK P (lim P X):=λ f args h v h' q=>by
  obtain ⟨k,hk⟩:=lim_call.1 q
  exact (ev_ok hG hX k).2 f args h v h' hk
theorem oracle_more (hG:Good P) (hX:OracleOK P X) {f:FuncId} {g:List SV→H→Option (SV × H)} (hg:∀ args h v h',g args h=some (v,h')→(lim P X).call f args h=some (v,h')) :
    OracleOK P (λ k=>if k=f then some g else X k):=λ k g' e=>by
  dsimp only at e
  split at e
  · rename_i hk
    cases e
    subst hk
    intro args h v h' q B ι w us hs hl
    exact lim_ok hG hX _ _ _ _ _ (hg _ _ _ _ q) B ι w us hs hl
  · exact hX k g' e
end
end Go.Sh
end
