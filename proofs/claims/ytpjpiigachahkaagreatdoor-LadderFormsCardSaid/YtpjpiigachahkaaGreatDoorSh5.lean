/- General laws of the proof: a shadow machine of the form, its soundness, and a compiled form of it. -/
import Derived.Test.YtpjpiigachahkaaGreatDoorSh4
import Derived.Laws.AppendOwn
import Derived.Orders
set_option linter.unusedVariables false
set_option linter.unusedSimpArgs false
set_option linter.unusedSectionVars false
section
/- The shadow machine: 'copy' and 'append'. -/
namespace Go.Sh
section
variable [Held] {P:Program} {w:World} {ι:Inj} {B:Nat} {g g':Nat→Option SObj} {h h':H} {t:T} {ρ:Operand→Value}
theorem Sim.heap (hs:Sim B ι g w) {w':World} (e:w'.heap=w.heap):Sim B ι g w':=by
  refine ⟨λ id b o s hi=>?_,hs.par,hs.sep⟩
  obtain ⟨ob,h1,h2,h3,h4⟩:=hs.obj _ _ _ _ hi
  exact ⟨ob,h1,h2.mono (Inj.le_refl _) (by rw [e]),by rw [e];exact h3,h4⟩
theorem bytes_rel:∀ (s:List UInt8),LRel ι (s.map λ c=>SV.int .u8 (c.toNat:Int)) (s.map λ c=>Value.int .u8 (c.toNat:Int))
  | []=>rfl
  | _::s=>.cons rfl (bytes_rel s)
theorem bytes_all:∀ (s:List UInt8),(s.map λ c=>SV.int .u8 (c.toNat:Int)).all SV.isCell=true
  | []=>rfl
  | _::s=>by simp only [List.map_cons,List.all_cons,bytes_all s];rfl
theorem first_run {x:SV} {u:Value} {size n k:Nat} {new:List SV} (hs:Sim B ι g w) (hx:VRel ι x u) (hn:srcLen x=some n) (hk:k≤n) (hc:srcCells g size k x=some new) :
    ∃ us:Array Value,(∀ w':World,w'.heap=w.heap→(Builtin.firstCells size k u).run P w'=.ok us w')∧LRel ι new us.toList∧new.all SV.isCell=true∧(∀ w':World,(Builtin.lenOf u).run P w'=.ok n w')∧new.length=k * size:=by
  cases x <;> simp only [srcLen,Option.some.injEq,reduceCtorEq] at hn
  case str s=>
    subst hn
    simp only [VRel] at hx;subst hx
    simp only [srcCells] at hc
    split at hc <;> simp only [Option.some.injEq,reduceCtorEq] at hc
    rename_i h1
    have h1:=Nat.eq_of_beq_eq_true h1
    subst h1;subst hc
    refine ⟨((s.take k).map λ c=>Value.int .u8 (c.toNat:Int)).toArray,λ w' _=>?_,bytes_rel _,bytes_all _,λ w'=>by simp [Builtin.lenOf,size_mk],by simp;omega⟩
    simp only [Builtin.firstCells,Sem.run_pure]
    congr 1
    apply Array.ext'
    simp [ByteArray.extract,ByteArray.copySlice]
  case nilslice=>
    subst hn
    simp only [VRel] at hx;subst hx
    simp only [srcCells,Option.some.injEq] at hc;subst hc
    exact ⟨#[],λ w' _=>by simp [Builtin.firstCells],rfl,rfl,λ w'=>by simp [Builtin.lenOf],(by
      have hk0:k=0:=by omega
      simp [hk0])⟩
  case slice id off len es cap=>
    subst hn
    obtain ⟨b,o,s,c,hi,_,_,_,hv⟩:=hx
    simp only [srcCells] at hc
    split at hc
    · rename_i cs hr
      obtain ⟨hle,rfl⟩:=takeCells_some hc
      obtain ⟨vs,hl,ha,hle',hcell⟩:=row_real hs hi hr
      have hlen:=hl.length
      have hnl:((vs.drop off).take (k * size)).length=k * size:=by simp;omega
      have hrel:=(hl.drop off).take (k * size)
      refine ⟨((vs.drop off).take (k * size)).toArray,λ w' hw=>?_,hrel,all_take (all_drop ha),λ w'=>by rcases hv with rfl | ⟨rfl,rfl,a,rfl⟩ <;> simp [Builtin.lenOf],by simp;omega⟩
      rcases hv with rfl | ⟨rfl,rfl,a,rfl⟩
      · have hrun:=run_loadCells_list (P:=P) (w:=w') ⟨b,o+off,none⟩ ((vs.drop off).take (k * size)) (λ j v hv=>by
          rw [List.getElem?_take] at hv
          split at hv
          · rw [List.getElem?_drop] at hv
            have:=hcell _ _ hv
            rw [add_spot]
            unfold World.cell? at this ⊢
            rw [hw]
            simpa [Nat.add_assoc] using this
          · simp at hv)
        rw [hnl] at hrun
        exact hrun
      · have:k=0:=by omega
        subst this
        simp [Builtin.firstCells,loadCells,loadCellsFrom]
    · simp at hc
theorem copy_run {tys:Array TypeId} {gty ty el:TypeId} {i:TypeInfo} {us:Array Value} {d x:SV} {u y:Value} {n m:Nat} {new:List SV} {v:SV} (hs:St B ι h w) (ht:tys[0]?=some ty) (hu:P.underlying ty=some (.slice el)) (hi:P.info? el=some i)
    (h0:us[0]?=some u) (h1:us[1]?=some y) (hd:VRel ι d u) (hx:VRel ι x y) (hn:srcLen d=some n) (hm:srcLen x=some m) (hc:srcCells h.get i.size (min m n) x=some new) (e:copyTo h d (min m n) new=some (.val v h')) :
    MOk B ι h w v h' ((do Pure.pure (Next.value (← Builtin.copy_ tys gty us)):Sem Next).run P w):=by
  obtain ⟨cs,hrun,hl,ha,hlen,hnlen⟩:=first_run (P:=P) (k:=min m n) hs.sim hx hm (Nat.min_le_left _ _) hc
  have hmin:Nat.min m n=min m n:=rfl
  cases d <;> simp only [copyTo,reduceCtorEq] at e
  case nilslice=>
    simp only [srcLen,Option.some.injEq] at hn;subst hn
    simp only [VRel] at hd;subst hd
    simp only [Option.some.injEq,MR.val.injEq] at e
    obtain ⟨rfl,rfl⟩:=e
    refine ⟨.value (goInt (min m 0:Nat)),goInt (min m 0:Nat),w,ι,?_,.inl rfl,rfl,⟨hs,.refl,.refl⟩⟩
    simp [Builtin.copy_,ht,h0,h1,r_underlying hu,hlen,r_size hi,hmin]
    have:=hrun w rfl
    simp at this
    simp [this]
  case slice id off len es cap=>
    simp only [srcLen,Option.some.injEq] at hn;subst hn
    obtain ⟨b,o,s,c,hid,_,_,_,hv⟩:=hd
    have fin:∀ base c' w',u=.slice base len c'→(match base with | some a=>storeCells a cs.toList | none=>Pure.pure ():Sem Unit).run P w=.ok () w'→v=.int .i64 (min m len:Nat)→Moves B ι h w ι h' w' →
        MOk B ι h w v h' ((do Pure.pure (Next.value (← Builtin.copy_ tys gty us)):Sem Next).run P w):=by
      intro base c' w' hu' hst hv hmv
      refine ⟨.value (goInt (min m len:Nat)),goInt (min m len:Nat),w',ι,?_,.inl rfl,by rw [hv];rfl,hmv⟩
      subst hu'
      cases base with
      | none=>simp at hst;subst hst;simp [Builtin.copy_,ht,h0,h1,r_underlying hu,hlen,r_size hi,hmin,hrun w rfl]
      | some a=>simp only at hst;simp [Builtin.copy_,ht,h0,h1,r_underlying hu,hlen,r_size hi,hmin,hrun w rfl,hst]
    split at e
    · simp only [Option.some.injEq,MR.val.injEq] at e
      obtain ⟨rfl,rfl⟩:=e
      have hcs:cs.toList=[]:=hl
      rcases hv with hv | ⟨h1,h2,a,hv⟩
      · exact fin _ _ w hv (by simp [hcs,storeCells]) rfl ⟨hs,.refl,.refl⟩
      · subst h1
        exact fin _ _ w hv (by simp [hcs,storeCells]) rfl ⟨hs,.refl,.refl⟩
    · rename_i hne
      split at e
      · rename_i h2 hst
        simp only [Option.some.injEq,MR.val.injEq] at e
        obtain ⟨rfl,rfl⟩:=e
        obtain ⟨w',a1,a2⟩:=hs.store (P:=P) hid hst hl ha
        rcases hv with hv | ⟨h1,h2,a,hv⟩
        · exact fin _ _ w' hv a1 rfl a2
        · exfalso
          subst h1
          have hk:min m 0=0:=by omega
          rw [hk,Nat.zero_mul] at hnlen
          exact hne (List.eq_nil_of_length_eq_zero hnlen)
      · simp at e
theorem zeroOk_some {i:TypeInfo} (e:zeroOk i=true):∃ z,i.zero=some z∧z.cells.size=i.size:=by
  unfold zeroOk at e
  split at e
  · rename_i z hz;exact ⟨z,hz,Nat.eq_of_beq_eq_true e⟩
  · simp at e
theorem fits {need old a b:Nat} (h:old < need) (hb:need * (a+b+1)≤1099511627776):Builtin.nextslicecap need old * a≤281474976710656:=by
  refine growslice_fits h (Nat.le_trans (Nat.mul_le_mul_left need (show a≤a+b+1 by omega)) (by omega))
theorem notInt {d:TypeDesc} (hd:∀ k,d≠.int k):(d matches .int _)=false:=by
  cases d <;> first | rfl | exact absurd rfl (hd _)
theorem append_room {tys:Array TypeId} {gty ty ux el:TypeId} {d:TypeDesc} {i:TypeInfo} {us:Array Value} {base:Option Addr} {sLen sCap n:Nat} {y:Value} {news:Array Value} {w':World}
    (ht:tys[0]?=some ty) (ht1:tys[1]?=some ux) (hu:P.underlying ty=some (.slice el)) (hux:P.underlying ux=some d) (hd:∀ k,d≠.int k) (hi:P.info? el=some i)
    (h0:us[0]?=some (.slice base sLen sCap)) (h1:us[1]?=some y) (hn:(Builtin.lenOf y).run P w=.ok n w) (hf:(Builtin.firstCells i.size n y).run P w=.ok news w) (hroom:sLen+n≤sCap)
    (hst:(match base with | some a=>storeCells (a.add (sLen * i.size)) news.toList | none=>Pure.pure ():Sem Unit).run P w=.ok () w') :
    (Builtin.append_ tys gty us).run P w=.ok (.slice base (sLen+n) sCap) w':=by
  have hz:=notInt hd
  cases base with
  | none=>simp at hst;subst hst;simp [Builtin.append_,ht,ht1,h0,h1,r_underlying hu,r_underlying hux,r_size hi,hn,hf,hroom,hz]
  | some a=>simp only at hst;simp [Builtin.append_,ht,ht1,h0,h1,r_underlying hu,r_underlying hux,r_size hi,hn,hf,hroom,hst,hz]
theorem append_grows {tys:Array TypeId} {gty ty ux el:TypeId} {d:TypeDesc} {i:TypeInfo} {us:Array Value} {base:Option Addr} {sLen sCap n:Nat} {y z:Value} {olds news:Array Value}
    (ht:tys[0]?=some ty) (ht1:tys[1]?=some ux) (hu:P.underlying ty=some (.slice el)) (hux:P.underlying ux=some d) (hd:∀ k,d≠.int k) (hi:P.info? el=some i) (hz:i.zero=some z) (h0:us[0]?=some (.slice base sLen sCap)) (h1:us[1]?=some y)
    (hn:(Builtin.lenOf y).run P w=.ok n w) (hf:∀ w':World,w'.heap=w.heap→(Builtin.firstCells i.size n y).run P w'=.ok news w') (ho:∀ w':World,w'.heap=w.heap→(Builtin.firstCells i.size sLen (.slice base sLen sCap)).run P w'=.ok olds w')
    (hg:sCap < sLen+n) (hfit:(sLen+n) * (i.bytes+i.size+1)≤1099511627776) :
    ∃ cap w',(Builtin.append_ tys gty us).run P w=.ok (.slice (some ⟨w.heap.size,0,none⟩) (sLen+n) cap) w'∧sLen+n≤cap∧w'.os=w.os∧w'.tape=w.tape∧w'.output=w.output ∧
      w'.heap=w.heap.push (.cells (olds++news++Builtin.zeroCells z.cells (cap - (sLen+n))) el):=by
  have hroom:¬(sLen+n≤sCap):=by omega
  have hsmall:sLen+n≤1099511627776:=Nat.le_trans (Nat.le_mul_of_pos_right _ (by omega)) hfit
  have h63:¬(9223372036854775807 < ((sLen:Int)+(n:Int))):=by omega
  have h48:¬(281474976710656 < Builtin.nextslicecap (sLen+n) sCap * i.bytes):=by have:=fits hg hfit;omega
  have hz':=notInt hd
  have hf':=hf w.drew rfl
  have ho':=ho w.drew rfl
  refine ⟨grownCap w (sLen+n) sCap el,w.drew.alloc (.cells (olds++news++Builtin.zeroCells z.cells (grownCap w (sLen+n) sCap el - (sLen+n))) el),?_,grownCap_ge w _ _ _,rfl,rfl,rfl,rfl⟩
  simp [Builtin.append_,ht,ht1,h0,h1,r_underlying hu,r_underlying hux,r_size hi,r_info hi,r_zero hi hz,hn,hroom,h63,h48,Question.forced,hf',ho',newRow,grownCap,hz']
theorem Sim.mark (hs:Sim B ι g w) {id:Nat} {cs:List SV} {par:Option Nat} (hg:g id=some (.cells cs (.grown par))) (hg':g' id=some (.cells cs (.stale par))) (hother:∀ k,k≠id→g' k=g k):Sim B ι g' w:=by
  have ob_of:∀ k ob,g' k=some ob→∃ ob0,g k=some ob0∧(ob0.isDead ↔ ob.isDead)∧(ob0.isExt ↔ ob.isExt):=λ k ob h=>by
    by_cases e:k=id
    · subst e;rw [hg'] at h;cases h;exact ⟨_,hg,by simp [SObj.isDead],by simp [SObj.isExt]⟩
    · rw [hother k e] at h;exact ⟨ob,h,Iff.rfl,Iff.rfl⟩
  have len_of:∀ k,lenOf (g' k)=lenOf (g k):=λ k=>by
    by_cases e:k=id
    · subst e;rw [hg,hg'];rfl
    · rw [hother k e]
  refine ⟨λ k b o s hk=>?_,λ k x p cs m hk hgk hp=>?_,λ i j oi oj bi bj si sj obi obj hne hi' hj' hb' hgi hgj hdi hdj=>?_⟩
  · obtain ⟨ob,h1,h2,h3,h4⟩:=hs.obj _ _ _ _ hk
    by_cases e:k=id
    · subst e
      rw [hg] at h1;cases h1
      refine ⟨_,hg',?_,h3,λ _=>h4 (by simp [SObj.isExt])⟩
      rcases h2 with hd | ⟨rc,el,fz,a1,a2,a3,a4,a5,a6,a7⟩
      · simp [SObj.isDead] at hd
      · exact .inr ⟨rc,el,fz,a1,a2,a3,a4,a5,λ _=>a6 (by simp),λ e=>by simp at e⟩
    · exact ⟨ob,(hother k e).trans h1,h2,h3,h4⟩
  · by_cases e:k=id
    · subst e;rw [hg'] at hgk;cases hgk;exact hs.par _ _ _ _ _ hk hg hp
    · rw [hother k e] at hgk;exact hs.par _ _ _ _ _ hk hgk hp
  · obtain ⟨o1,a1,a2,a3⟩:=ob_of _ _ hgi
    obtain ⟨o2,b1,b2,b3⟩:=ob_of _ _ hgj
    have up:∀ i j a b,Above g i j a b→Above g' i j a b:=λ i j a b ⟨hA,hL⟩=>by
      refine ⟨hA.keep (λ cs m p h h'=>?_) λ p cs q _ _ hgp=>hother p λ e=>?_,by rw [len_of,len_of];exact hL⟩
      · by_cases e:i=id
        · subst e;rw [hg] at h;cases h;exact ⟨_,_,hg',h'⟩
        · exact ⟨cs,m,(hother i e).trans h,h'⟩
      · subst e;rw [hg] at hgp;simp at hgp
    rcases hs.sep i j oi oj bi bj si sj o1 o2 hne hi' hj' hb' a1 b1 (λ h=>hdi (a2.1 h)) (λ h=>hdj (b2.1 h)) with h | h | h
    · exact .inl ⟨a3.1 h.1,b3.1 h.2⟩
    · exact .inr (.inl (up _ _ _ _ h))
    · exact .inr (.inr (up _ _ _ _ h))
theorem Sim.froze (hs:Sim B ι g w) {id b o s:Nat} {cs:List SV} {rc:Array Value} {el:TypeId} (hi:ι id=some (b,o,s)) (hg:g id=some (.cells cs .fixed)) (hg':g' id=some (.cells cs (.grown none))) (hother:∀ k,k≠id→g' k=g k)
    (hh:w.heap[b]?=some (.cells rc el (0,0))):Sim B ι g' (putBlk w b (.cells rc el (rc.size,rc.size+1))):=by
  have nst:∀ k,¬Anc g k id:=λ k hA=>by
    obtain ⟨cs',q,e⟩:=hA.stale
    rw [hg] at e;cases e
  have ob_of:∀ k ob,g' k=some ob→∃ ob0,g k=some ob0∧(ob0.isDead ↔ ob.isDead)∧(ob0.isExt ↔ ob.isExt):=λ k ob h=>by
    by_cases e:k=id
    · subst e;rw [hg'] at h;cases h;exact ⟨_,hg,by simp [SObj.isDead],by simp [SObj.isExt]⟩
    · rw [hother k e] at h;exact ⟨ob,h,Iff.rfl,Iff.rfl⟩
  have len_of:∀ k,lenOf (g' k)=lenOf (g k):=λ k=>by
    by_cases e:k=id
    · subst e;rw [hg,hg'];rfl
    · rw [hother k e]
  refine ⟨λ k bk ok sk hk=>?_,λ k x p ck m hk hgk hp=>?_,λ i j oi oj bi bj si sj obi obj hne hi' hj' hb' hgi hgj hdi hdj=>?_⟩
  · obtain ⟨ob,h1,h2,h3,h4⟩:=hs.obj _ _ _ _ hk
    by_cases e:k=id
    · subst e
      rw [hi] at hk;cases hk
      rw [hg] at h1;cases h1
      refine ⟨_,hg',.inr ?_,by rw [putBlk_size];exact h3,λ _=>h4 (by simp [SObj.isExt])⟩
      rcases h2 with hd | ⟨rc',el',fz',a1,a2,a3,a4,a5,a6,a7⟩
      · simp [SObj.isDead] at hd
      · rw [hh] at a1;cases a1
        exact ⟨rc,el,_,putBlk_same h3,a2,a3,a4,a5,λ _ j hj=>by simp only;omega,λ e=>by simp at e⟩
    · refine ⟨ob,(hother k e).trans h1,?_,by rw [putBlk_size];exact h3,h4⟩
      by_cases hd:ob.isDead
      · exact .inl hd
      · have hb:bk≠b:=λ eb=>by
          rcases hs.sep k id ok o bk b sk s _ _ e hk hi eb h1 hg hd (by simp [SObj.isDead]) with ⟨_,h⟩ | h | h
          · exact h
          · exact nst _ h.1
          · exact not_anc_fixed hg h.1
        exact h2.mono (Inj.le_refl _) (putBlk_other hb)
  · by_cases e:k=id
    · subst e;rw [hg'] at hgk;cases hgk;simp [Mode.par] at hp
    · rw [hother k e] at hgk;exact hs.par _ _ _ _ _ hk hgk hp
  · obtain ⟨o1,a1,a2,a3⟩:=ob_of _ _ hgi
    obtain ⟨o2,b1,b2,b3⟩:=ob_of _ _ hgj
    have up:∀ i j a b,Above g i j a b→Above g' i j a b:=λ i j a b ⟨hA,hL⟩=>by
      refine ⟨hA.keep (λ cs m p h h'=>?_) λ p cs q _ _ hgp=>hother p λ e=>?_,by rw [len_of,len_of];exact hL⟩
      · by_cases e:i=id
        · subst e;rw [hg] at h;cases h;simp [Mode.par] at h'
        · exact ⟨cs,m,(hother i e).trans h,h'⟩
      · subst e;rw [hg] at hgp;simp at hgp
    rcases hs.sep i j oi oj bi bj si sj o1 o2 hne hi' hj' hb' a1 b1 (λ h=>hdi (a2.1 h)) (λ h=>hdj (b2.1 h)) with h | h | h
    · exact .inl ⟨a3.1 h.1,b3.1 h.2⟩
    · exact .inr (.inl (up _ _ _ _ h))
    · exact .inr (.inr (up _ _ _ _ h))
theorem freeze_put {b:Nat} {rc:Array Value} {el:TypeId} (hh:w.heap[b]?=some (.cells rc el (0,0))):w.freeze { block:=b,off:=rc.size } 1=putBlk w b (.cells rc el (rc.size,rc.size+1)):=by
  unfold World.freeze putBlk
  rw [if_neg (by decide)]
  congr 1
  apply Array.ext_getElem?
  intro k
  rw [Array.getElem?_modify,Array.getElem?_setIfInBounds]
  by_cases e:b=k
  · subst e
    obtain ⟨hb,he⟩:=Array.getElem?_eq_some_iff.1 hh
    simp [hb,he]
  · simp [e]
theorem Sim.grow (hs:Sim B ι g w) {id id' b o s off:Nat} {cs cs2:List SV} {par:Option Nat} {rc rc':Array Value} {el:TypeId} {fz:Nat × Nat} (hi:ι id=some (b,o,s)) (hg:g id=some (.cells cs (.grown par))) (hoff:off≤cs.length)
    (hi':ι id'=none) (hlt:id < id') (hst:∀ cs q,g id'≠some (.cells cs (.stale q))) (hg1:g' id=some (.cells cs (.stale par))) (hg2:g' id'=some (.cells cs2 (.grown (some id)))) (hother:∀ k,k≠id→k≠id'→g' k=g k)
    (hh:w.heap[b]?=some (.cells rc el fz)) (hsz:rc'.size=rc.size) (hsame:∀ j,j < o+cs.length→rc'[j]?=rc[j]?) (hl2:cs.length≤off+cs2.length) (hfit:o+off+cs2.length≤s)
    (hr:LRel ι cs2 ((rc'.toList.drop (o+off)).take cs2.length)) (ha:cs2.all SV.isCell=true):Sim B (upd ι id' (b,o+off,s)) g' (putBlk w b (.cells rc' el fz)):=by
  have hle:ι.le (upd ι id' (b,o+off,s)):=upd_le hi'
  have hb:b < w.heap.size:=(Array.getElem?_eq_some_iff.1 hh).1
  have hnd:(Mode.grown par)=.fixed∨∃ p,(Mode.grown par)=.grown p:=.inr ⟨par,rfl⟩
  obtain ⟨rc0,el0,fz0,h1,h2,h3,h4,h5,h6,h7⟩:=cells_real hs hi hg (by simp)
  rw [hh] at h1;cases h1
  have old:∀ k x,k≠id'→upd ι id' (b,o+off,s) k=some x→ι k=some x:=λ k x hk h=>by simpa [upd,hk] using h
  have here:∀ x,upd ι id' (b,o+off,s) id'=some x→x=(b,o+off,s):=λ x h=>by simpa using h.symm
  have hne':id≠id':=by omega
  have ob_of:∀ k ob,k≠id'→g' k=some ob→∃ ob0,g k=some ob0∧(ob0.isDead ↔ ob.isDead)∧(ob0.isExt ↔ ob.isExt):=λ k ob hk h=>by
    by_cases e:k=id
    · subst e;rw [hg1] at h;cases h;exact ⟨_,hg,by simp [SObj.isDead],by simp [SObj.isExt]⟩
    · rw [hother k e hk] at h;exact ⟨ob,h,Iff.rfl,Iff.rfl⟩
  have len_of:∀ k,k≠id'→lenOf (g' k)=lenOf (g k):=λ k hk=>by
    by_cases e:k=id
    · subst e;rw [hg,hg1];rfl
    · rw [hother k e hk]
  have row:∀ (cs0:List SV) (o0:Nat),o0+cs0.length≤o+cs.length→(rc'.toList.drop o0).take cs0.length=(rc.toList.drop o0).take cs0.length:=λ cs0 o0 hl=>by
    apply List.ext_getElem?
    intro j
    by_cases hj:j < cs0.length
    · rw [List.getElem?_take_of_lt hj,List.getElem?_take_of_lt hj,List.getElem?_drop,List.getElem?_drop,Array.getElem?_toList,Array.getElem?_toList]
      exact hsame _ (by omega)
    · rw [List.getElem?_eq_none (by simp;omega),List.getElem?_eq_none (by simp;omega)]
  have hB:B≤b:=by
    obtain ⟨ob,a1,_,_,a4⟩:=hs.obj _ _ _ _ hi
    rw [hg] at a1;cases a1
    exact a4 (by simp [SObj.isExt])
  have keepc:∀ (cs0:List SV) (m m0:Mode) (o0 s0:Nat),CRel ι cs0 m0 b o0 s0 w→o0+cs0.length≤o+cs.length→(m≠.ext→m0≠.ext)→m≠.fixed→CRel (upd ι id' (b,o+off,s)) cs0 m b o0 s0 (putBlk w b (.cells rc' el fz)):=λ cs0 m m0 o0 s0 ⟨rcx,elx,fzx,b1,b2,b3,b4,b5,b6,_⟩ hl hx hf=>by
    rw [hh] at b1;cases b1
    refine ⟨rc',el,fz,putBlk_same hb,by omega,b3,?_,b5,λ hm=>b6 (hx hm),λ e=>absurd e hf⟩
    rw [row cs0 o0 hl]
    exact b4.mono hle
  have upA:∀ i j,i≠id'→Anc g i j→Anc g' i j:=λ i j hi0 hA=>by
    refine hA.keep (λ cs m p h h'=>?_) λ p cs q _ _ hgp=>hother p (λ e=>?_) (λ e=>?_)
    · by_cases e:i=id
      · subst e;rw [hg] at h;cases h;exact ⟨_,_,hg1,h'⟩
      · exact ⟨cs,m,(hother i e hi0).trans h,h'⟩
    · subst e;rw [hg] at hgp;simp at hgp
    · subst e;exact hst _ _ hgp
  have up:∀ i j a b,i≠id'→j≠id'→Above g i j a b→Above g' i j a b:=λ i j a b hi0 hj0 ⟨hA,hL⟩=>⟨upA i j hi0 hA,by rw [len_of _ hi0,len_of _ hj0];exact hL⟩
  refine ⟨λ k bk ok sk hk=>?_,λ k x p ck mk hk hgk hp=>?_,λ i j oi oj bi bj si sj obi obj hne hi0 hj0 hb' hgi hgj hdi hdj=>?_⟩
  · by_cases e:k=id'
    · subst e
      have:=here _ hk;cases this
      refine ⟨_,hg2,.inr ⟨rc',el,fz,putBlk_same hb,by omega,by omega,hr.mono hle,ha,λ _=>h6 (by simp),λ e=>by simp at e⟩,by rw [putBlk_size];exact hb,λ _=>hB⟩
    · have hk0:=old k _ e hk
      obtain ⟨ob,a1,a2,a3,a4⟩:=hs.obj _ _ _ _ hk0
      by_cases e2:k=id
      · subst e2
        rw [hi] at hk0;cases hk0
        refine ⟨_,hg1,.inr (keepc cs _ (.grown par) o s ⟨rc,el,fz,hh,h2,h3,h4,h5,h6,h7⟩ (Nat.le_refl _) (λ _=>by simp) (by simp)),by rw [putBlk_size];exact hb,λ _=>hB⟩
      · refine ⟨ob,(hother k e2 e).trans a1,?_,by rw [putBlk_size];exact a3,a4⟩
        by_cases hd:ob.isDead
        · exact .inl hd
        · by_cases eb:bk=b
          · subst eb
            obtain ⟨hA,hL⟩:=hs.alone hi hg hnd e2 hk0 a1 hd
            obtain ⟨cs1,q,hs1⟩:=hA.stale
            rw [a1] at hs1;cases hs1
            rw [a1] at hL
            rcases a2 with hd' | a2
            · exact absurd hd' hd
            · exact .inr (keepc cs1 _ _ ok sk a2 hL (λ h=>h) (by simp))
          · exact a2.mono hle (putBlk_other eb)
  · by_cases e:k=id'
    · subst e
      rw [hg2] at hgk;cases hgk
      simp only [Mode.par,Option.some.injEq] at hp
      subst hp
      exact ⟨by rw [hle _ _ hi];simp,hlt⟩
    · have hk0:=old k _ e hk
      have hpar:ι p≠none∧p < k:=by
        by_cases e2:k=id
        · subst e2;rw [hg1] at hgk;cases hgk;exact hs.par _ _ _ _ _ hk0 hg hp
        · rw [hother k e2 e] at hgk;exact hs.par _ _ _ _ _ hk0 hgk hp
      refine ⟨λ h=>?_,hpar.2⟩
      cases e':ι p with
      | none=>exact hpar.1 e'
      | some y=>rw [hle _ _ e'] at h;simp at h
  · -- the new one, and one that shares with it
    have share:∀ j oj sj obj,j≠id'→ι j=some (b,oj,sj)→g' j=some obj→¬obj.isDead→Above g' id' j (o+off) oj:=λ j oj sj obj hj hj0 hgj hdj=>by
      have one:Anc g' id' id:=.one hg2 rfl hg1
      by_cases e:j=id
      · subst e
        rw [hi] at hj0;cases hj0
        exact ⟨one,by rw [hg1,hg2];simp only [lenOf];omega⟩
      · have hgj':=hgj
        rw [hother j e hj] at hgj'
        obtain ⟨hA,hL⟩:=hs.alone hi hg hnd e hj0 hgj' hdj
        have hA':=upA id j hne' hA
        exact ⟨one.trans hA',by rw [len_of j hj,hg2];show oj+lenOf (g j)≤o+off+cs2.length;omega⟩
    by_cases e1:i=id'
    · subst e1
      have:=here _ hi0;cases this
      subst hb'
      exact .inr (.inl (share j oj sj obj (Ne.symm hne) (old j _ (Ne.symm hne) hj0) hgj hdj))
    · by_cases e2:j=id'
      · subst e2
        have:=here _ hj0;cases this
        subst hb'
        exact .inr (.inr (share i oi si obi hne (old i _ hne hi0) hgi hdi))
      · obtain ⟨o1,a1,a2,a3⟩:=ob_of _ _ e1 hgi
        obtain ⟨o2,b1,b2,b3⟩:=ob_of _ _ e2 hgj
        rcases hs.sep i j oi oj bi bj si sj o1 o2 hne (old i _ e1 hi0) (old j _ e2 hj0) hb' a1 b1 (λ h=>hdi (a2.1 h)) (λ h=>hdj (b2.1 h)) with h | h | h
        · exact .inl ⟨a3.1 h.1,b3.1 h.2⟩
        · exact .inr (.inl (up _ _ _ _ e1 e2 h))
        · exact .inr (.inr (up _ _ _ _ e2 e1 h))
end
end Go.Sh
end
section
/- The shadow machine: 'append', and all that may turn the heap, in one. -/
namespace Go.Sh
section
variable [Held] {P:Program} {w:World} {ι:Inj} {B:Nat} {g:Nat→Option SObj} {h h':H} {t:T} {ρ:Operand→Value}
theorem get_next {h:H} {k:Nat} (hk:h.next≤k):h.get k=none:=by rw [H.get_eq,if_neg (by omega)]
theorem fresh_none {n:Nat} (hf:Fresh ι n) {k:Nat} (hk:n≤k):ι k=none:=by
  cases e:ι k with
  | none=>rfl
  | some x=>have:=hf _ _ e;omega
theorem low_push {h:H} {ob:SObj}:Low h (h.push ob):=by
  refine ⟨Nat.le_refl _,Nat.le_succ _,λ k _ hk=>?_⟩
  rw [H.get_push,if_neg (by omega)]
  exact .refl
theorem St.newRow (hs:St B ι h w) {h1:H} {w':World} {cs:List SV} {rc:Array Value} {el:TypeId} {m:Mode} (hn:h1.next=h.next) (hsim:Sim B ι h1.get w) (hext:∀ k ob ob',h.get k=some ob→h1.get k=some ob'→(ob.isExt ↔ ob'.isExt))
    (hgh:∀ k,ι k=none→h1.get k=h.get k) (hlow:Low h h1) (hl:LRel ι cs (rc.toList.take cs.length)) (ha:cs.all SV.isCell=true) (hm:∃ p,m=.grown p) (hlen:cs.length≤rc.size) (hpar:∀ p,m.par=some p→ι p≠none∧p < h.next)
    (ho:w'.os=w.os) (ht:w'.tape=w.tape) (hu:w'.output=w.output) (hh:w'.heap=w.heap.push (.cells rc el)) :
    Moves B ι h w (upd ι h.next (w.heap.size,0,rc.size)) (h1.push (.cells cs m)) w':=by
  have hi:ι h.next=none:=fresh_none hs.fresh (Nat.le_refl _)
  have hle:ι.le (upd ι h.next (w.heap.size,0,rc.size)):=upd_le hi
  obtain ⟨p,rfl⟩:=hm
  have hsz:w'.heap.size=w.heap.size+1:=by rw [hh];simp
  have hold:∀ k,k < w.heap.size→w'.heap[k]?=w.heap[k]?:=λ k hk=>by rw [hh,Array.getElem?_push,if_neg (by omega)]
  have hget:∀ k,(h1.push (.cells cs (.grown p))).get k=if k=h.next then some (.cells cs (.grown p)) else h1.get k:=λ k=>by rw [H.get_push,hn]
  have hor:ORel (upd ι h.next (w.heap.size,0,rc.size)) (.cells cs (.grown p)) w.heap.size 0 rc.size w':=by
    refine .inr ⟨rc,el,(0,0),by rw [hh];simp,rfl,by omega,?_,ha,λ _ j _=>by simp,λ e=>by simp at e⟩
    simpa using hl.mono hle
  refine .of hs ?_ (λ k x hk=>?_) (by rw [hsz];have:=hs.base;omega) ?_ (hlow.trans low_push)
  · exact hsim.new hs.base hold hsz hi (by rw [hget,if_pos rfl]) (λ k hk=>by rw [hget,if_neg hk]) (λ cs q e=>by rw [get_next (by omega)] at e;simp at e)
      (λ cs m p e hp=>by cases e;exact hpar p hp) hor
  · show k < h1.next+1
    by_cases e:k=h.next
    · omega
    · have:=hs.fresh k x (by simpa [upd,e] using hk);omega
  · have:=new_ext (g:=h.get) (g':=(h1.push (.cells cs (.grown p))).get) (s:=rc.size) (ob:=.cells cs (.grown p)) hs.sim hi hs.fresh hold hsz ho ht hu (λ k ob ob' hk e e'=>by
      rw [hget,if_neg hk] at e';exact hext k ob ob' e e') (λ k hk e=>by rw [hget,if_neg (by omega)];exact hgh k e)
    have hnx:(h1.push (.cells cs (.grown p))).next=h.next+1:=by simp [hn]
    rw [hnx]
    exact this
theorem take_zero {z:List Value} {n:Nat} (h:z.length=n) (r:List Value):(z++r).take n=z:=by rw [← h,List.take_left]
theorem mul_of_fits {a b c:Nat} (h:a * (c+b+1)≤1099511627776) (hb:0 < b):a * b≤1099511627776:=Nat.le_trans (Nat.mul_le_mul_left a (by omega)) h
theorem zero_cells_size (z:Array Value) (n:Nat):(Builtin.zeroCells z n).size=n * z.size:=by simp [Builtin.zeroCells]
theorem new_slice {id L cap es b:Nat} {ι':Inj} {s:Nat} (hi:ι' id=some (b,0,s)) (hc:L≤cap) (hs:cap * es≤s):VRel ι' (.slice id 0 L es none) (.slice (some ⟨b,0,none⟩) L cap):=
  ⟨b,0,s,cap,hi,λ _ e=>by simp at e,hc,by omega,.inl rfl⟩
theorem grow_ext (hs:Sim B ι g w) {id b o s o' s' n:Nat} {cs:List SV} {par:Option Nat} {ob:Obj} {g':Nat→Option SObj} (hi:ι id=some (b,o,s)) (hg:g id=some (.cells cs (.grown par))) (hf:Fresh ι n)
    (hext:∀ k ob ob',k≠n→g k=some ob→g' k=some ob'→(ob.isExt ↔ ob'.isExt)) (hgh:∀ k,k < n→ι k=none→g' k=g k):Ext ι g n w (upd ι n (b,o',s')) g' (n+1) (putBlk w b ob):=by
  have hn:ι n=none:=fresh_none hf (Nat.le_refl _)
  refine ⟨upd_le hn,by omega,λ k x h=>?_,λ k h1 h2=>?_,rfl,rfl,rfl,by rw [putBlk_size];exact Nat.le_refl _,λ k hk hx=>putBlk_other λ e=>?_,λ k x h h'=>?_,λ k x ob ob' hk h h'=>?_,hgh⟩
  · by_cases e:k=n
    · exact .inr (by omega)
    · exact .inl (by simpa [upd,e] using h)
  · have e:k=n:=by omega
    subst e;simp
  · subst e;have:=hx id _ _ hi rfl hg;simp [SObj.isExt] at this
  · by_cases e:k=n
    · subst e;simp at h';subst h';exact .inr ⟨id,_,_,hi,rfl,hg,by simp [SObj.isExt]⟩
    · rw [show upd ι n (b,o',s') k=ι k by simp [upd,e],h] at h';simp at h'
  · have e:k≠n:=λ e=>by subst e;rw [hn] at hk;simp at hk
    exact hext k ob ob' e h h'
theorem grow_run {tys:Array TypeId} {gty ty ux el:TypeId} {d:TypeDesc} {i:TypeInfo} {us:Array Value} {id off len n b o s c:Nat} {v:SV} {a:Addr} {y:Value} {new:List SV} {news:Array Value} (hs:St B ι h w) (ht:tys[0]?=some ty) (ht1:tys[1]?=some ux)
    (hu:P.underlying ty=some (.slice el)) (hux:P.underlying ux=some d) (hd:∀ k,d≠.int k) (hi:P.info? el=some i) (h0:us[0]?=some (.slice (some a) len c)) (h1:us[1]?=some y)
    (hid:ι id=some (b,o,s)) (hlc:len≤c) (hfc:o+off+c * i.size≤s) (ha:a=⟨b,o+off,none⟩∨len=0∧c=0) (hpos:0 < i.size) (hz:zeroOk i=true) (hfit:(len+n) * (i.bytes+i.size+1)≤1099511627776) (hn0:n≠0)
    (hl:LRel ι new news.toList) (hall:new.all SV.isCell=true) (hnl:new.length=n * i.size) (hnn:(Builtin.lenOf y).run P w=.ok n w) (hrun:∀ w':World,w'.heap=w.heap→(Builtin.firstCells i.size n y).run P w'=.ok news w')
    (e:growRow h id off len i.size n new=some (v,h')):∃ v' w' ι',(Builtin.append_ tys gty us).run P w=.ok v' w'∧VRel ι' v v'∧Moves B ι h w ι' h' w':=by
  unfold growRow at e
  split at e
  · rename_i cs par hg
    split at e <;> simp only [Option.some.injEq,Prod.mk.injEq,reduceCtorEq] at e
    rename_i hoff
    obtain ⟨rfl,rfl⟩:=e
    have hidn:=H.get_lt hg
    have hnx:ι h.next=none:=fresh_none hs.fresh (Nat.le_refl _)
    have hmk:∀ k,(h.mark id (.cells cs (.stale par))).get k=if k=id then some (.cells cs (.stale par)) else h.get k:=λ k=>H.get_mark _ _ _ _ hidn
    have hlowm:Low h (h.mark id (.cells cs (.stale par))):=by
      refine ⟨Nat.le_refl _,Nat.le_refl _,λ k _ _=>?_⟩
      rw [hmk]
      by_cases ek:k=id
      · subst ek;rw [hg,if_pos rfl];exact .inr ⟨cs,_,_,rfl,rfl,by simp,by simp,by simp,by simp⟩
      · rw [if_neg ek];exact .refl
    have hextm:∀ k ob ob',h.get k=some ob→(h.mark id (.cells cs (.stale par))).get k=some ob'→(ob.isExt ↔ ob'.isExt):=λ k ob ob' e e'=>by
      rw [hmk] at e'
      by_cases ek:k=id
      · subst ek;rw [hg] at e;cases e;rw [if_pos rfl] at e';cases e';simp [SObj.isExt]
      · rw [if_neg ek,e] at e';cases e';rfl
    have hghm:∀ k,ι k=none→(h.mark id (.cells cs (.stale par))).get k=h.get k:=λ k e=>by
      rw [hmk,if_neg];intro ek;subst ek;rw [hid] at e;simp at e
    obtain ⟨rc,el0,fz,c1,c2,c3,c4,c5,c6,c7⟩:=cells_real hs.sim hid hg (by simp)
    have hnews:news.toList.length=n * i.size:=by rw [hl.length,hnl]
    have hnsz:news.size=n * i.size:=by simpa using hnews
    have hdl:(cs.drop off).length=len * i.size:=by simp;omega
    by_cases hroom:len+n≤c
    · -- in its place
      have ha:a=⟨b,o+off,none⟩:=ha.resolve_right λ hz=>by omega
      subst ha
      have hmul:(len+n) * i.size≤c * i.size:=Nat.mul_le_mul_right _ hroom
      rw [Nat.add_mul] at hmul
      have hst:=store_list (P:=P) news.toList (o+off+len * i.size) 0 rc w c1 (by omega) (oneCells_rel hl hall) (by rw [c2];exact c6 (by simp))
      have happ:=append_room (gty:=gty) ht ht1 hu hux hd hi h0 h1 hnn (hrun w rfl) hroom (w':=putBlk w b (.cells (lay rc.toList (o+off+len * i.size) news.toList).toArray el0 fz)) (by
        show (storeCells ((⟨b,o+off,none⟩:Addr).add (len * i.size)) news.toList).run P w=_
        rw [add_spot];exact hst)
      have hll:(lay rc.toList (o+off+len * i.size) news.toList).length=rc.size:=by rw [length_lay (by simp;omega)];simp
      have hcl:(cs.drop off++new).length=len * i.size+n * i.size:=by rw [List.length_append,hdl,hnl]
      have hget:∀ k,((h.mark id (.cells cs (.stale par))).push (.cells (cs.drop off++new) (.grown (some id)))).get k=if k=h.next then some (.cells (cs.drop off++new) (.grown (some id))) else (h.mark id (.cells cs (.stale par))).get k:=λ k=>H.get_push _ _ _
      refine ⟨_,_,upd ι h.next (b,o+off,s),happ,?_,.of hs ?_ (λ k x hk=>?_) (by rw [putBlk_size];exact hs.base) ?_ (hlowm.trans low_push)⟩
      · exact ⟨b,o+off,s,c,upd_same,λ _ e=>by simp at e,hroom,by omega,.inl rfl⟩
      · refine hs.sim.grow (cs2:=cs.drop off++new) hid hg (by omega) hnx hidn (λ cs q e=>by rw [get_next (Nat.le_refl _)] at e;simp at e) ?_ ?_ (λ k h1 h2=>?_) c1 (by rw [List.size_toArray,hll]) (λ j hj=>?_) (by omega) (by omega) ?_ ?_
        · rw [hget,if_neg (by omega),hmk,if_pos rfl]
        · rw [hget,if_pos rfl]
        · rw [hget,if_neg h2,hmk,if_neg h1]
        · rw [List.getElem?_toArray,get_lay (by simp;omega),if_pos (by omega),Array.getElem?_toList]
        · rw [hcl]
          have hsl:=slice_lay (rc:=rc.toList) (us:=news.toList) (o:=o+off) (off:=len * i.size) (n:=len * i.size+n * i.size) (by simp;omega) (by omega)
          show LRel ι _ (((lay rc.toList (o+off+len * i.size) news.toList).drop (o+off)).take _)
          rw [hsl]
          have e1:((rc.toList.drop (o+off)).take (len * i.size+n * i.size)).drop (len * i.size+news.toList.length)=[]:=List.drop_eq_nil_of_le (by simp;omega)
          rw [e1,List.append_nil,List.take_take,Nat.min_eq_left (by omega)]
          refine LRel.append ?_ hl
          have:=c4.drop off
          rw [List.drop_take,List.drop_drop] at this
          rw [show cs.length - off=len * i.size from by omega] at this
          exact this
        · rw [List.all_append,all_drop c5,hall];rfl
      · show k < h.next+1
        by_cases ek:k=h.next
        · omega
        · have:=hs.fresh k x (by simpa [upd,ek] using hk);omega
      · exact grow_ext hs.sim hid hg hs.fresh (λ k ob ob' hk e e'=>by rw [hget,if_neg hk] at e';exact hextm k ob ob' e e') (λ k hk e=>by rw [hget,if_neg (by omega)];exact hghm k e)
    · -- elsewhere
      obtain ⟨z,hz,hzs⟩:=zeroOk_some hz
      have holds:∃ olds:Array Value,(∀ w':World,w'.heap=w.heap→(Builtin.firstCells i.size len (.slice (some a) len c)).run P w'=.ok olds w')∧LRel ι (cs.drop off) olds.toList:=by
        have hsx:VRel ι (.slice id off len i.size none) (.slice (some a) len c):=by
          refine ⟨b,o,s,c,hid,λ _ e=>by simp at e,hlc,hfc,?_⟩
          rcases ha with rfl | ⟨rfl,rfl⟩
          · exact .inl rfl
          · exact .inr ⟨rfl,rfl,a,rfl⟩
        obtain ⟨olds,r1,r2,_,_,_⟩:=first_run (P:=P) (n:=len) (k:=len) (size:=i.size) (new:=cs.drop off) hs.sim hsx rfl (Nat.le_refl _) (by
          simp only [srcCells,rowCells,hg,takeCells]
          rw [if_pos (by omega),List.take_of_length_le (by omega)])
        exact ⟨olds,r1,r2⟩
      obtain ⟨olds,r1,r2⟩:=holds
      obtain ⟨cap,w',a1,a2,a3,a4,a5,a6⟩:=append_grows (gty:=gty) ht ht1 hu hux hd hi hz h0 h1 hnn hrun r1 (by omega) hfit
      have hol:olds.size=len * i.size:=by have:=r2.length;simp at this;omega
      refine ⟨_,w',_,a1,?_,hs.newRow (rc:=olds++news++Builtin.zeroCells z.cells (cap - (len+n))) rfl (hs.sim.mark hg (by rw [hmk,if_pos rfl]) λ k hk=>by rw [hmk,if_neg hk]) hextm hghm hlowm ?_ (by rw [List.all_append,all_drop c5,hall];rfl) ⟨_,rfl⟩ ?_ (λ p e=>by
        simp only [Mode.par,Option.some.injEq] at e;subst e;exact ⟨by rw [hid];simp,hidn⟩) a3 a4 a5 a6⟩
      · refine new_slice upd_same a2 ?_
        simp only [Array.size_append,zero_cells_size,hzs,hol,hnsz]
        rw [← Nat.add_mul,← Nat.add_mul]
        exact Nat.mul_le_mul_right _ (by omega)
      · simp only [Array.toList_append]
        rw [List.take_append_of_le_length (by simp;omega),List.take_of_length_le (by simp;omega)]
        exact r2.append hl
      · simp only [Array.size_append,List.length_append,hol,hnsz,hdl,hnl];omega
  · simp at e
theorem append_run {tys:Array TypeId} {gty ty ux el:TypeId} {d:TypeDesc} {i:TypeInfo} {us:Array Value} {sx x v:SV} {u y:Value} (hs:St B ι h w) (ht:tys[0]?=some ty) (ht1:tys[1]?=some ux) (hu:P.underlying ty=some (.slice el)) (hux:P.underlying ux=some d) (hd:∀ k,d≠.int k)
    (hi:P.info? el=some i) (h0:us[0]?=some u) (h1:us[1]?=some y) (hsx:VRel ι sx u) (hx:VRel ι x y) (e:appendS h i sx x=some (v,h')) :
    ∃ v' w' ι',(Builtin.append_ tys gty us).run P w=.ok v' w'∧VRel ι' v v'∧Moves B ι h w ι' h' w':=by
  unfold appendS at e
  split at e
  · simp at e
  · rename_i n hn
    split at e
    · simp at e
    · rename_i new hc
      obtain ⟨news,hrun,hl,hall,hlen,hnl⟩:=first_run (P:=P) (k:=n) hs.sim hx hn (Nat.le_refl _) hc
      have hf:=hrun w rfl
      have hnn:=hlen w
      have hnsz:news.size=n * i.size:=by have:=hl.length;simp only [Array.length_toList] at this;omega
      split at e
      · -- nil
        simp only [VRel] at hsx;subst hsx
        split at e
        · rename_i hn0
          subst hn0
          simp only [Option.some.injEq,Prod.mk.injEq] at e
          obtain ⟨rfl,rfl⟩:=e
          exact ⟨.slice none 0 0,w,ι,append_room ht ht1 hu hux hd hi h0 h1 hnn hf (Nat.le_refl _) (by simp),rfl,hs,.refl,.refl⟩
        · rename_i hn0
          split at e <;> simp only [Option.some.injEq,Prod.mk.injEq,reduceCtorEq] at e
          rename_i hfit
          obtain ⟨hfit,hpos,hz⟩:=hfit
          obtain ⟨rfl,rfl⟩:=e
          obtain ⟨z,hz,hzs⟩:=zeroOk_some hz
          obtain ⟨cap,w',a1,a2,a3,a4,a5,a6⟩:=append_grows (gty:=gty) (olds:=#[]) ht ht1 hu hux hd hi hz h0 h1 hnn hrun (λ w' _=>by simp [Builtin.firstCells]) (by omega) (by simpa using hfit)
          simp only [Nat.zero_add] at a1 a2 a6
          refine ⟨_,w',_,a1,?_,hs.newRow (rc:=#[]++news++Builtin.zeroCells z.cells (cap - n)) rfl hs.sim (λ k ob ob' e e'=>by rw [e] at e';cases e';rfl) (λ _ _=>rfl) .refl ?_ hall ⟨_,rfl⟩ ?_ (λ p e=>by simp [Mode.par] at e) a3 a4 a5 a6⟩
          · refine new_slice upd_same a2 ?_
            simp only [Array.size_append,zero_cells_size,hzs,List.size_toArray,List.length_nil,hnsz]
            rw [Nat.zero_add,← Nat.add_mul]
            exact Nat.mul_le_mul_right _ (by omega)
          · simp only [Array.toList_append]
            rw [List.nil_append,List.take_append_of_le_length (by simp;omega),List.take_of_length_le (by simp;omega)]
            exact hl
          · simp only [Array.size_append,hnsz,hnl];omega
      · rename_i id off len es cap
        split at e
        · rename_i hfit
          obtain ⟨hfit,hes,hpos,hz⟩:=hfit
          subst hes
          obtain ⟨b,o,s,c,hid,hcap,hlc,hfc,hv⟩:=hsx
          obtain ⟨a,hua,ha⟩:∃ a,u=.slice (some a) len c∧(a=⟨b,o+off,none⟩∨len=0∧c=0):=by
            rcases hv with h | ⟨h1,h2,a,h⟩
            · exact ⟨_,h,.inl rfl⟩
            · exact ⟨a,by rw [h,h1,h2],.inr ⟨h1,h2⟩⟩
          rw [hua] at h0
          have same:len+0≤c→VRel ι (.slice id off (len+0) i.size cap) (.slice (some a) (len+0) c)  :=λ hle=>by
            refine ⟨b,o,s,c,hid,hcap,hle,hfc,?_⟩
            rcases ha with rfl | ⟨rfl,rfl⟩
            · exact .inl rfl
            · exact .inr ⟨rfl,rfl,a,rfl⟩
          have stay:n=0→(Builtin.append_ tys gty us).run P w=.ok (.slice (some a) (len+0) c) w:=λ hn0=>by
            subst hn0
            have hnil:news.toList=[]:=by cases hnl':news.toList with
              | nil=>rfl
              | cons x l=>have:=congrArg List.length hnl';simp at this;omega
            exact append_room ht ht1 hu hux hd hi h0 h1 hnn hf (by omega) (by rw [hnil];rfl)
          split at e
          · -- a capacity that is known
            rename_i c'
            have hcc:=hcap c' rfl
            subst hcc
            unfold appendKnown at e
            split at e
            · rename_i hroom
              split at e
              · simp only [Option.some.injEq,Prod.mk.injEq] at e
                obtain ⟨rfl,rfl⟩:=e
                have hn0:n=0:=by
                  simp only [List.length_nil] at hnl
                  rcases Nat.mul_eq_zero.1 hnl.symm with h | h
                  · exact h
                  · omega
                subst hn0
                exact ⟨_,w,ι,stay rfl,same (by omega),hs,.refl,.refl⟩
              · rename_i hne
                split at e
                · rename_i h2 hst
                  simp only [Option.some.injEq,Prod.mk.injEq] at e
                  obtain ⟨rfl,rfl⟩:=e
                  have hn0:n≠0:=λ h=>hne (by rw [h] at hnl;simpa using hnl)
                  have ha:a=⟨b,o+off,none⟩:=ha.resolve_right λ hz=>by omega
                  subst ha
                  obtain ⟨w',a1,a2⟩:=hs.store (P:=P) hid hst hl hall
                  refine ⟨_,w',ι,append_room ht ht1 hu hux hd hi h0 h1 hnn hf hroom (w':=w') ?_,⟨b,o,s,c,hid,hcap,hroom,hfc,.inl rfl⟩,a2⟩
                  show (storeCells ((⟨b,o+off,none⟩:Addr).add (len * i.size)) news.toList).run P w=_
                  rw [add_spot,Nat.add_assoc]
                  exact a1
                · simp at e
            · rename_i hroom
              split at e
              · rename_i cs hr
                split at e <;> simp only [Option.some.injEq,Prod.mk.injEq,reduceCtorEq] at e
                rename_i old hold
                obtain ⟨rfl,rfl⟩:=e
                obtain ⟨z,hz,hzs⟩:=zeroOk_some hz
                obtain ⟨olds,r1,r2,r3,_,r5⟩:=first_run (P:=P) (n:=len) (k:=len) (size:=i.size) (new:=old) hs.sim (x:=.slice id off len i.size (some c)) (u:=u) ⟨b,o,s,c,hid,hcap,hlc,hfc,hv⟩ rfl (Nat.le_refl _) (by
                  simp only [srcCells,hr,hold])
                rw [hua] at r1
                obtain ⟨cap,w',a1,a2,a3,a4,a5,a6⟩:=append_grows (gty:=gty) ht ht1 hu hux hd hi hz h0 h1 hnn hrun r1 (by omega) hfit
                have hol:olds.size=len * i.size:=by have:=r2.length;simp at this;omega
                refine ⟨_,w',_,a1,?_,hs.newRow (rc:=olds++news++Builtin.zeroCells z.cells (cap - (len+n))) rfl hs.sim (λ k ob ob' e e'=>by rw [e] at e';cases e';rfl) (λ _ _=>rfl) .refl ?_ (by rw [List.all_append,r3,hall];rfl) ⟨_,rfl⟩ ?_ (λ p e=>by simp [Mode.par] at e) a3 a4 a5 a6⟩
                · refine new_slice upd_same a2 ?_
                  simp only [Array.size_append,zero_cells_size,hzs,hol,hnsz]
                  rw [← Nat.add_mul,← Nat.add_mul]
                  exact Nat.mul_le_mul_right _ (by omega)
                · simp only [Array.toList_append]
                  rw [List.take_append_of_le_length (by simp;omega),List.take_of_length_le (by simp;omega)]
                  exact r2.append hl
                · simp only [Array.size_append,List.length_append,hol,hnsz,r5,hnl];omega
              · simp at e
          · split at e
            · rename_i hn0
              simp only [Option.some.injEq,Prod.mk.injEq] at e
              obtain ⟨rfl,rfl⟩:=e
              exact ⟨_,w,ι,stay hn0,same (by omega),hs,.refl,.refl⟩
            · rename_i hn0
              exact grow_run hs ht ht1 hu hux hd hi h0 h1 hid hlc hfc ha hpos hz hfit hn0 hl hall hnl hnn hrun e
        · simp at e
      · simp at e
theorem mPair_call {x:Option (SV × H)} {f:FuncId} {vs:List SV}:mPair x≠some (.call f vs):=by
  cases x with
  | none=>simp [mPair]
  | some y=>obtain ⟨a,b⟩:=y;simp [mPair]
theorem mVal_call {x:Option H} {f:FuncId} {vs:List SV}:mVal x≠some (.call f vs):=by
  cases x <;> simp [mVal]
theorem two_rel {a b:SV} {us:Array Value} (h:LRel ι [a,b] us.toList):∃ u y,us[0]?=some u∧us[1]?=some y∧VRel ι a u∧VRel ι b y:=by
  obtain ⟨u,r,e,h1,y,r',e',h2,_⟩:=h
  exact ⟨u,y,by rw [← Array.getElem?_toList,e];rfl,by rw [← Array.getElem?_toList,e,e'];rfl,h1,h2⟩
theorem m_append {tys:Array TypeId} {gty:TypeId} {args:List Operand} {us:Array Value} {v:SV} (hs:St B ι h w) {vs:Option (List SV)} (hvs:∀ l,vs=some l→LRel ι l us.toList) (e:mAppend P h tys.toList vs=some (.val v h')) :
    MOk B ι h w v h' ((do Pure.pure (Next.value (← Builtin.append_ tys gty us)):Sem Next).run P w):=by
  unfold mAppend at e
  split at e
  · rename_i s x ty ux rest htys
    have ht:tys[0]?=some ty:=by rw [← Array.getElem?_toList,htys];rfl
    have ht1:tys[1]?=some ux:=by rw [← Array.getElem?_toList,htys];rfl
    obtain ⟨u,y,h0,h1,hsx,hx⟩:=two_rel (hvs _ rfl)
    split at e
    · simp at e
    · rename_i el d hd hu hux
      split at e
      · rename_i i hi
        obtain ⟨v',w',ι',a1,a2,a3⟩:=append_run (gty:=gty) hs ht ht1 hu hux (λ k hk=>hd k hk) hi h0 h1 hsx hx (mPair_some e)
        exact ⟨.value v',v',w',ι',by simp [a1],.inl rfl,a2,a3⟩
      · simp at e
    · simp at e
  · simp at e
theorem m_copy {tys:Array TypeId} {gty:TypeId} {us:Array Value} {v:SV} (hs:St B ι h w) {vs:Option (List SV)} (hvs:∀ l,vs=some l→LRel ι l us.toList) (e:mCopy P h tys.toList vs=some (.val v h')) :
    MOk B ι h w v h' ((do Pure.pure (Next.value (← Builtin.copy_ tys gty us)):Sem Next).run P w):=by
  unfold mCopy at e
  split at e
  · rename_i d x ty rest htys
    have ht:tys[0]?=some ty:=by rw [← Array.getElem?_toList,htys];rfl
    obtain ⟨u,y,h0,h1,hd,hx⟩:=two_rel (hvs _ rfl)
    split at e
    · rename_i el n m hu hn hm
      split at e
      · rename_i i hi
        split at e
        · rename_i new hc
          exact copy_run hs ht hu hi h0 h1 hd hx hn hm hc e
        · simp at e
      · simp at e
    · simp at e
  · simp at e
theorem one_rel {a:SV} {us:Array Value} (h:LRel ι [a] us.toList):∃ u,us[0]?=some u∧VRel ι a u:=by
  obtain ⟨u,r,e,h1,_⟩:=h
  exact ⟨u,by rw [← Array.getElem?_toList,e];rfl,h1⟩
theorem m_clear {tys:Array TypeId} {gty:TypeId} {us:Array Value} {v:SV} (hs:St B ι h w) {vs:Option (List SV)} (hvs:∀ l,vs=some l→LRel ι l us.toList) (e:mClear P h tys.toList vs=some (.val v h')) :
    MOk B ι h w v h' ((do Pure.pure (Next.value (← Builtin.clear_ tys gty us)):Sem Next).run P w):=by
  unfold mClear at e
  split at e
  · rename_i x ty rest htys
    have ht:tys[0]?=some ty:=by rw [← Array.getElem?_toList,htys];rfl
    obtain ⟨u,h0,hx⟩:=one_rel (hvs _ rfl)
    split at e
    · rename_i el hu
      split at e
      · rename_i z i hz hi
        split at e
        · rename_i hb
          obtain ⟨hb3,hb4⟩:=hb
          obtain ⟨i',zv,hi',hzv,hzl,hza⟩:=zeroCellsOf_some (ι:=ι) hz
          rw [hi] at hi'
          cases hi'
          have fin:∀ base n c' w',u=.slice base n c'→(match base,n with | none,_=>Pure.pure () | some _,0=>Pure.pure () | some a,n=>storeCells a (Builtin.zeroCells zv.cells n).toList:Sem Unit).run P w=.ok () w'→v=.tuple []→Moves B ι h w ι h' w' →
              MOk B ι h w v h' ((do Pure.pure (Next.value (← Builtin.clear_ tys gty us)):Sem Next).run P w):=by
            intro base n c' w' hu' hst hv hmv
            refine ⟨.value (.tuple #[]),.tuple #[],w',ι,?_,.inl rfl,by rw [hv];simp [VRel,LRel],hmv⟩
            subst hu'
            cases base with
            | none=>simp at hst;subst hst;simp [Builtin.clear_,ht,h0,r_underlying hu]
            | some a=>cases n with
              | zero=>simp at hst;subst hst;simp [Builtin.clear_,ht,h0,r_underlying hu]
              | succ n=>simp only at hst;simp [Builtin.clear_,ht,h0,r_underlying hu,r_zero hi hzv,hst]
          cases x <;> simp only [clearTo,reduceCtorEq] at e
          case nilslice=>
            simp only [Option.some.injEq,MR.val.injEq] at e
            obtain ⟨rfl,rfl⟩:=e
            simp only [VRel] at hx
            exact fin none 0 0 w hx rfl rfl ⟨hs,.refl,.refl⟩
          case slice id off len es cap=>
            obtain ⟨b,o,s,c,hid,_,_,_,hv⟩:=hx
            have hzr:=zeros_rel hzl (by omega) len
            have hall:=repeat_all hza len
            have hlen:(repeatCells z len).length=len * z.length:=repeat_length len
            split at e
            · rename_i hnil
              simp only [Option.some.injEq,MR.val.injEq] at e
              obtain ⟨rfl,rfl⟩:=e
              have hl0:len=0:=by
                rw [hnil] at hlen
                rcases Nat.mul_eq_zero.1 hlen.symm with h | h
                · exact h
                · omega
              subst hl0
              rcases hv with hv | ⟨h1,h2,a,hv⟩
              · exact fin _ 0 _ w hv rfl rfl ⟨hs,.refl,.refl⟩
              · exact fin _ 0 _ w hv rfl rfl ⟨hs,.refl,.refl⟩
            · rename_i hne
              obtain ⟨len,rfl⟩:∃ m,len=m+1:=⟨len - 1,by
                have:len≠0:=λ e=>hne (by subst e;rfl)
                omega⟩
              cases hst:storeCellsS h id off (repeatCells z (len+1)) with
              | none=>rw [hst] at e;simp [mVal] at e
              | some h2=>
                rw [hst] at e
                simp only [mVal,Option.some.injEq,MR.val.injEq] at e
                obtain ⟨rfl,rfl⟩:=e
                have hz2:LRel ι (repeatCells z (len+1)) (Builtin.zeroCells zv.cells (len+1)).toList:=by
                  have hsz:zv.cells.size=z.length:=by have:=hzl.length;simpa using this
                  have:Builtin.zeroCells zv.cells (len+1)=(Array.range ((len+1) * z.length)).map (zv.cells[· % zv.cells.size]!):=by
                    unfold Builtin.zeroCells
                    rw [hsz]
                  rw [this];exact hzr
                obtain ⟨w',a1,a2⟩:=hs.store (P:=P) hid hst hz2 hall
                rcases hv with hv | ⟨h1,h2,a,hv⟩
                · exact fin _ _ _ w' hv a1 rfl a2
                · omega
        · simp at e
      · simp at e
    · simp at e
  · simp at e
theorem clearTo_call {z:List SV} {x:SV} {f:FuncId} {vs:List SV}:clearTo h z x≠some (.call f vs):=by
  unfold clearTo
  repeat' split
  all_goals first | exact mVal_call | simp
theorem copyTo_call {d:SV} {k:Nat} {new:List SV} {f:FuncId} {vs:List SV}:copyTo h d k new≠some (.call f vs):=by
  unfold copyTo
  repeat' split
  all_goals simp
theorem m_conv {s d:TypeId} {x:Operand} {v:SV} (hs:St B ι h w) (hρ:Ops ι t ρ [x]) (e:mConv P h s d (opd t x)=some (.val v h')) :
    MOk B ι h w v h' ((do Pure.pure (Next.value (← convert s d (ρ x))):Sem Next).run P w):=by
  unfold mConv at e
  split at e
  · rename_i u e0 el hx hus hud
    split at e
    · rename_i hsd hue
      have e1:=mPair_some e
      have hvx:=hρ x (by simp) _ hx
      unfold frozeS at e1
      split at e1
      · rename_i id off len es cap
        split at e1
        · rename_i cs hpos hg
          simp only [Option.some.injEq,Prod.mk.injEq] at e1
          obtain ⟨rfl,rfl⟩:=e1
          have hlen:0 < len:=Nat.le_of_ble_eq_true hpos
          have hvx':=hvx
          obtain ⟨b,o,sz,c,hi,_,_,_,hv | ⟨h0,_⟩⟩:=hvx'
          · obtain ⟨rc,el',hb,_,_⟩:=fixed_real hs.sim hi hg
            have hid:=H.get_lt hg
            have hget:∀ k,(h.put id (.cells cs (.grown none))).get k=if k=id then some (.cells cs (.grown none)) else h.get k:=λ k=>H.get_put h id _ k hid
            have hsim:=hs.sim.froze (g':=(h.put id (.cells cs (.grown none))).get) hi hg (by rw [hget,if_pos rfl]) (λ k hk=>by rw [hget,if_neg hk]) hb
            have hdd:s=d:=Nat.eq_of_beq_eq_true hsd
            subst hdd
            have hee:=hus.symm.trans hud
            simp only [Option.some.injEq,TypeDesc.slice.injEq] at hee
            subst hee
            refine ⟨.value (ρ x),ρ x,_,ι,?_,.inl rfl,hvx,.of hs hsim (by intro k y hk;exact hs.fresh k y hk) (by rw [putBlk_size];exact hs.base) ?_ ?_⟩
            · have hsh:w.shape? b=some (el',rc.size):=by simp [World.shape?,hb]
              simp [convert,r_underlying hus,r_underlying hue,hv,markStringish,hsh,freeze_put hb]
            · refine ⟨Inj.le_refl _,Nat.le_refl _,λ _ _ h=>.inl h,λ _ _ _=>by simp only [H.next_put] at *;omega,rfl,rfl,rfl,by rw [putBlk_size];exact Nat.le_refl _,λ k hk hx=>?_,λ _ _ h h'=>by rw [h] at h';simp at h',
                λ k y ob ob' hk hgk hgk'=>?_,λ k hk hn=>?_⟩
              · refine putBlk_other λ e=>?_
                subst e
                exact absurd (hx id _ _ hi rfl hg) (by simp [SObj.isExt])
              · rw [hget] at hgk'
                split at hgk'
                · rename_i e;subst e;rw [hg] at hgk;cases hgk;cases hgk';simp [SObj.isExt]
                · rw [hgk] at hgk';cases hgk';exact Iff.rfl
              · rw [hget,if_neg];rintro rfl;rw [hi] at hn;simp at hn
            · refine ⟨Nat.min_le_left _ _,Nat.le_refl _,λ k hk _=>?_⟩
              rw [hget,if_neg]
              · exact .refl
              · rintro rfl;exact absurd hk (Nat.not_lt.2 (Nat.min_le_right _ _))
          · omega
        · simp at e1
      · simp at e1
    · simp at e
  · simp at e
theorem opM_sound {o:Oper} {v:SV} (hs:St B ι h w) (hρ:Ops ι t ρ o.op.operands.toList) (e:opM P h t o.op=some (.val v h')):MOk B ι h w v h' ((execOp ρ o).run P w):=by
  obtain ⟨dst,op,ty,pos,after,guard⟩:=o
  cases op <;> simp only [opM,reduceCtorEq] at e
  case convert s d x=>exact m_conv hs hρ e
  case store t a x=>exact m_store hs hρ e
  case mapUpdate t m k x=>exact m_mapPut hs hρ e
  case insert t m k x=>exact m_mapPut hs hρ e
  case mapEntry t m k=>exact m_mapEntry hs hρ e
  case entryStore t m s x=>exact m_entryStore hs hρ e
  case call c=>
    obtain ⟨callee,args,argTypes⟩:=c
    have hargs:∀ x,x ∈ args.toList→x ∈ (Call.operands ⟨callee,args,argTypes⟩).toList:=by
      intro x hx;cases callee <;> simp [Call.operands] <;> first | exact .inr (by simpa using hx) | (right;simpa using hx) | simpa using hx
    have hvs:∀ l,opds t args.toList=some l→LRel ι l (args.map ρ).toList:=λ l e=>by
      have:=Ops.list hρ hargs e
      simpa using this
    unfold mCall at e
    dsimp only at e
    split at e
    · unfold mCallV at e
      split at e <;> simp at e
    · obtain ⟨n,v',w',ι',a1,a2⟩:=m_append (gty:=ty) (us:=args.map ρ) (args:=[]) hs hvs e
      refine ⟨n,v',w',ι',?_,a2⟩
      rw [← a1]
      simp [execOp,resolve,invoke,builtin]
    · obtain ⟨n,v',w',ι',a1,a2⟩:=m_copy (gty:=ty) (us:=args.map ρ) hs hvs e
      refine ⟨n,v',w',ι',?_,a2⟩
      rw [← a1]
      simp [execOp,resolve,invoke,builtin]
    · obtain ⟨n,v',w',ι',a1,a2⟩:=m_clear (gty:=ty) (us:=args.map ρ) hs hvs e
      refine ⟨n,v',w',ι',?_,a2⟩
      rw [← a1]
      simp [execOp,resolve,invoke,builtin]
    · simp at e
theorem opM_call {o:Oper} {f:FuncId} {vs:List SV} (hρ:Ops ι t ρ o.op.operands.toList) (e:opM P h t o.op=some (.call f vs)) :
    ∃ us:Array Value,(execOp ρ o).run P w=(callFunc f us).run P w∧LRel ι vs us.toList:=by
  obtain ⟨dst,op,ty,pos,after,guard⟩:=o
  cases op <;> simp only [opM,reduceCtorEq] at e
  case store t a x=>
                      unfold mStore at e;repeat' split at e
                      all_goals first | exact absurd e mVal_call | simp at e
  case convert s d x=>
                        unfold mConv at e;repeat' split at e
                        all_goals first | exact absurd e mPair_call | simp at e
  case mapUpdate t m k x=>
                            unfold mMapPut at e;repeat' split at e
                            all_goals first | exact absurd e mVal_call | simp at e
  case insert t m k x=>
                         unfold mMapPut at e;repeat' split at e
                         all_goals first | exact absurd e mVal_call | simp at e
  case mapEntry t m k=>
                         unfold mMapEntry at e;repeat' split at e
                         all_goals first | exact absurd e mPair_call | simp at e
  case entryStore t m s x=>
                             unfold mEntryStore at e;repeat' split at e
                             all_goals first | exact absurd e mVal_call | simp at e
  case call c=>
    obtain ⟨callee,args,argTypes⟩:=c
    have hargs:∀ x,x ∈ args.toList→x ∈ (Call.operands ⟨callee,args,argTypes⟩).toList:=by
      intro x hx;cases callee <;> simp [Call.operands] <;> first | exact .inr (by simpa using hx) | (right;simpa using hx) | simpa using hx
    unfold mCall at e
    dsimp only at e
    split at e
    · rename_i fo
      unfold mCallV at e
      split at e <;> simp only [Option.some.injEq,MR.call.injEq,reduceCtorEq] at e
      rename_i f' cap l hf hl
      obtain ⟨rfl,rfl⟩:=e
      have hfo:=hρ fo (by simp [Op.operands,Call.operands]) _ hf
      obtain ⟨cs,ef,hcs⟩:=hfo
      have hl':=Ops.list hρ hargs hl
      refine ⟨args.map ρ++cs,?_,?_⟩
      · simp [execOp,resolve,ef,Deferred.ofValue,invoke]
      · rw [Array.toList_append]
        exact LRel.append (by simpa using hl') hcs
    · unfold mAppend at e
      repeat' split at e
      all_goals first | exact absurd e mPair_call | simp at e
    · unfold mCopy at e
      repeat' split at e
      all_goals first | exact absurd e copyTo_call | simp at e
    · unfold mClear at e
      repeat' split at e
      all_goals first | exact absurd e clearTo_call | simp at e
    · simp at e
end
end Go.Sh
end
section
/- The shadow machine: one operation of a region; regions in the order of the text. -/
namespace Go.Sh
section
variable [Held] {P:Program} {w:World} {ι:Inj} {B:Nat} {g:Nat→Option SObj} {h h':H} {t t':T} {a:Act} {ops:Array Oper} {Q:Exit→Act→World→Prop}
def Seen (ι:Inj) (t:T) (a:Act) (l:List Tmp):Prop:=∀ d,d ∈ l→∀ x,t.get d=some x→∃ v,a.tmps[d]?=some v∧VRel ι x v
structure TRel (ι:Inj) (t:T) (n:Nat) (a:Act):Prop where
  size:a.tmps.size=n
  defers:a.defers=[]
  rel:∀ d x,t.get d=some x→∃ v,a.tmps[d]?=some v∧VRel ι x v
theorem TRel.seen {n:Nat} (h:TRel ι t n a) (l:List Tmp):Seen ι t a l:=λ d _ x e=>h.rel d x e
theorem Seen.opsOf {o:Oper} (h:Seen ι t a (o.looksAt ops)):Ops ι t a.eval o.op.operands.toList:=by
  intro x hx v e
  cases x with
  | tmp d=>
    obtain ⟨u,hu,hr⟩:=h d (List.mem_append_left _ (List.mem_filterMap.2 ⟨.tmp d,hx,rfl⟩)) v e
    simpa [Act.eval,Array.getD_eq_getD_getElem?,hu] using hr
  | const c=>exact ofConst_rel e
  | global g=>simp [opd] at e
  | func f=>
    simp only [opd,Option.some.injEq] at e
    subst e
    exact ⟨#[],rfl,rfl⟩
theorem wanted_real {o:Oper} {c:Bool} (h:Seen ι t a (o.looksAt ops)) (e:wantedS ops.toList t o=some c):Region.wanted o (yielded ops a.tmps)=c:=by
  unfold wantedS at e
  unfold Region.wanted
  cases hg:o.guard with
  | none=>simp only [hg,Option.some.injEq] at e ⊢;exact e
  | some q=>
    obtain ⟨j,want⟩:=q
    simp only [hg] at e ⊢
    unfold yieldedS at e
    unfold yielded
    rw [Array.getElem?_toList] at e
    cases hd:(ops[j]?).bind (·.dst) with
    | none=>simp only [hd,Option.some.injEq,Option.bind_none] at e ⊢;subst e;rfl
    | some d=>
      simp only [hd,Option.bind_some] at e ⊢
      cases hx:t.get d with
      | none=>simp [hx] at e
      | some x=>
        obtain ⟨u,hu,hr⟩:=h d (List.mem_append_right _ (by simp [hg,hd])) x hx
        rw [hu]
        cases x <;> simp only [hx,Option.some.injEq] at e <;> simp only [VRel] at hr
        case bool b=>subst hr;subst e;cases b <;> cases want <;> rfl
        all_goals
          subst e
          have:∀ b,u≠.bool b:=by
            intro b hb
            subst hb
            first
              | (simp at hr;done)
              | (obtain ⟨_,_,_,_,h⟩:=hr;simp at h;done)
              | (obtain ⟨_,_,_,_,_,_,_,_,h | ⟨_,_,_,h⟩⟩:=hr <;> simp at h;done)
              | (obtain ⟨_,h,_⟩:=hr;simp at h;done)
          cases u <;> first | rfl | exact absurd rfl (this _)
theorem put_rel {n:Nat} {dst:Option Tmp} {x:SV} {v:Value} (h:TRel ι t n a) (hv:VRel ι x v) (e:putT n t dst x=some t'):TRel ι t' n (a.put dst v):=by
  unfold putT at e
  cases dst with
  | none=>simp only [Option.some.injEq] at e;subst e;exact h
  | some d=>
    simp only at e
    split at e <;> simp only [Option.some.injEq,reduceCtorEq] at e
    rename_i hd
    subst e
    refine ⟨by simp [Act.put,h.size],h.defers,λ k y hk=>?_⟩
    rw [Tr.get_set] at hk
    simp only [Act.put]
    by_cases ek:k=d
    · subst ek
      rw [if_pos rfl] at hk;cases hk
      exact ⟨v,by simp [h.size,hd],hv⟩
    · rw [if_neg ek] at hk
      obtain ⟨u,hu,hr⟩:=h.rel k y hk
      exact ⟨u,by rw [Array.getElem?_setIfInBounds_ne (Ne.symm ek)];exact hu,hr⟩
theorem TRel.mono {ι':Inj} {n:Nat} (h:TRel ι t n a) (hl:ι.le ι'):TRel ι' t n a:=
  ⟨h.size,h.defers,λ d x e=>let ⟨v,h1,h2⟩:=h.rel d x e;⟨v,h1,h2.mono hl⟩⟩
def Answers (P:Program) (f:FuncId) (us:Array Value) (w:World) (R:Value→World→Prop):Prop:=
  ((callFunc f us).run P w=.ok (.enter f us) w∧Calls P f us w λ en w'=>∃ v',en=.returned v'∧R v' w')∨∃ v' w',(callFunc f us).run P w=.ok (.value v') w'∧R v' w'
def CallOK (P:Program) (e:Ev):Prop:=∀ f args h v h',e.call f args h=some (v,h')→∀ B ι w (us:Array Value),St B ι h w→LRel ι args us.toList →
  Answers P f us w λ v' w'=>∃ ι',VRel ι' v v'∧Moves B ι h w ι' h' w'
theorem m_real {e:Ev} {o:Oper} {v:SV} {K:Act→World→Prop} (he:CallOK P e) (hs:St B ι h w) (hl:Seen ι t a (o.looksAt ops)) (hm:runM e h (opM P h t o.op)=some (v,h'))
    (hK:∀ v' w' ι',VRel ι' v v'→Moves B ι h w ι' h' w'→K (a.put o.dst v') w'):o.wp P a w K Q:=by
  unfold runM at hm
  split at hm
  · rename_i v1 h1 e1
    simp only [Option.some.injEq,Prod.mk.injEq] at hm
    obtain ⟨rfl,rfl⟩:=hm
    obtain ⟨n,v',w',ι',a1,a2,a3,a4⟩:=opM_sound hs hl.opsOf e1
    unfold Oper.wp
    rw [a1]
    rcases a2 with rfl | ⟨rfl,rfl⟩
    · exact hK _ _ _ a3 a4
    · exact hK _ _ _ a3 a4
  · rename_i f args e1
    obtain ⟨us,a1,a2⟩:=opM_call (P:=P) (w:=w) hl.opsOf e1
    unfold Oper.wp
    rw [a1]
    rcases he _ _ _ _ _ hm B ι w us hs a2 with ⟨b1,b2⟩ | ⟨v',w',b1,ι',h1,h2⟩
    · rw [b1]
      refine Calls.mono b2 λ en w' ⟨v',e2,ι',h1,h2⟩=>?_
      subst e2
      exact hK _ _ _ h1 h2
    · rw [b1]
      exact hK _ _ _ h1 h2
  · simp at hm
theorem New.moves {w':World} {ob:SObj} {mk:Nat→SV} {v:Value} (hs:St B ι h w) (hn:New ι w w' ob mk v):∃ ι',Moves B ι h w ι' (h.push ob) w'∧VRel ι' (mk h.next) v:=by
  have hi:ι h.next=none:=fresh_none hs.fresh (Nat.le_refl _)
  obtain ⟨s,hrel⟩:=hn.rel
  obtain ⟨hv,hor⟩:=hrel h.next hi
  have hget:∀ k,(h.push ob).get k=if k=h.next then some ob else h.get k:=λ k=>H.get_push _ _ _
  refine ⟨upd ι h.next (w.heap.size,0,s),.of hs ?_ (λ k x hk=>?_) (by rw [hn.size];have:=hs.base;omega) ?_ low_push,hv⟩
  · exact hs.sim.new hs.base hn.old hn.size hi (by rw [hget,if_pos rfl]) (λ k hk=>by rw [hget,if_neg hk]) (λ cs q e=>by rw [get_next (Nat.le_refl _)] at e;simp at e)
      (λ cs m p e hp=>by rw [hn.par _ _ e] at hp;simp at hp) hor
  · show k < h.next+1
    by_cases e:k=h.next
    · omega
    · have:=hs.fresh k x (by simpa [upd,e] using hk);omega
  · exact new_ext (g:=h.get) (g':=(h.push ob).get) (s:=s) (ob:=ob) hs.sim hi hs.fresh hn.old hn.size hn.os hn.tape hn.output (λ k ob ob' hk e e'=>by
      rw [hget,if_neg hk,e] at e';cases e';rfl) (λ k hk e=>by rw [hget,if_neg (by omega)])
theorem Moves.refl (hs:St B ι h w):Moves B ι h w ι h w:=⟨hs,.refl,.refl⟩
theorem Moves.trans {ι1 ι2:Inj} {h1 h2:H} {w1 w2:World} (hs:St B ι h w) (x:Moves B ι h w ι1 h1 w1) (y:Moves B ι1 h1 w1 ι2 h2 w2):Moves B ι h w ι2 h2 w2:=
  ⟨y.st,x.ext.trans (B:=B) hs.fresh hs.sim x.st.sim y.st.sim y.ext,x.low.trans y.low⟩
theorem lower_some {m low:Nat} {r:Option (SV × H)} {v:SV} (e:lower m low r=some (v,h')):∃ h1,r=some (v,h1)∧m≤h1.low∧h'.next=h1.next∧h'.low=min low m∧h'.get=h1.get:=by
  unfold lower at e
  split at e
  · rename_i v1 h1
    split at e <;> simp only [Option.some.injEq,Prod.mk.injEq,reduceCtorEq] at e
    rename_i hl
    obtain ⟨rfl,rfl⟩:=e
    exact ⟨h1,rfl,by omega,rfl,rfl,rfl⟩
  · simp at e
theorem Moves.lower {m:Nat} {h1:H} {ι':Inj} {w':World} (x:Moves B ι ⟨h.next,m,h.tr⟩ w ι' h1 w') (hm:m≤h1.low) (h2:h'.next=h1.next) (h3:h'.low=min h.low m) (h4:h'.get=h1.get) :
    Moves B ι h w ι' h' w'∧∀ id,id < m→id < h.next→Like (h.get id) (h'.get id):=by
  have hk:∀ id,id < m→id < h.next→Like (h.get id) (h'.get id):=λ id h1 h2=>by
    rw [h4]
    exact x.low.keeps id (by omega) h2
  exact ⟨⟨⟨by rw [h4];exact x.st.sim,by rw [h2];exact x.st.fresh,x.st.base,x.st.held⟩,by rw [h2,h4];exact x.ext,by rw [h3];exact Nat.min_le_left _ _,by rw [h2];exact x.low.next,λ id h1 h2=>hk id (by omega) h2⟩,hk⟩
theorem SameP.run {op:Op} (q:SameP P t h op) (e:Ev) (m:Nat):∃ h2,runM e ⟨h.next,m,h.tr⟩ (opM P ⟨h.next,m,h.tr⟩ t op)=some (.tuple [],h2)∧h2.get=h.get∧h2.next=h.next:=by
  obtain ⟨ty,a,x,id,off,v,vs,cs,i,rfl,h1,h2,h3,h4,h5,h6,h7,h8⟩:=q
  have hg:(⟨h.next,m,h.tr⟩:H).get id=some (.cells cs .fixed):=h6
  have hs:storeCellsS ⟨h.next,m,h.tr⟩ id off vs=some ((⟨h.next,m,h.tr⟩:H).put id (.cells cs .fixed)):=by
    unfold storeCellsS
    rw [hg]
    simp only [if_pos h7,h8]
  refine ⟨(⟨h.next,m,h.tr⟩:H).put id (.cells cs .fixed),?_,?_,rfl⟩
  · show runM e _ (mStore P ⟨h.next,m,h.tr⟩ ty (opd t a) (opd t x))=_
    unfold mStore
    rw [h1,h2]
    simp only [h3,h4,if_pos h5,hs]
    rfl
  · funext q
    rw [H.get_put _ _ _ _ (H.get_lt hg)]
    split
    · rename_i e;subst e;exact hg.symm
    · rfl
theorem runS_some {m:Nat} {e:Ev} {op:Op} {v:SV} {h':H} (q:runS P e m t h op=some (v,h')):(∃ h1,runM e ⟨h.next,m,h.tr⟩ (opM P ⟨h.next,m,h.tr⟩ t op)=some (v,h1)∧m≤h1.low∧h'.next=h1.next∧h'.low=min h.low m∧h'.get=h1.get)∨(SameP P t h op∧v=.tuple []∧h'=h):=by
  unfold runS at q
  split at q
  · rename_i r hr
    cases q
    exact .inl (lower_some hr)
  · split at q
    · rename_i hp
      cases q
      exact .inr ⟨hp,rfl,rfl⟩
    · cases q
theorem Moves.same {h0 h2:H} {ι':Inj} {w':World} (x:Moves B ι h0 w ι' h2 w') (e0:h0.get=h.get) (n0:h0.next=h.next) (e2:h2.get=h.get) (n2:h2.next=h.next):Moves B ι h w ι' h w':=by
  refine ⟨⟨e2 ▸ x.st.sim,n2 ▸ x.st.fresh,x.st.base,x.st.held⟩,?_,.refl⟩
  have:=x.ext
  rw [e0,n0,e2,n2] at this
  exact this
theorem St.setLow {m:Nat} (hs:St B ι h w):St B ι ⟨h.next,m,h.tr⟩ w:=⟨hs.sim,hs.fresh,hs.base,hs.held⟩
theorem getTo_keeps {m:Nat}:Keeps (getTo h m) h.get:=.of_eq λ id ob e=>by unfold getTo at e;split at e <;> first | exact e | simp at e
theorem step_text {e:Ev} {n:Nat} {strict:Option Nat} {o:Oper} {i:Nat} {K:Act→World→Prop} (he:CallOK P e) (hs:St B ι h w) (ht:TRel ι t n a) (hi:ops[i]?=some o)
    (hstep:wantRun (wantedS ops.toList t o) (opStep P e n strict o t h) (skipT n o.dst t h)=some (t',h'))
    (hK:∀ ι' a' w',Moves B ι h w ι' h' w'→TRel ι' t' n a'→K a' w'):wpOp P ops Q i K a w:=by
  unfold wpOp
  simp only [hi]
  have hl:=ht.seen (o.looksAt ops)
  unfold wantRun at hstep
  have newcase:∀ g,Keeps g h.get→∀ r,opN P g t o.op=some r→stepN n o.dst t h r=some (t',h')→o.wp P a w K Q:=by
    intro g hg r hr hst
    have:=opN_sound hs.sim hl.opsOf (hg.opN hr)
    cases r with
    | val v=>
      obtain ⟨v',a1,a2⟩:=this
      simp only [stepN,Option.map_eq_some_iff,Prod.mk.injEq] at hst
      obtain ⟨t1,hp,rfl,rfl⟩:=hst
      unfold Oper.wp;rw [a1]
      exact hK ι _ w (.refl hs) (put_rel ht a2 hp)
    | new ob mk=>
      obtain ⟨v',w',a1,a2⟩:=this
      simp only [stepN,Option.map_eq_some_iff,Prod.mk.injEq] at hst
      obtain ⟨t1,hp,rfl,rfl⟩:=hst
      obtain ⟨ι',b1,b2⟩:=a2.moves hs
      unfold Oper.wp;rw [a1]
      exact hK ι' _ w' b1 (put_rel (ht.mono b1.ext.inj) b2 hp)
  have mcase:∀ h1 v h2,St B ι h1 w→runM e h1 (opM P h1 t o.op)=some (v,h2)→(∀ ι' w',Moves B ι h1 w ι' h2 w'→Moves B ι h w ι' h' w')→putT n t o.dst v=some t'→o.wp P a w K Q:=by
    intro h1 v h2 hs1 hr hmv hp
    exact m_real (ops:=ops) he hs1 hl hr λ v' w' ι' b1 b2=>hK ι' _ w' (hmv _ _ b2) (put_rel (ht.mono (hmv _ _ b2).ext.inj) b1 hp)
  split at hstep
  · rename_i hw
    rw [if_pos (wanted_real hl hw)]
    refine .inl ?_
    unfold opStep at hstep
    split at hstep
    · split at hstep
      · rename_i r hr
        exact newcase _ (.of_eq λ _ _ h=>h) r hr hstep
      · unfold stepV at hstep
        split at hstep
        · rename_i v h1 hr
          simp only [Option.map_eq_some_iff,Prod.mk.injEq] at hstep
          obtain ⟨t1,hp,rfl,rfl⟩:=hstep
          exact mcase h v h1 hs hr (λ _ _ h=>h) hp
        · simp at hstep
    · rename_i m
      split at hstep
      · rename_i r hr
        exact newcase _ getTo_keeps r hr hstep
      · unfold stepV at hstep
        split at hstep
        · rename_i v h1 hr
          simp only [Option.map_eq_some_iff,Prod.mk.injEq] at hstep
          obtain ⟨t1,hp,rfl,rfl⟩:=hstep
          rcases runS_some hr with ⟨h2,e1,e2,e3,e4,e5⟩ | ⟨hq,rfl,rfl⟩
          · exact mcase _ v h2 hs.setLow e1 (λ _ _ b=>(b.lower e2 e3 e4 e5).1) hp
          · obtain ⟨h2,e1,e2,e3⟩:=hq.run e m
            exact mcase _ _ h2 hs.setLow e1 (λ _ _ b=>b.same rfl rfl e2 e3) hp
        · simp at hstep
  · rename_i hw
    rw [if_neg (by rw [wanted_real hl hw];simp)]
    simp only [skipT,Option.map_eq_some_iff,Prod.mk.injEq] at hstep
    obtain ⟨t1,hp,rfl,rfl⟩:=hstep
    exact hK ι _ w (.refl hs) (put_rel ht undef_rel hp)
  · simp at hstep
end
end Go.Sh
end
section
/- The shadow machine: regions in the order of the text; how a run stands, place by place; values of which all is known. -/
namespace Go.Sh
section
variable [Held] {P:Program} {w:World} {ι:Inj} {B:Nat} {h h':H} {t t':T} {a:Act} {ops:Array Oper} {Q:Exit→Act→World→Prop} {e:Ev} {n m:Nat}
theorem runOps_nil {L:List Oper} {plan:List PC} {A:Past}:runOps P e n m L [] plan A t h=some (t,h):=rfl
theorem runOps_cons {L l:List Oper} {o:Oper} {plan:List PC} {A:Past} {r:T × H} (hr:runOps P e n m L (o::l) plan A t h=some r):SoftP P L (headC plan) A o t h ∧
    ∃ t1 h1,wantRun (wantedS L t o) (opStep P e n (strictC m (headC plan)) o t h) (skipT n o.dst t h)=some (t1,h1)∧LateP (headC plan) A h1∧runOps P e n m L l plan.tail (A.next (headC plan) h h1 (lookOf P L (headC plan) plan.tail o t h)) t1 h1=some r:=by
  unfold runOps at hr
  split at hr
  · rename_i hs
    refine ⟨hs,?_⟩
    unfold andThen at hr
    split at hr
    · rename_i t1 h1 h0
      have hr:(@ite _ (LateP (headC plan) A h1) (Classical.propDecidable _) (runOps P e n m L l plan.tail (A.next (headC plan) h h1 (lookOf P L (headC plan) plan.tail o t h)) t1 h1) none)=some r:=hr
      by_cases hl:LateP (headC plan) A h1
      · rw [if_pos hl] at hr
        exact ⟨t1,h1,h0,hl,hr⟩
      · rw [if_neg hl] at hr;cases hr
    · cases hr
  · cases hr
def Step (P:Program) (e:Ev) (n m:Nat) (ops:Array Oper) (plan:List PC) (i:Nat) (o:Oper) (t:T) (h:H) (t':T) (h':H):Prop:=
  ops[i]?=some o∧wantRun (wantedS ops.toList t o) (opStep P e n (strictC m (codeAt plan i)) o t h) (skipT n o.dst t h)=some (t',h')
theorem region_text (he:CallOK P e):∀ (l:List Oper) (k:Nat) (plan:List PC) (A:Past) (ι:Inj) (t:T) (h:H) (a:Act) (w:World),ops.toList.drop k=l→St B ι h w→TRel ι t n a→runOps P e n m ops.toList l plan A t h=some (t',h') →
    (∀ ι' a' w',Moves B ι h w ι' h' w'→TRel ι' t' n a'→Q .normal a' w')→wpOps P ops Q (List.range' k l.length) a w
  | [],k,plan,A,ι,t,h,a,w,_,hs,ht,hr,hQ=>by
    rw [runOps_nil] at hr
    simp only [Option.some.injEq,Prod.mk.injEq] at hr
    obtain ⟨rfl,rfl⟩:=hr
    exact hQ ι a w (.refl hs) ht
  | o::l,k,plan,A,ι,t,h,a,w,hl,hs,ht,hr,hQ=>by
    obtain ⟨_,t1,h1,h0,_,hr⟩:=runOps_cons hr
    have hk:ops[k]?=some o:=by
      have:=congrArg (·[0]?) hl
      rw [← Array.getElem?_toList]
      simpa using this
    have hl':ops.toList.drop (k+1)=l:=by
      have:=congrArg List.tail hl
      simpa [List.tail_drop] using this
    rw [List.length_cons,List.range'_succ,wpOps_cons]
    exact step_text he hs ht hk h0 λ ι' a' w' hm ht'=>region_text he l (k+1) plan.tail _ ι' t1 h1 a' w' hl' hm.st ht' hr λ ι2 a2 w2 hm2 ht2=>hQ ι2 a2 w2 (hm.trans hs hm2) ht2
theorem runOps_seq:∀ (l:List Oper) (k:Nat) (plan plan0:List PC) (A:Past) (t:T) (h:H),ops.toList.drop k=l→plan=plan0.drop k→runOps P e n m ops.toList l plan A t h=some (t',h') →
    ∃ (Ts:Nat→T) (Hs:Nat→H) (As:Nat→Past),Ts k=t∧Hs k=h∧As k=A∧Ts (k+l.length)=t'∧Hs (k+l.length)=h'∧(∀ i,k≤i→i < k+l.length→∃ o,Step P e n m ops plan0 i o (Ts i) (Hs i) (Ts (i+1)) (Hs (i+1))) ∧
      (∀ i,k≤i→i < k+l.length→∀ o,ops[i]?=some o→As (i+1)=(As i).next (codeAt plan0 i) (Hs i) (Hs (i+1)) (lookOf P ops.toList (codeAt plan0 i) (plan0.drop (i+1)) o (Ts i) (Hs i)) ∧
        SoftP P ops.toList (codeAt plan0 i) (As i) o (Ts i) (Hs i)∧LateP (codeAt plan0 i) (As i) (Hs (i+1)))
  | [],k,plan,plan0,A,t,h,_,_,hr=>by
    rw [runOps_nil] at hr
    simp only [Option.some.injEq,Prod.mk.injEq] at hr
    obtain ⟨rfl,rfl⟩:=hr
    exact ⟨λ _=>t,λ _=>h,λ _=>A,rfl,rfl,rfl,rfl,rfl,λ i h1 h2=>by simp at h2;omega,λ i h1 h2=>by simp at h2;omega⟩
  | o::l,k,plan,plan0,A,t,h,hl,hp,hr=>by
    obtain ⟨hsf,t1,h1,h0,hlt,hr⟩:=runOps_cons hr
    have hk:ops[k]?=some o:=by
      have:=congrArg (·[0]?) hl
      rw [← Array.getElem?_toList]
      simpa using this
    have hl':ops.toList.drop (k+1)=l:=by
      have:=congrArg List.tail hl
      simpa [List.tail_drop] using this
    obtain ⟨Ts,Hs,As,a1,a2,a6,a3,a4,a5,a7⟩:=runOps_seq l (k+1) plan.tail plan0 _ t1 h1 hl' (by rw [hp,List.tail_drop]) hr
    have hpt:plan.tail=plan0.drop (k+1):=by rw [hp,List.tail_drop]
    refine ⟨λ i=>if i≤k then t else Ts i,λ i=>if i≤k then h else Hs i,λ i=>if i≤k then A else As i,by simp,by simp,by simp,?_,?_,λ i h1' h2'=>?_,λ i h1' h2' o' ho'=>?_⟩
    · simp only [List.length_cons]
      rw [if_neg (by omega),← a3];congr 1;omega
    · simp only [List.length_cons]
      rw [if_neg (by omega),← a4];congr 1;omega
    · simp only [List.length_cons] at h2'
      by_cases ei:i=k
      · subst ei
        refine ⟨o,hk,?_⟩
        dsimp only
        rw [if_pos (Nat.le_refl _),if_pos (Nat.le_refl _),if_neg (by omega),if_neg (by omega),a1,a2]
        unfold codeAt
        rw [← hp]
        exact h0
      · obtain ⟨o',h3⟩:=a5 i (by omega) (by omega)
        refine ⟨o',?_⟩
        dsimp only
        rw [if_neg (by omega),if_neg (by omega),if_neg (by omega),if_neg (by omega)]
        exact h3
    · simp only [List.length_cons] at h2'
      by_cases ei:i=k
      · subst ei
        dsimp only
        rw [if_pos (Nat.le_refl _),if_pos (Nat.le_refl _),if_pos (Nat.le_refl _),if_neg (by omega),if_neg (by omega),a6,a2]
        unfold codeAt
        rw [← hp,← hpt]
        rw [hk] at ho';cases ho'
        exact ⟨rfl,hsf,hlt⟩
      · obtain ⟨h3,h4⟩:=a7 i (by omega) (by omega) o' ho'
        dsimp only
        rw [if_neg (by omega),if_neg (by omega),if_neg (by omega),if_neg (by omega),if_neg (by omega)]
        exact ⟨h3,h4⟩
theorem wpOp_exists {K:Act→World→Prop} {i:Nat} (hh:wpOp P ops (λ _ _ _=>False) i K a w):∃ a' w',K a' w':=by
  unfold wpOp at hh
  split at hh
  · exact ⟨_,_,hh⟩
  · rename_i o ho
    split at hh
    · rcases hh with hh | ⟨_,_,_,hq⟩
      · unfold Oper.wp Oper.upon at hh
        split at hh
        · exact ⟨_,_,hh⟩
        · exact ⟨_,_,hh⟩
        · exact ⟨_,_,hh⟩
        · obtain ⟨en,w',fr,hr,_⟩:=hh []
          cases en with
          | returned v=>exact ⟨_,_,hr⟩
          | panicked c=>exact hr.elim
          | outgrown=>obtain ⟨_,_,hq⟩:=hr;exact hq.elim
        · obtain ⟨v,w',hr,_⟩:=hh default []
          exact ⟨_,_,hr⟩
        · exact hh.elim
        · exact hh.elim
      · exact hq.elim
    · exact ⟨_,_,hh⟩
theorem ghost_run (he:CallOK P e) {plan:List PC} {Ts:Nat→T} {Hs:Nat→H} {N:Nat} (hs:St B ι (Hs 0) w) (ht:TRel ι (Ts 0) n a) (hst:∀ i,i < N→∃ o,Step P e n m ops plan i o (Ts i) (Hs i) (Ts (i+1)) (Hs (i+1))) :
    ∀ i,i≤N→∃ ι' a' w',Moves B ι (Hs 0) w ι' (Hs i) w'∧TRel ι' (Ts i) n a':=by
  intro i
  induction i with
  | zero=>intro _;exact ⟨ι,a,w,.refl hs,ht⟩
  | succ i ih=>
    intro hi
    obtain ⟨ι1,a1,w1,hm,ht1⟩:=ih (by omega)
    obtain ⟨o,ho,h0⟩:=hst i (by omega)
    have:=step_text (Q:=λ _ _ _=>False) (K:=λ a' w'=>∃ ι',Moves B ι (Hs 0) w ι' (Hs (i+1)) w'∧TRel ι' (Ts (i+1)) n a') he hm.st ht1 ho h0 λ ι' a' w' hm' ht'=>⟨ι',hm.trans hs hm',ht'⟩
    obtain ⟨a',w',ι',h1,h2⟩:=wpOp_exists this
    exact ⟨ι',a',w',h1,h2⟩
def cut (ι:Inj) (N:Nat):Inj:=λ id=>if id < N then ι id else none
theorem cut_le {N:Nat}:(cut ι N).le ι:=λ id x e=>by unfold cut at e;split at e <;> first | exact e | simp at e
mutual
theorem VRel.cut {ι ι':Inj} {N:Nat} (hf:Fresh ι' N):∀ (x:SV) (v v':Value),VRel ι x v→VRel ι' x v'→VRel (Sh.cut ι N) x v
  | .bool _,_,_,e,_=>e
  | .int _ _,_,_,e,_=>e
  | .float _ _,_,_,e,_=>e
  | .cpx _ _ _,_,_,e,_=>e
  | .str _,_,_,e,_=>e
  | .nilptr,_,_,e,_=>e
  | .ptr id _,_,_,⟨b,o,s,hi,e⟩,⟨_,_,_,hi',_⟩=>⟨b,o,s,by unfold Sh.cut;rw [if_pos (hf _ _ hi')];exact hi,e⟩
  | .nilslice,_,_,e,_=>e
  | .slice id _ _ _ _,_,_,⟨b,o,s,c,hi,e⟩,⟨_,_,_,_,hi',_⟩=>⟨b,o,s,c,by unfold Sh.cut;rw [if_pos (hf _ _ hi')];exact hi,e⟩
  | .nilmap,_,_,e,_=>e
  | .map id,_,_,⟨b,o,s,hi,e⟩,⟨_,_,_,hi',_⟩=>⟨b,o,s,by unfold Sh.cut;rw [if_pos (hf _ _ hi')];exact hi,e⟩
  | .nilfunc,_,_,e,_=>e
  | .func _ cap,_,_,⟨vs,e,l⟩,⟨us,_,k⟩=>⟨vs,e,LRel.cut hf cap _ _ l k⟩
  | .niliface,_,_,e,_=>e
  | .iface _ x,_,_,⟨y,e,l⟩,⟨z,_,k⟩=>⟨y,e,VRel.cut hf x _ _ l k⟩
  | .agg cs,_,_,⟨vs,e,l,c⟩,⟨us,_,k,_⟩=>⟨vs,e,LRel.cut hf cs _ _ l k,c⟩
  | .tuple xs,_,_,⟨vs,e,l⟩,⟨us,_,k⟩=>⟨vs,e,LRel.cut hf xs _ _ l k⟩
theorem LRel.cut {ι ι':Inj} {N:Nat} (hf:Fresh ι' N):∀ (xs:List SV) (vs us:List Value),LRel ι xs vs→LRel ι' xs us→LRel (Sh.cut ι N) xs vs
  | [],_,_,e,_=>e
  | x::xs,_,_,⟨y,r,e,hx,l⟩,⟨_,_,_,hx',l'⟩=>⟨y,r,e,VRel.cut hf x _ _ hx hx',LRel.cut hf xs _ _ l l'⟩
end
theorem ERel.cut {ι ι':Inj} {N:Nat} (hf:Fresh ι' N):∀ (es:List (SV × SV × Nat)) (vs us:List MapEntry),ERel ι es vs→ERel ι' es us→ERel (Sh.cut ι N) es vs
  | [],_,_,e,_=>e
  | (_,_,_)::es,_,_,⟨y,r,e,hk,hv,hb,l⟩,⟨_,_,_,hk',hv',_,l'⟩=>⟨y,r,e,hk.cut hf _ _ _ hk',hv.cut hf _ _ _ hv',hb,ERel.cut hf es _ _ l l'⟩
end
end Go.Sh
end
section
/- The shadow machine: what stands ahead of what in a region. -/
namespace Go.Sh
section
variable {P:Program} {ops:Array Oper}
inductive Prec (ops:Array Oper):Nat→Nat→Prop
  | edge {i:Nat} {o:Oper} {ed:Edge} (h:ops[i]?=some o) (hm:ed ∈ o.after) (hb:Region.binds .any ed=true):Prec ops ed.on i
  | more {i k:Nat} {o:Oper} {ed:Edge} (h:ops[i]?=some o) (hm:ed ∈ o.after) (hb:Region.binds .any ed=true) (hk:Prec ops k ed.on):Prec ops k i
theorem Prec.trans {i j k:Nat} (h':Prec ops j k):Prec ops i j→Prec ops i k:=by
  induction h' with
  | edge a b c=>exact λ h=>.more a b c h
  | more a b c _ ih=>exact λ h=>.more a b c (ih h)
def Back (ops:Array Oper):Prop:=∀ (i:Nat) (o:Oper) (ed:Edge),ops[i]?=some o→ed ∈ o.after→Region.binds .any ed=true→ed.on < i
theorem Prec.lt (hb:Back ops) {i j:Nat} (h:Prec ops i j):i < j:=by
  induction h with
  | edge a b c=>exact hb _ _ _ a b c
  | more a b c _ ih=>have:=hb _ _ _ a b c;omega
theorem binds_eq (ed:Edge):bindsAny ed=Region.binds .any ed:=by
  unfold bindsAny Region.binds
  cases ed.ground <;> rfl
theorem bitAt_eq (m i:Nat):bitAt m i=m.testBit i:=by
  unfold bitAt
  rw [Nat.testBit_eq_decide_div_mod_eq]
  show Nat.beq (m >>> i % 2) 1=_
  rw [Nat.shiftRight_eq_div_pow]
  cases h:Nat.beq (m / 2 ^ i % 2) 1
  · have:m / 2 ^ i % 2≠1:=λ e=>by rw [e] at h;simp at h
    simp [this]
  · have:=Nat.eq_of_beq_eq_true h
    simp [this]
theorem edgeMask_cons (n tab:Nat) (ed:Edge) (l:List Edge):edgeMask n tab (ed::l)=if bindsAny ed=true then ((2 ^ ed.on ||| ((tab >>> (ed.on * n)) % 2 ^ n)) ||| edgeMask n tab l) else edgeMask n tab l:=by
  show @Bool.rec (λ _=>Nat) (edgeMask n tab l) (Nat.lor (Nat.lor (Nat.pow 2 ed.on) (Nat.mod (Nat.shiftRight tab (Nat.mul ed.on n)) (Nat.pow 2 n))) (edgeMask n tab l)) (bindsAny ed)=_
  cases bindsAny ed <;> rfl
theorem edgeMask_bit {n tab j:Nat}:∀ {l:List Edge},(edgeMask n tab l).testBit j=true→∃ ed,ed ∈ l∧bindsAny ed=true∧(ed.on=j∨(j < n∧tab.testBit (ed.on * n+j)=true))
  | [],h=>by simp [edgeMask] at h
  | ed::l,h=>by
    rw [edgeMask_cons] at h
    split at h
    · rename_i hb
      rw [Nat.testBit_or,Nat.testBit_or,Bool.or_eq_true,Bool.or_eq_true] at h
      rcases h with (h | h) | h
      · rw [Nat.testBit_two_pow] at h
        exact ⟨ed,by simp,hb,.inl (by simpa using h)⟩
      · rw [Nat.testBit_mod_two_pow] at h
        simp only [Bool.and_eq_true,decide_eq_true_eq,Nat.testBit_shiftRight] at h
        exact ⟨ed,by simp,hb,.inr h⟩
      · obtain ⟨e2,h1,h2⟩:=edgeMask_bit h
        exact ⟨e2,by simp [h1],h2⟩
    · obtain ⟨e2,h1,h2⟩:=edgeMask_bit h
      exact ⟨e2,by simp [h1],h2⟩
def ItOk (P:Program) (ops:Array Oper) (i:Nat) (x:It):Prop:=x.idx=i∧(∃ o,ops[i]?=some o∧x.kind=kindOf P o.op)∧∀ j,j < ops.size→bitAt x.mask j=true→Prec ops j i
theorem items_ok (hb:Back ops):∀ (l:List Oper) (i tab:Nat),ops.toList.drop i=l→(∀ k j,j < ops.size→tab.testBit (k * ops.size+j)=true→k < i∧Prec ops j k) →
    ∀ k x,(items P ops.size l i tab)[k]?=some x→ItOk P ops (i+k) x
  | [],i,tab,_,_,k,x,h=>by simp [items] at h
  | o::l,i,tab,hl,ht,k,x,h=>by
    have hk:ops[i]?=some o:=by
      have:=congrArg (·[0]?) hl
      rw [← Array.getElem?_toList]
      simpa using this
    have hl':ops.toList.drop (i+1)=l:=by
      have:=congrArg List.tail hl
      simpa [List.tail_drop] using this
    have hi:i < ops.size:=(Array.getElem?_eq_some_iff.1 hk).1
    have hmask:∀ j,(edgeMask ops.size tab o.after.toList).testBit j=true→j < ops.size∧Prec ops j i:=by
      intro j hbit
      obtain ⟨ed,h1,h2,h3⟩:=edgeMask_bit hbit
      have h1:ed ∈ o.after:=by simpa using h1
      rw [binds_eq] at h2
      have hlt:=hb _ _ _ hk h1 h2
      rcases h3 with rfl | ⟨hj,h3⟩
      · exact ⟨by omega,.edge hk h1 h2⟩
      · exact ⟨hj,.more hk h1 h2 (ht _ _ hj h3).2⟩
    cases k with
    | zero=>
      simp only [items,List.getElem?_cons_zero,Option.some.injEq] at h
      subst h
      exact ⟨rfl,⟨o,hk,rfl⟩,λ j _ hbit=>(hmask j (by rw [← bitAt_eq];exact hbit)).2⟩
    | succ k=>
      simp only [items,List.getElem?_cons_succ] at h
      have:=items_ok hb l (i+1) _ hl' (λ k j hj hbit=>by
        change (tab ||| (edgeMask ops.size tab o.after.toList) <<< (i * ops.size)).testBit _=true at hbit
        rw [Nat.testBit_or,Nat.testBit_shiftLeft,Bool.or_eq_true,Bool.and_eq_true,decide_eq_true_eq] at hbit
        rcases hbit with hbit | ⟨hge,hbit⟩
        · obtain ⟨h1,h2⟩:=ht k j hj hbit
          exact ⟨by omega,h2⟩
        · obtain ⟨h1,h2⟩:=hmask _ hbit
          have hki:k=i:=by
            rcases Nat.lt_trichotomy k i with hlt | heq | hgt
            · have:(k+1) * ops.size≤i * ops.size:=Nat.mul_le_mul_right _ hlt
              rw [Nat.add_mul,Nat.one_mul] at this
              omega
            · exact heq
            · have:(i+1) * ops.size≤k * ops.size:=Nat.mul_le_mul_right _ hgt
              rw [Nat.add_mul,Nat.one_mul] at this
              omega
          subst hki
          rw [Nat.add_sub_cancel_left] at h2
          exact ⟨by omega,h2⟩) k x h
      rw [Nat.add_right_comm] at this
      exact this
theorem items_length:∀ (l:List Oper) (n i tab:Nat),(items P n l i tab).length=l.length
  | [],_,_,_=>rfl
  | o::l,n,i,tab=>by simp only [items,List.length_cons,items_length l]
structure Plan (P:Program) (ops:Array Oper) (plan:List PC):Prop where
  chain:∀ (i j:Nat) (o o':Oper),i < j→ops[i]?=some o→ops[j]?=some o'→kindOf P o.op=2→kindOf P o'.op=2→Prec ops i j
  loose:∀ (i j:Nat) (o o':Oper),ops[i]?=some o→ops[j]?=some o'→kindOf P o.op=2→kindOf P o'.op=1→Prec ops i j∨Prec ops j i∨(sAt plan i=true∧sAt plan j=true)∨(∃ mask,codeAt plan j=.soft mask∧bitAt mask i=true)
  guard:∀ (j:Nat) (o:Oper) (g:Nat) (want:Bool) (d:Tmp) (i:Nat) (o':Oper),ops[j]?=some o→o.guard=some (g,want)→(ops[g]?).bind (·.dst)=some d→ops[i]?=some o'→o'.dst=some d→i=j∨(i < j∧Prec ops i j)∨(j < i∧Prec ops j i)
  calm:∀ (i:Nat) (o:Oper),ops[i]?=some o→kindOf P o.op=0→sAt plan i=false
  kept:∀ (j:Nat) (mask:Nat),codeAt plan j=.soft mask→∀ (i:Nat) (o:Oper),ops[i]?=some o→kindOf P o.op=2→∃ s,codeAt plan i=.keep s i
  keeps:∀ (i:Nat) (s:Bool) (k:Nat),codeAt plan i=.keep s k→k=i
theorem ord_prec {i j:Nat} {x y:It} (hx:ItOk P ops i x) (hy:ItOk P ops j y) (h:ordIt x y=true):(i < j∧Prec ops i j)∨(¬i < j∧Prec ops j i):=by
  obtain ⟨o,ho,_⟩:=hx.2.1
  obtain ⟨o',ho',_⟩:=hy.2.1
  have hi:i < ops.size:=(Array.getElem?_eq_some_iff.1 ho).1
  have hj:j < ops.size:=(Array.getElem?_eq_some_iff.1 ho').1
  unfold ordIt at h
  rw [hx.1,hy.1] at h
  cases hc:Nat.blt i j with
  | true=>
    rw [hc] at h
    exact .inl ⟨Nat.le_of_ble_eq_true hc,hy.2.2 i hi h⟩
  | false=>
    rw [hc] at h
    refine .inr ⟨λ hlt=>?_,hx.2.2 j hj h⟩
    rw [show Nat.blt i j=true from Nat.ble_eq_true_of_le hlt] at hc
    simp at hc
theorem chainFrom_ok {l0:List It} (hit:∀ k x,l0[k]?=some x→ItOk P ops k x):∀ (l:List It) (i k:Nat) (x:It),l0.drop k=l→i < k→ItOk P ops i x→x.kind=2→chainFrom x l=true →
    ∀ j y,k≤j→l0[j]?=some y→y.kind=2→Prec ops i j
  | [],i,k,x,hl,_,_,_,_,j,y,hj,hy,_=>by
    have:l0.length≤k:=by simpa using hl
    rw [List.getElem?_eq_none (by omega)] at hy;simp at hy
  | z::l,i,k,x,hl,hik,hx,hkx,hc,j,y,hj,hy,hky=>by
    have hz:l0[k]?=some z:=by have:=congrArg (·[0]?) hl;simpa using this
    have hl':l0.drop (k+1)=l:=by have:=congrArg List.tail hl;simpa [List.tail_drop] using this
    simp only [chainFrom] at hc
    cases hkz:Nat.beq z.kind 2 with
    | true=>
      simp only [hkz,Bool.and_eq_true] at hc
      have hzk:=Nat.eq_of_beq_eq_true hkz
      have hp:Prec ops i k:=by
        rcases ord_prec hx (hit _ _ hz) hc.1 with h | h
        · exact h.2
        · exact absurd hik h.1
      by_cases e:j=k
      · subst e;exact hp
      · exact (chainFrom_ok hit l k (k+1) z hl' (by omega) (hit _ _ hz) hzk hc.2 j y (by omega) hy hky).trans hp
    | false=>
      simp only [hkz] at hc
      by_cases e:j=k
      · subst e
        rw [hz] at hy;cases hy
        rw [hky] at hkz;simp at hkz
      · exact chainFrom_ok hit l i (k+1) x hl' (by omega) hx hkx hc j y (by omega) hy hky
theorem chainOk_ok {l0:List It} (hit:∀ k x,l0[k]?=some x→ItOk P ops k x):∀ (l:List It) (k:Nat),l0.drop k=l→chainOk l=true →
    ∀ i j x y,k≤i→i < j→l0[i]?=some x→l0[j]?=some y→x.kind=2→y.kind=2→Prec ops i j
  | [],k,hl,_,i,j,x,y,hi,_,hx,_,_,_=>by
    have:l0.length≤k:=by simpa using hl
    rw [List.getElem?_eq_none (by omega)] at hx;simp at hx
  | z::l,k,hl,hc,i,j,x,y,hi,hij,hx,hy,hkx,hky=>by
    have hz:l0[k]?=some z:=by have:=congrArg (·[0]?) hl;simpa using this
    have hl':l0.drop (k+1)=l:=by have:=congrArg List.tail hl;simpa [List.tail_drop] using this
    simp only [chainOk] at hc
    cases hkz:Nat.beq z.kind 2 with
    | true=>
      simp only [hkz] at hc
      have hzk:=Nat.eq_of_beq_eq_true hkz
      have from_k:∀ j y,k+1≤j→l0[j]?=some y→y.kind=2→Prec ops k j:=chainFrom_ok hit l k (k+1) z hl' (by omega) (hit _ _ hz) hzk hc
      have:chainOk l=true∨True:=.inr trivial
      by_cases e:i=k
      · subst e;exact from_k j y (by omega) hy hky
      · -- all behind k stand in the same chain
        exact chain_rest hit l (k+1) z hl' hc i j x y (by omega) hij hx hy hkx hky
    | false=>
      simp only [hkz] at hc
      have e:i≠k:=λ e=>by
        subst e
        rw [hz] at hx;cases hx
        rw [hkx] at hkz;simp at hkz
      exact chainOk_ok hit l (k+1) hl' hc i j x y (by omega) hij hx hy hkx hky
where
  chain_rest {l0:List It} (hit:∀ k x,l0[k]?=some x→ItOk P ops k x):∀ (l:List It) (k:Nat) (z:It),l0.drop k=l→chainFrom z l=true →
      ∀ i j x y,k≤i→i < j→l0[i]?=some x→l0[j]?=some y→x.kind=2→y.kind=2→Prec ops i j
    | [],k,_,hl,_,i,j,x,y,hi,_,hx,_,_,_=>by
      have:l0.length≤k:=by simpa using hl
      rw [List.getElem?_eq_none (by omega)] at hx;simp at hx
    | u::l,k,z,hl,hc,i,j,x,y,hi,hij,hx,hy,hkx,hky=>by
      have hu:l0[k]?=some u:=by have:=congrArg (·[0]?) hl;simpa using this
      have hl':l0.drop (k+1)=l:=by have:=congrArg List.tail hl;simpa [List.tail_drop] using this
      simp only [chainFrom] at hc
      cases hku:Nat.beq u.kind 2 with
      | true=>
        simp only [hku,Bool.and_eq_true] at hc
        by_cases e:i=k
        · subst e
          rw [hu] at hx;cases hx
          exact chainFrom_ok hit l i (i+1) u hl' (by omega) (hit _ _ hu) hkx hc.2 j y (by omega) hy hky
        · exact chain_rest hit l (k+1) u hl' hc.2 i j x y (by omega) hij hx hy hkx hky
      | false=>
        simp only [hku] at hc
        have e:i≠k:=λ e=>by
          subst e
          rw [hu] at hx;cases hx
          rw [hkx] at hku;simp at hku
        exact chain_rest hit l (k+1) z hl' hc i j x y (by omega) hij hx hy hkx hky
theorem dstOk_ok {l0:List It} {j:Nat} {x:It} {d:Tmp} (hit:∀ k x,l0[k]?=some x→ItOk P ops k x) (hlen:l0.length=ops.size) (hx:ItOk P ops j x):∀ (l:List Oper) (k:Nat),ops.toList.drop k=l→dstOk d x l (l0.drop k)=true →
    ∀ i o',k≤i→ops[i]?=some o'→o'.dst=some d→i=j∨(i < j∧Prec ops i j)∨(j < i∧Prec ops j i)
  | [],k,hl,_,i,o',hi,ho,_=>by
    have h1:ops.toList.length≤k:=by simpa using hl
    have:=(Array.getElem?_eq_some_iff.1 ho).1
    simp at h1;omega
  | o::l,k,hl,hc,i,o',hi,ho,hd=>by
    have hk:ops[k]?=some o:=by
      have:=congrArg (·[0]?) hl
      rw [← Array.getElem?_toList]
      simpa using this
    have hks:k < ops.size:=(Array.getElem?_eq_some_iff.1 hk).1
    have hl':ops.toList.drop (k+1)=l:=by have:=congrArg List.tail hl;simpa [List.tail_drop] using this
    have hy:l0[k]?=some l0[k]:=List.getElem?_eq_getElem (by omega)
    rw [List.drop_eq_getElem_cons (by omega:k < l0.length)] at hc
    simp only [dstOk,Bool.and_eq_true] at hc
    by_cases e:i=k
    · subst e
      rw [hk] at ho;cases ho
      have h1:=hc.1
      rw [hd] at h1
      have hdd:Nat.beq d d=true:=Nat.beq_refl d
      simp only [hdd,Bool.not_true,Bool.false_or,Bool.or_eq_true] at h1
      have hyo:=hit _ _ hy
      rcases h1 with h1 | h1
      · have:=Nat.eq_of_beq_eq_true h1
        rw [hx.1,hyo.1] at this
        exact .inl this.symm
      · rcases ord_prec hx hyo h1 with ⟨a,b⟩ | ⟨a,b⟩
        · exact .inr (.inr ⟨a,b⟩)
        · by_cases e:i=j
          · exact .inl e
          · exact .inr (.inl ⟨by omega,b⟩)
    · exact dstOk_ok hit hlen hx l (k+1) hl' hc.2 i o' (by omega) ho hd
theorem guardsOk_ok {l0:List It} (hit:∀ k x,l0[k]?=some x→ItOk P ops k x) (hlen:l0.length=ops.size):∀ (l:List Oper) (k:Nat),ops.toList.drop k=l→guardsOk ops.toList l0 l (l0.drop k)=true →
    ∀ j o g want d i o',k≤j→ops[j]?=some o→o.guard=some (g,want)→(ops[g]?).bind (·.dst)=some d→ops[i]?=some o'→o'.dst=some d→i=j∨(i < j∧Prec ops i j)∨(j < i∧Prec ops j i)
  | [],k,hl,_,j,o,_,_,_,_,_,hj,ho,_,_,_,_=>by
    have h1:ops.toList.length≤k:=by simpa using hl
    have:=(Array.getElem?_eq_some_iff.1 ho).1
    simp at h1;omega
  | o0::l,k,hl,hc,j,o,g,want,d,i,o',hj,ho,hg,hd,hi,hd'=>by
    have hk:ops[k]?=some o0:=by
      have:=congrArg (·[0]?) hl
      rw [← Array.getElem?_toList]
      simpa using this
    have hks:k < ops.size:=(Array.getElem?_eq_some_iff.1 hk).1
    have hl':ops.toList.drop (k+1)=l:=by have:=congrArg List.tail hl;simpa [List.tail_drop] using this
    have hy:l0[k]?=some l0[k]:=List.getElem?_eq_getElem (by omega)
    rw [List.drop_eq_getElem_cons (by omega:k < l0.length)] at hc
    simp only [guardsOk,Bool.and_eq_true] at hc
    by_cases e:j=k
    · subst e
      rw [hk] at ho;cases ho
      have h1:=hc.1
      simp only [hg] at h1
      rw [Array.getElem?_toList,hd] at h1
      exact dstOk_ok hit hlen (hit _ _ hy) ops.toList 0 rfl h1 i o' (by omega) hi hd'
    · exact guardsOk_ok hit hlen l (k+1) hl' hc.2 j o g want d i o' (by omega) ho hg hd hi hd'
theorem maskOf_bit (x:It):∀ (l:List It) (z:It),z ∈ l→openTo x z=true→bitAt (maskOf x l) z.idx=true
  | [],_,h,_=>by simp at h
  | y::l,z,h,ho=>by
    rw [bitAt_eq]
    unfold maskOf
    rcases List.mem_cons.1 h with rfl | h
    · rw [ho]
      show (2 ^ z.idx ||| maskOf x l).testBit z.idx=true
      rw [Nat.testBit_or,Nat.testBit_two_pow_self];rfl
    · have:=maskOf_bit x l z h ho
      rw [bitAt_eq] at this
      split
      · show (2 ^ y.idx ||| maskOf x l).testBit z.idx=true
        rw [Nat.testBit_or,this];simp
      · exact this
theorem drawPlan_ok (hb:Back ops) {plan:List PC} (h:drawPlan P ops.toList=some plan):Plan P ops plan:=by
  unfold drawPlan at h
  have hsz:ops.toList.length=ops.size:=by simp
  rw [hsz] at h
  generalize hl0:items P ops.size ops.toList 0 0=l0 at h
  have hit:∀ k x,l0[k]?=some x→ItOk P ops k x:=λ k x hx=>by
    have:=items_ok (P:=P) hb ops.toList 0 0 rfl (λ k j _ h=>by simp at h) k x (by rw [hl0];exact hx)
    simpa using this
  have hlen:l0.length=ops.size:=by rw [← hl0,items_length];simp
  have at_i:∀ (i:Nat) (o:Oper),ops[i]?=some o→∃ x:It,l0[i]?=some x∧x.kind=kindOf P o.op:=λ i o ho=>by
    have hi:i < ops.size:=(Array.getElem?_eq_some_iff.1 ho).1
    refine ⟨l0[i],List.getElem?_eq_getElem (by omega),?_⟩
    obtain ⟨_,⟨o',ho',hk⟩,_⟩:=hit i _ (List.getElem?_eq_getElem (by omega))
    rw [ho] at ho';cases ho'
    exact hk
  dsimp only at h
  split at h
  · rename_i hc
    simp only [Bool.and_eq_true] at hc
    simp only [Option.some.injEq] at h
    subst h
    refine ⟨λ i j o o' hij ho ho' hk hk'=>?_,λ i j o o' ho ho' hk hk'=>?_,λ j o g want d i o' ho hg hd hi hd'=>?_,λ i o ho hk=>?_,λ j mask hm i o ho hk=>?_,λ i s k hm=>?_⟩
    · obtain ⟨x,hx,hxk⟩:=at_i _ _ ho
      obtain ⟨y,hy,hyk⟩:=at_i _ _ ho'
      exact chainOk_ok hit l0 0 rfl hc.1 i j x y (Nat.zero_le _) hij hx hy (hxk.trans hk) (hyk.trans hk')
    · obtain ⟨x,hx,hxk⟩:=at_i _ _ ho
      obtain ⟨y,hy,hyk⟩:=at_i _ _ ho'
      by_cases hord:ordIt x y=true
      · rcases ord_prec (hit _ _ hx) (hit _ _ hy) hord with h | h
        · exact .inl h.2
        · exact .inr (.inl h.2)
      · by_cases hord':ordIt y x=true
        · rcases ord_prec (hit _ _ hy) (hit _ _ hx) hord' with h | h
          · exact .inr (.inl h.2)
          · exact .inl h.2
        · have xy:openTo x y=true:=by
            unfold openTo
            rw [hxk,hyk,hk,hk']
            simp [hord]
          have yx:openTo y x=true:=by
            unfold openTo
            rw [hxk,hyk,hk,hk']
            simp [hord']
          have hxm:=List.mem_of_getElem? hx
          have hym:=List.mem_of_getElem? hy
          have hidx:x.idx=i:=(hit _ _ hx).1
          have hidy:y.idx=j:=(hit _ _ hy).1
          have hany:l0.any (openTo y)=true:=List.any_eq_true.2 ⟨x,hxm,yx⟩
          have cy:codeAt (l0.map (codeIt l0)) j=codeIt l0 y:=codeAt_of (by rw [List.getElem?_map,hy];rfl)
          have cx:codeAt (l0.map (codeIt l0)) i=codeIt l0 x:=codeAt_of (by rw [List.getElem?_map,hx];rfl)
          unfold sAt
          rw [cx,cy]
          cases hh:hardLook l0 y with
          | true=>
            refine .inr (.inr (.inl ⟨?_,?_⟩))
            · have hsx:(l0.any λ y=>openTo x y&&hardLook l0 y)=true:=List.any_eq_true.2 ⟨y,hym,by rw [xy,hh];rfl⟩
              unfold codeIt
              rw [hxk,hk,hsx]
              cases l0.any (softLook l0) <;> rfl
            · unfold codeIt
              rw [hyk,hk',hany,hh];rfl
          | false=>
            refine .inr (.inr (.inr ⟨maskOf y l0,?_,?_⟩))
            · unfold codeIt
              rw [hyk,hk',hany,hh]
            · rw [← hidx];exact maskOf_bit y l0 x hxm yx
    · exact guardsOk_ok hit hlen ops.toList 0 rfl hc.2 j o g want d i o' (Nat.zero_le _) ho hg hd hi hd'
    · obtain ⟨x,hx,hxk⟩:=at_i _ _ ho
      have cx:codeAt (l0.map (codeIt l0)) i=codeIt l0 x:=codeAt_of (by rw [List.getElem?_map,hx];rfl)
      unfold sAt
      rw [cx]
      unfold codeIt
      rw [hxk,hk];rfl
    · have hj:(l0.map (codeIt l0))[j]?=some (.soft mask):=codeAt_some hm (by simp)
      rw [List.getElem?_map] at hj
      obtain ⟨y,hy,hc1⟩:=Option.map_eq_some_iff.1 hj
      have hym:=List.mem_of_getElem? hy
      have hsl:softLook l0 y=true:=by
        unfold codeIt at hc1
        unfold softLook
        split at hc1
        · cases hc1
        · split at hc1
          · rename_i h1
            split at hc1
            · cases hc1
            · rename_i h2
              split at hc1
              · cases hc1
              · rename_i h3
                rw [h1,h2,h3];rfl
          · split at hc1
            · cases hc1
            · split at hc1 <;> cases hc1
      obtain ⟨x,hx,hxk⟩:=at_i _ _ ho
      have cx:codeAt (l0.map (codeIt l0)) i=codeIt l0 x:=codeAt_of (by rw [List.getElem?_map,hx];rfl)
      have hidx:x.idx=i:=(hit _ _ hx).1
      refine ⟨l0.any λ y=>openTo x y&&hardLook l0 y,?_⟩
      rw [cx]
      unfold codeIt
      rw [hxk,hk,List.any_eq_true.2 ⟨y,hym,hsl⟩,hidx]
    · have hi:(l0.map (codeIt l0))[i]?=some (.keep s k):=codeAt_some hm (by simp)
      rw [List.getElem?_map] at hi
      obtain ⟨x,hx,hc1⟩:=Option.map_eq_some_iff.1 hi
      have hidx:x.idx=i:=(hit _ _ hx).1
      unfold codeIt at hc1
      split at hc1
      · cases hc1
      · split at hc1
        · split at hc1
          · cases hc1
          · split at hc1 <;> cases hc1
        · split at hc1
          · cases hc1;exact hidx
          · split at hc1 <;> cases hc1
  · simp at h
theorem fold_bit (acc:Array Nat) {j:Nat}:∀ (l:List Edge) (s:Nat),(l.foldl (λ s e=>if Region.binds .any e then s ||| 2 ^ e.on ||| acc.getD e.on 0 else s) s).testBit j=true →
    s.testBit j=true∨∃ ed,ed ∈ l∧Region.binds .any ed=true∧(ed.on=j∨(acc.getD ed.on 0).testBit j=true)
  | [],s,h=>.inl h
  | ed::l,s,h=>by
    rw [List.foldl_cons] at h
    rcases fold_bit acc l _ h with h | ⟨e2,h1,h2⟩
    · split at h
      · rename_i hb
        rw [Nat.testBit_or,Nat.testBit_or,Bool.or_eq_true,Bool.or_eq_true] at h
        rcases h with (h | h) | h
        · exact .inl h
        · rw [Nat.testBit_two_pow] at h
          exact .inr ⟨ed,by simp,hb,.inl (by simpa using h)⟩
        · exact .inr ⟨ed,by simp,hb,.inr h⟩
      · exact .inl h
    · exact .inr ⟨e2,by simp [h1],h2⟩
theorem before_fold (hb:Back ops):∀ (l:List Oper) (acc:Array Nat),ops.toList.drop acc.size=l→(∀ i j,(acc.getD i 0).testBit j=true→Prec ops j i) →
    ∀ i j,((l.foldl (λ acc o=>acc.push (o.after.foldl (λ s e=>if Region.binds .any e then s ||| 2 ^ e.on ||| acc.getD e.on 0 else s) 0)) acc).getD i 0).testBit j=true→Prec ops j i
  | [],acc,_,ha,i,j,h=>ha i j h
  | o::l,acc,hl,ha,i,j,h=>by
    rw [List.foldl_cons] at h
    have hk:ops[acc.size]?=some o:=by
      have:=congrArg (·[0]?) hl
      rw [← Array.getElem?_toList]
      simpa using this
    have hl':ops.toList.drop (acc.size+1)=l:=by have:=congrArg List.tail hl;simpa [List.tail_drop] using this
    refine before_fold hb l _ (by rw [Array.size_push];exact hl') (λ i j hbit=>?_) i j h
    rw [Array.getD_eq_getD_getElem?,Array.getElem?_push] at hbit
    split at hbit
    · rename_i hi
      subst hi
      simp only [Option.getD_some,← Array.foldl_toList] at hbit
      rcases fold_bit acc _ _ hbit with h | ⟨ed,h1,h2,h3⟩
      · simp at h
      · have h1:ed ∈ o.after:=by simpa using h1
        rcases h3 with rfl | h3
        · exact .edge hk h1 h2
        · exact .more hk h1 h2 (ha _ _ h3)
    · rw [← Array.getD_eq_getD_getElem?] at hbit
      exact ha i j hbit
theorem before_ok (hb:Back ops) {i j:Nat} (h:((Region.before ops).getD i 0).testBit j=true):Prec ops j i:=by
  unfold Region.before at h
  rw [← Array.foldl_toList] at h
  exact before_fold hb ops.toList #[] rfl (λ i j h=>by simp at h) i j h
def Slots (ops:Array Oper):Prop:=∀ (i j:Nat) (o o':Oper) (d:Tmp),ops[i]?=some o→o.dst=some d→ops[j]?=some o'→(o'.dst=some d∨.tmp d ∈ o'.op.operands.toList)→i=j∨(i < j∧Prec ops i j)∨(j < i∧Prec ops j i)
theorem writers_mem {N:Nat}:∀ (l:List (Oper × Nat)) (w:Array (List (Tmp × Nat))),w.size=N →
    ∀ (o:Oper) (i:Nat) (d:Tmp),((o,i) ∈ l∧o.dst=some d∨(d,i) ∈ w.getD (d % N) [])→d % N < N →
    (d,i) ∈ (l.foldl (init:=w) λ w (o,i)=>match o.dst with
      | some d=>w.modify (d % N) ((d,i)::·)
      | none=>w).getD (d % N) []
  | [],w,_,o,i,d,h,_=>by
    rcases h with ⟨h,_⟩ | h
    · simp at h
    · exact h
  | (o0,i0)::l,w,hw,o,i,d,h,hd=>by
    rw [List.foldl_cons]
    refine writers_mem l _ ?_ o i d ?_ hd
    · dsimp only
      split <;> simp [hw]
    · dsimp only
      rcases h with ⟨h,hdst⟩ | h
      · rcases List.mem_cons.1 h with h | h
        · cases h
          right
          rw [hdst]
          rw [Array.getD_eq_getD_getElem?,Array.getElem?_modify,if_pos rfl]
          rw [Array.getElem?_eq_getElem (show d % N < w.size by rw [hw];exact hd)]
          simp
        · exact .inl ⟨h,hdst⟩
      · right
        split
        · rename_i d0 _
          rw [Array.getD_eq_getD_getElem?] at h ⊢
          rw [Array.getElem?_modify]
          split
          · cases hx:w[d % N]? with
            | none=>rw [hx] at h;simp at h
            | some x=>rw [hx] at h;simpa using .inr h
          · exact h
        · exact h
theorem slots_ok (hb:Back ops) (h:Region.temporariesOk ops (Region.before ops)=true):Slots ops:=by
  intro i j o o' d hi hd hj hn
  have his:i < ops.size:=(Array.getElem?_eq_some_iff.1 hi).1
  have hjs:j < ops.size:=(Array.getElem?_eq_some_iff.1 hj).1
  unfold Region.temporariesOk at h
  have hmod:d % ops.size < ops.size:=Nat.mod_lt _ (by omega)
  have hw:=writers_mem (N:=ops.size) ops.toList.zipIdx (Array.replicate ops.size []) (by simp) o i d (.inl ⟨List.mem_iff_getElem?.2 ⟨i,by simp [hi]⟩,hd⟩) hmod
  have h1:=List.all_eq_true.1 h (o',j) (List.mem_iff_getElem?.2 ⟨j,by simp [hj]⟩)
  have h2:=List.all_eq_true.1 h1 d (by
    rcases hn with hn | hn
    · exact List.mem_append_left _ (by simp [hn])
    · exact List.mem_append_right _ (List.mem_filterMap.2 ⟨_,hn,rfl⟩))
  have h3:=List.all_eq_true.1 h2 (d,i) hw
  simp only [bne_self_eq_false,Bool.false_or,Bool.or_eq_true,beq_iff_eq] at h3
  rcases h3 with h3 | h3
  · exact .inl h3
  · have:=before_ok hb h3
    rcases Nat.lt_trichotomy i j with hlt | heq | hgt
    · rw [Nat.max_eq_right (Nat.le_of_lt hlt),Nat.min_eq_left (Nat.le_of_lt hlt)] at this
      exact .inr (.inl ⟨hlt,this⟩)
    · exact .inl heq
    · rw [Nat.max_eq_left (Nat.le_of_lt hgt),Nat.min_eq_right (Nat.le_of_lt hgt)] at this
      exact .inr (.inr ⟨hgt,this⟩)
theorem ok_back {types:Array TypeInfo} {draw:Bool} (h:Region.ok types ops draw=true):Back ops∧Slots ops:=by
  unfold Region.ok at h
  simp only [Bool.and_eq_true] at h
  have hb:Back ops:=by
    intro i o ed hi hm hbd
    have hall:=h.1.1.1.1
    rw [Array.all_eq_true_iff_forall_mem] at hall
    have h1:=hall (o,i) (by
      rw [Array.mem_iff_getElem?]
      exact ⟨i,by simp [hi]⟩)
    simp only [Bool.and_eq_true] at h1
    have h2:=h1.1
    rw [Array.all_eq_true_iff_forall_mem] at h2
    have h3:=h2 ed hm
    simp only [Bool.or_eq_true,decide_eq_true_eq] at h3
    rcases h3 with h3 | h3
    · exact h3
    · exfalso
      unfold Region.binds at hbd
      cases hg:ed.ground <;> simp [hg] at h3 hbd
  exact ⟨hb,slots_ok hb h.1.1.1.2⟩
end
end Go.Sh
end
section
/- The shadow machine: what an operation of a drawn region does, and what it hangs on. -/
namespace Go.Sh
section
variable [Held] {P:Program} {w:World} {ι:Inj} {B:Nat} {g:Nat→Option SObj} {h h':H} {t t':T} {a:Act} {ops:Array Oper} {Q:Exit→Act→World→Prop} {e:Ev} {n m:Nat}
theorem kind_turns {o:Op} (hk:kindOf P o=2):opN P g t o=none:=by
  cases o <;> simp only [opN] <;> simp only [kindOf] at hk <;> try (simp at hk;done)
  case binOp op ty x y b=>cases op <;> simp at hk
  case slice ty x lo hi mx=>split at hk <;> simp at hk
  case convert s d x=>
    split at hk
    · rename_i a b hs hd
      unfold nConv
      split
      · rw [hs,hd]
      · simp [convS,hs,hd,nVal]
      · rfl
    · simp at hk
  case call c=>
    unfold nCall
    obtain ⟨callee,args,tys⟩:=c
    cases callee with
    | builtin b=>cases b <;> simp at hk ⊢
    | _=>rfl
theorem kind_still {o:Op} (hk:kindOf P o≠2):opM P h t o=none:=by
  cases o <;> simp only [opM] <;> simp only [kindOf] at hk <;> try (simp at hk;done)
  case convert s d x=>
    split at hk
    · simp at hk
    · rename_i hn
      unfold mConv
      split
      · rename_i v e0 el hx hs hd;exact absurd hd (hn _ _ hs)
      · rfl
  case call c=>
    unfold mCall
    obtain ⟨callee,args,tys⟩:=c
    cases callee with
    | builtin b=>cases b <;> simp at hk ⊢
    | _=>simp at hk
theorem opN_calm {o:Op} {r:NR} (hk:kindOf P o=0) (hr:opN P g t o=some r):opN P (λ _=>none) t o=some r:=by
  cases o <;> simp only [opN,reduceCtorEq] at hr ⊢ <;> simp only [kindOf] at hk <;> first | exact hr | (simp at hk;done) | skip
  case binOp op ty x y b=>
    unfold nBin at hr ⊢
    split at hr
    · rename_i hx hy
      refine nVal_imp hr λ v hv=>?_
      unfold binS at hv ⊢
      split at hv <;> first | exact hv | (simp at hk;done) | simp at hv
    · simp at hr
  case convert s d x=>split at hk <;> simp at hk
  case slice ty x lo hi mx=>
    unfold nSlice at hr ⊢
    split at hr
    · refine nVal_imp hr λ v hv=>?_
      unfold sliceS at hv ⊢
      split at hv <;> try exact hv
      rename_i hu _
      simp [hu] at hk
    · simp at hr
  case call c=>
    unfold nCall at hr ⊢
    obtain ⟨callee,args,tys⟩:=c
    dsimp only at hr hk ⊢
    split at hr <;> first | exact hr | (simp at hk;done) | simp at hr
def Plain:SObj→Prop
  | .cells _ m=>m=.fixed∨m=.grown none
  | .map _ _=>True
theorem nVal_new {x:Option SV} {ob:SObj} {mk:Nat→SV}:nVal x≠some (.new ob mk):=by cases x <;> simp [nVal]
theorem opN_new {o:Op} {ob:SObj} {mk:Nat→SV} (hr:opN P g t o=some (.new ob mk)):Plain ob:=by
  have alloc:∀ z,nAlloc z=some (.new ob mk)→Plain ob:=λ z h=>by
    unfold nAlloc at h
    repeat' split at h
    all_goals simp only [Option.some.injEq,NR.new.injEq,reduceCtorEq] at h
    obtain ⟨rfl,_⟩:=h
    exact .inl rfl
  cases o <;> simp only [opN,reduceCtorEq] at hr
  case move x=>exact absurd hr nVal_new
  case assign x=>exact absurd hr nVal_new
  case pick c a b=>unfold nPick at hr;split at hr <;> first | exact absurd hr nVal_new | simp at hr
  case alloc ty=>exact alloc _ hr
  case box ty x=>exact alloc _ hr
  case build ty ps=>
    unfold nBuild at hr
    repeat' split at hr
    all_goals simp at hr
  case buildSlice ty k ps=>
    unfold nBuildSlice at hr
    repeat' split at hr
    all_goals simp only [Option.some.injEq,NR.new.injEq,reduceCtorEq] at hr
    obtain ⟨rfl,_⟩:=hr
    exact .inl rfl
  case load ty x=>
                    unfold nLoad at hr;repeat' split at hr
                    all_goals first | exact absurd hr nVal_new | simp at hr
  case nilCheck x=>
                     unfold nNil at hr;repeat' split at hr
                     all_goals simp at hr
  case binOp op ty x y b=>
                            unfold nBin at hr;repeat' split at hr
                            all_goals first | exact absurd hr nVal_new | simp at hr
  case unOp op ty x=>
                       unfold nUn at hr;repeat' split at hr
                       all_goals first | exact absurd hr nVal_new | simp at hr
  case convert s d x=>
    unfold nConv at hr
    split at hr
    · split at hr
      · unfold nBytes at hr
        repeat' split at hr
        all_goals simp only [Option.some.injEq,NR.new.injEq,reduceCtorEq] at hr
        obtain ⟨rfl,_⟩:=hr
        exact .inr rfl
      · simp at hr
      · simp at hr
    · exact absurd hr nVal_new
    · simp at hr
  case makeInterface ty x=>
                             unfold nIface at hr;repeat' split at hr
                             all_goals simp at hr
  case makeFunc fn first captured=>
                                     unfold nMakeFunc nFunc at hr;repeat' split at hr
                                     all_goals simp at hr
  case makeMap ty r=>
    unfold nMakeMap at hr
    split at hr <;> simp only [Option.some.injEq,NR.new.injEq,reduceCtorEq] at hr
    obtain ⟨rfl,_⟩:=hr
    trivial
  case makeSlice ty l c=>
    unfold nMakeSlice at hr
    repeat' split at hr
    all_goals simp only [Option.some.injEq,NR.new.injEq,reduceCtorEq] at hr
    obtain ⟨rfl,_⟩:=hr
    exact .inl rfl
  case slice ty x lo hi mx=>
                              unfold nSlice at hr;repeat' split at hr
                              all_goals first | exact absurd hr nVal_new | simp at hr
  case fieldAddr ty x f=>
                           unfold nFieldAddr at hr;repeat' split at hr
                           all_goals simp at hr
  case field ty x f=>
                       unfold nField at hr;repeat' split at hr
                       all_goals first | exact absurd hr nVal_new | simp at hr
  case indexAddr ty x i=>
                           unfold nIndexAddr at hr;repeat' split at hr
                           all_goals simp at hr
  case index ty x i=>
                       unfold nIndex at hr;repeat' split at hr
                       all_goals first | exact absurd hr nVal_new | simp at hr
  case lookup ty x i ok=>
                           unfold nLookup at hr;repeat' split at hr
                           all_goals first | exact absurd hr nVal_new | simp at hr
  case extract x i=>
                      unfold nExtract at hr;repeat' split at hr
                      all_goals first | exact absurd hr nVal_new | simp at hr
  case call c=>
    unfold nCall at hr
    split at hr
    · unfold nLen at hr;repeat' split at hr
      all_goals simp at hr
    · unfold nMax at hr;repeat' split at hr
      all_goals first | exact absurd hr nVal_new | simp at hr
    · unfold nMax at hr;repeat' split at hr
      all_goals first | exact absurd hr nVal_new | simp at hr
    · simp at hr
inductive Did (P:Program) (e:Ev) (n m:Nat) (ops:Array Oper) (s:Bool) (o:Oper) (t:T) (h:H) (t':T) (h':H):Prop
  | skip (hw:wantedS ops.toList t o=some false) (hh:h'=h) (hp:putT n t o.dst (.tuple [])=some t')
  | val (hw:wantedS ops.toList t o=some true) (v:SV) (hr:opN P (if s then getTo h m else h.get) t o.op=some (.val v)) (hh:h'=h) (hp:putT n t o.dst v=some t')
  | new (hw:wantedS ops.toList t o=some true) (ob:SObj) (mk:Nat→SV) (hr:opN P (if s then getTo h m else h.get) t o.op=some (.new ob mk)) (hh:h'=h.push ob) (hp:putT n t o.dst (mk h.next)=some t')
  | turn (hw:wantedS ops.toList t o=some true) (v:SV) (h1 h2:H) (hr:runM e h1 (opM P h1 t o.op)=some (v,h2)) (hn:h1.next=h.next) (hg:h1.get=h.get) (hp:putT n t o.dst v=some t')
      (hm:∀ B ι w ι' w',Moves B ι h1 w ι' h2 w'→Moves B ι h w ι' h' w'∧(s=true→∀ id,id < m→id < h.next→Like (h.get id) (h'.get id)))
theorem step_did {plan:List PC} {i:Nat} {o:Oper} (hs:Step P e n m ops plan i o t h t' h'):Did P e n m ops (sAt plan i) o t h t' h':=by
  obtain ⟨_,hs⟩:=hs
  have hstrict:strictC m (codeAt plan i)=if sAt plan i=true then some m else none:=by
    unfold sAt strictC
    cases (codeAt plan i).strict <;> rfl
  rw [hstrict] at hs
  unfold wantRun at hs
  split at hs
  · rename_i hw
    cases hb:sAt plan i with
    | false=>
      rw [hb] at hs
      simp only [Bool.false_eq_true,if_false] at hs
      unfold opStep at hs
      simp only at hs
      split at hs
      · rename_i r hr
        cases r with
        | val v=>
          simp only [stepN,Option.map_eq_some_iff,Prod.mk.injEq] at hs
          obtain ⟨t1,hp,rfl,rfl⟩:=hs
          exact .val hw v (by simpa using hr) rfl hp
        | new ob mk=>
          simp only [stepN,Option.map_eq_some_iff,Prod.mk.injEq] at hs
          obtain ⟨t1,hp,rfl,rfl⟩:=hs
          exact .new hw ob mk (by simpa using hr) rfl hp
      · unfold stepV at hs
        split at hs
        · rename_i v h1 hr
          simp only [Option.map_eq_some_iff,Prod.mk.injEq] at hs
          obtain ⟨t1,hp,rfl,rfl⟩:=hs
          exact .turn hw v h h1 hr rfl rfl hp λ _ _ _ _ _ x=>⟨x,λ h=>by simp at h⟩
        · simp at hs
    | true=>
      rw [hb] at hs
      simp only [if_true] at hs
      unfold opStep at hs
      simp only at hs
      split at hs
      · rename_i r hr
        cases r with
        | val v=>
          simp only [stepN,Option.map_eq_some_iff,Prod.mk.injEq] at hs
          obtain ⟨t1,hp,rfl,rfl⟩:=hs
          exact .val hw v (by simpa using hr) rfl hp
        | new ob mk=>
          simp only [stepN,Option.map_eq_some_iff,Prod.mk.injEq] at hs
          obtain ⟨t1,hp,rfl,rfl⟩:=hs
          exact .new hw ob mk (by simpa using hr) rfl hp
      · unfold stepV at hs
        split at hs
        · rename_i v h1 hr
          simp only [Option.map_eq_some_iff,Prod.mk.injEq] at hs
          obtain ⟨t1,hp,rfl,rfl⟩:=hs
          rcases runS_some hr with ⟨h2,e1,e2,e3,e4,e5⟩ | ⟨hq,rfl,rfl⟩
          · exact .turn hw v _ h2 e1 rfl rfl hp λ _ _ _ _ _ x=>⟨(x.lower e2 e3 e4 e5).1,λ _=>(x.lower e2 e3 e4 e5).2⟩
          · obtain ⟨h2,e1,e2,e3⟩:=hq.run e m
            exact .turn hw _ _ h2 e1 rfl rfl hp λ _ _ _ _ _ x=>⟨x.same rfl rfl e2 e3,λ _ _ _ _=>.refl⟩
        · simp at hs
  · rename_i hw
    simp only [skipT,Option.map_eq_some_iff,Prod.mk.injEq] at hs
    obtain ⟨t1,hp,rfl,rfl⟩:=hs
    exact .skip hw rfl hp
  · simp at hs
theorem m_exists {o:Oper} {v:SV} (he:CallOK P e) (hs:St B ι h w) (hl:Seen ι t a (o.looksAt ops)) (hm:runM e h (opM P h t o.op)=some (v,h')):∃ w' ι',Moves B ι h w ι' h' w':=by
  have:=m_real (ops:=ops) (Q:=λ _ _ _=>False) (K:=λ _ w'=>∃ ι',Moves B ι h w ι' h' w') he hs hl hm λ v' w' ι' _ h2=>⟨ι',h2⟩
  have h2:=wpOp_exists (P:=P) (ops:=#[{ o with guard:=none }]) (i:=0) (a:=a) (w:=w) (K:=λ _ w'=>∃ ι',Moves B ι h w ι' h' w') (by
    unfold wpOp
    simp only [List.getElem?_toArray,List.getElem?_cons_zero,Region.wanted,if_true]
    exact .inl this)
  obtain ⟨_,w',ι',h3⟩:=h2
  exact ⟨w',ι',h3⟩
structure Core (ι:Inj) (g:Nat→Option SObj) (w:World) (ι':Inj) (g':Nat→Option SObj) (w':World):Prop where
  inj:ι.le ι'
  os:w'.os=w.os
  tape:w'.tape=w.tape
  output:w'.output=w.output
  size:w.heap.size≤w'.heap.size
  frame:∀ b,b < w.heap.size→(∀ id x ob,ι id=some x→x.1=b→g id=some ob→ob.isExt)→w'.heap[b]?=w.heap[b]?
  new:∀ id x,ι id=none→ι' id=some x→w.heap.size≤x.1∨∃ id0 x0 ob,ι id0=some x0∧x0.1=x.1∧g id0=some ob∧¬ob.isExt
  ext:∀ id x ob ob',ι id=some x→g id=some ob→g' id=some ob'→(ob.isExt ↔ ob'.isExt)
theorem Core.refl:Core ι g w ι g w:=⟨Inj.le_refl _,rfl,rfl,rfl,Nat.le_refl _,λ _ _ _=>rfl,λ _ _ h h'=>by rw [h] at h';simp at h',λ _ _ _ _ _ h h'=>by rw [h] at h';cases h';rfl⟩
theorem Core.trans {ι1 ι2:Inj} {g1 g2:Nat→Option SObj} {w1 w2:World} (h0:Sim B ι g w) (h1:Sim B ι1 g1 w1) (x:Core ι g w ι1 g1 w1) (y:Core ι1 g1 w1 ι2 g2 w2):Core ι g w ι2 g2 w2 where
  inj:=Inj.le_trans x.inj y.inj
  os:=y.os.trans x.os
  tape:=y.tape.trans x.tape
  output:=y.output.trans x.output
  size:=Nat.le_trans x.size y.size
  frame:=λ k hk h=>by
    rw [y.frame k (Nat.lt_of_lt_of_le hk x.size),x.frame k hk h]
    intro id z ob hx hb hg
    cases e:ι id with
    | some u=>
      have:=x.inj _ _ e
      rw [hx] at this
      cases this
      obtain ⟨ob0,hg0,_⟩:=h0.obj id z.1 z.2.1 z.2.2 e
      exact (x.ext id z ob0 ob e hg0 hg).1 (h id z ob0 e hb hg0)
    | none=>
      rcases x.new id z e hx with l | ⟨i0,x0,o0,e0,eb,g0,ne⟩
      · omega
      · exact absurd (h i0 x0 o0 e0 (eb.trans hb) g0) ne
  new:=λ id z e h=>by
    cases e1:ι1 id with
    | some u=>
      have:=y.inj _ _ e1
      rw [h] at this
      cases this
      exact x.new id z e e1
    | none=>
      rcases y.new id z e1 h with l | ⟨i0,x0,o0,e0,eb,g0,ne⟩
      · exact .inl (Nat.le_trans x.size l)
      · cases e2:ι i0 with
        | some u=>
          have:=x.inj _ _ e2
          rw [e0] at this
          cases this
          obtain ⟨ob0,hg0,_⟩:=h0.obj i0 x0.1 x0.2.1 x0.2.2 e2
          exact .inr ⟨i0,x0,ob0,e2,eb,hg0,λ h=>ne ((x.ext i0 x0 ob0 o0 e2 hg0 g0).1 h)⟩
        | none=>
          rcases x.new i0 x0 e2 e0 with l | ⟨j,u,oj,ej,eb',gj,nj⟩
          · exact .inl (by omega)
          · exact .inr ⟨j,u,oj,ej,eb'.trans eb,gj,nj⟩
  ext:=λ id z ob ob' h hg hg'=>by
    obtain ⟨ob1,hg1,_⟩:=h1.obj id z.1 z.2.1 z.2.2 (x.inj _ _ h)
    exact (x.ext id z ob ob1 h hg hg1).trans (y.ext id z ob1 ob' (x.inj _ _ h) hg1 hg')
end
end Go.Sh
end
section
/- The shadow machine: regions of which the order is drawn. -/
namespace Go.Sh
section
variable [Held] {P:Program} {e:Ev} {n m:Nat} {ops:Array Oper} {plan:List PC} {B:Nat} {ι0:Inj} {w0:World} {Ts:Nat→T} {Hs:Nat→H} {own:Nat→Nat}
structure Run (P:Program) (e:Ev) (n m:Nat) (ops:Array Oper) (plan:List PC) (B:Nat) (ι0:Inj) (w0:World) (Ts:Nat→T) (Hs:Nat→H) (own:Nat→Nat):Prop where
  he:CallOK P e
  back:Back ops
  slots:Slots ops
  pl:Plan P ops plan
  m0:m=(Hs 0).next
  st0:St B ι0 (Hs 0) w0
  did:∀ (i:Nat) (o:Oper),ops[i]?=some o→Did P e n m ops (sAt plan i) o (Ts i) (Hs i) (Ts (i+1)) (Hs (i+1))
  ghost:∀ i,i≤ops.size→∃ ιg ag wg,Moves B ι0 (Hs 0) w0 ιg (Hs i) wg∧TRel ιg (Ts i) n ag
  next:∀ i,i < ops.size→(Hs i).next≤(Hs (i+1)).next
  turn:∀ (i:Nat) (o:Oper),ops[i]?=some o→kindOf P o.op=2→sAt plan i=true→∀ id,id < m→Like ((Hs i).get id) ((Hs (i+1)).get id)
  own:∀ c id,c < ops.size→(Hs c).next≤id→id < (Hs (c+1)).next→own id=c
  past:∃ As:Nat→Past,As 0=past0 (Hs 0)∧∀ i,i < ops.size→∀ o,ops[i]?=some o→As (i+1)=(As i).next (codeAt plan i) (Hs i) (Hs (i+1)) (lookOf P ops.toList (codeAt plan i) (plan.drop (i+1)) o (Ts i) (Hs i)) ∧
    SoftP P ops.toList (codeAt plan i) (As i) o (Ts i) (Hs i)∧LateP (codeAt plan i) (As i) (Hs (i+1))
theorem Run.mono (R:Run P e n m ops plan B ι0 w0 Ts Hs own) {i:Nat}:∀ {j:Nat},i≤j→j≤ops.size→(Hs i).next≤(Hs j).next:=by
  intro j
  induction j with
  | zero=>
            intro h _;have:i=0:=by omega
            subst this;exact Nat.le_refl _
  | succ j ih=>
    intro h h'
    by_cases e:i=j+1
    · subst e;exact Nat.le_refl _
    · exact Nat.le_trans (ih (by omega) (by omega)) (R.next j (by omega))
theorem Run.oper (R:Run P e n m ops plan B ι0 w0 Ts Hs own) {i:Nat} (h:i < ops.size):∃ o,ops[i]?=some o:=⟨ops[i],Array.getElem?_eq_getElem h⟩
theorem Run.still (R:Run P e n m ops plan B ι0 w0 Ts Hs own) {i:Nat} {o:Oper} (ho:ops[i]?=some o) (hk:kindOf P o.op≠2):Hs (i+1)=Hs i∨∃ ob,Hs (i+1)=(Hs i).push ob∧Plain ob:=by
  cases R.did i o ho with
  | skip _ hh _=>exact .inl hh
  | val _ _ _ hh _=>exact .inl hh
  | new _ ob mk hr hh _=>exact .inr ⟨ob,hh,opN_new hr⟩
  | turn _ v h1 h2 hr _ _ _ _=>rw [kind_still hk] at hr;simp [runM] at hr
theorem Run.still_get (R:Run P e n m ops plan B ι0 w0 Ts Hs own) {i id:Nat} {o:Oper} (ho:ops[i]?=some o) (hk:kindOf P o.op≠2) (hid:id < (Hs i).next):(Hs (i+1)).get id=(Hs i).get id:=by
  rcases R.still ho hk with h | ⟨ob,h,_⟩
  · rw [h]
  · rw [h,H.get_push,if_neg (by omega)]
noncomputable def G (Hs:Nat→H) (own:Nat→Nat) (p:Nat):Nat→Option SObj:=λ id=>if id < (Hs p).next then (Hs p).get id else (Hs (own id+1)).get id
def Quiet (P:Program) (ops:Array Oper) (i j:Nat):Prop:=∀ (k:Nat) (o:Oper),i≤k→k < j→ops[k]?=some o→kindOf P o.op≠2
theorem Run.G_step (R:Run P e n m ops plan B ι0 w0 Ts Hs own) {i:Nat} {o:Oper} (ho:ops[i]?=some o) (hk:kindOf P o.op≠2):G Hs own (i+1)=G Hs own i:=by
  have hi:i < ops.size:=(Array.getElem?_eq_some_iff.1 ho).1
  have hn:=R.next i hi
  funext id
  unfold G
  by_cases h1:id < (Hs i).next
  · rw [if_pos h1,if_pos (by omega),R.still_get ho hk h1]
  · rw [if_neg h1]
    by_cases h2:id < (Hs (i+1)).next
    · rw [if_pos h2,R.own i id hi (by omega) h2]
    · rw [if_neg h2]
theorem Run.G_eq (R:Run P e n m ops plan B ι0 w0 Ts Hs own) {i:Nat}:∀ {j:Nat},i≤j→j≤ops.size→Quiet P ops i j→G Hs own j=G Hs own i:=by
  intro j
  induction j with
  | zero=>
            intro h _ _;have:i=0:=by omega
            subst this;rfl
  | succ j ih=>
    intro h h' hq
    by_cases e:i=j+1
    · subst e;rfl
    · obtain ⟨o,ho⟩:=R.oper (i:=j) (by omega)
      rw [R.G_step ho (hq j o (by omega) (by omega) ho)]
      exact ih (by omega) (by omega) λ k o h1 h2=>hq k o h1 (by omega)
theorem Run.like (R:Run P e n m ops plan B ι0 w0 Ts Hs own) {i id:Nat} (hid:id < m):∀ {j:Nat},i≤j→j≤ops.size→(∀ (k:Nat) (o:Oper),i≤k→k < j→ops[k]?=some o→kindOf P o.op=2→sAt plan k=true)→Like ((Hs i).get id) ((Hs j).get id):=by
  intro j
  induction j with
  | zero=>
            intro h _ _;have:i=0:=by omega
            subst this;exact .refl
  | succ j ih=>
    intro h h' hq
    by_cases e:i=j+1
    · subst e;exact .refl
    · obtain ⟨o,ho⟩:=R.oper (i:=j) (by omega)
      refine (ih (by omega) (by omega) λ k o h1 h2=>hq k o h1 (by omega)).trans ?_
      by_cases hk:kindOf P o.op=2
      · exact R.turn j o ho hk (hq j o (by omega) (by omega) ho hk) id hid
      · rw [R.still_get ho hk (by have:=R.mono (i:=0) (j:=j) (by omega) (by omega);have:=R.m0;omega)]
        exact .refl
theorem Run.interval (R:Run P e n m ops plan B ι0 w0 Ts Hs own) {id:Nat} (h0:(Hs 0).next≤id):∀ k,k≤ops.size→id < (Hs k).next→∃ c,c < k∧(Hs c).next≤id∧id < (Hs (c+1)).next
  | 0,_,h=>by omega
  | k+1,hk,h=>by
    rcases Nat.lt_or_ge id (Hs k).next with h1 | h1
    · obtain ⟨c,h2,h3⟩:=R.interval h0 k (by omega) h1
      exact ⟨c,by omega,h3⟩
    · exact ⟨k,by omega,h1,h⟩
theorem Run.still_to (R:Run P e n m ops plan B ι0 w0 Ts Hs own) {i id:Nat} (hid:id < (Hs i).next):∀ {j:Nat},i≤j→j≤ops.size→Quiet P ops i j→(Hs j).get id=(Hs i).get id:=by
  intro j
  induction j with
  | zero=>
            intro h _ _;have:i=0:=by omega
            subst this;rfl
  | succ j ih=>
    intro h h' hq
    by_cases e:i=j+1
    · subst e;rfl
    · obtain ⟨o,ho⟩:=R.oper (i:=j) (by omega)
      rw [R.still_get ho (hq j o (by omega) (by omega) ho) (Nat.lt_of_lt_of_le hid (R.mono (by omega) (by omega)))]
      exact ih (by omega) (by omega) λ k o h1 h2=>hq k o h1 (by omega)
theorem Run.soft (R:Run P e n m ops plan B ι0 w0 Ts Hs own) {i j mask:Nat} {o:Oper} (ho:ops[j]?=some o) (hc:codeAt plan j=.soft mask) (hw:wantedS ops.toList (Ts j) o=some true) (hij:i < j) (hk:∃ s,codeAt plan i=.keep s i) (hb:bitAt mask i=true) :
    ∃ N,opN P (mixTo (Hs i) (Hs j) N) (Ts j) o.op=opN P (Hs j).get (Ts j) o.op∧∀ (k:Nat) (o:Oper),k < j→ops[k]?=some o→kindOf P o.op=2→(Hs (k+1)).next≤N:=by
  obtain ⟨As,h0,h1'⟩:=R.past
  have hj:j < ops.size:=(Array.getElem?_eq_some_iff.1 ho).1
  have h1:∀ i,i < ops.size→∃ q,As (i+1)=(As i).next (codeAt plan i) (Hs i) (Hs (i+1)) q:=λ i hi=>by
    obtain ⟨o,ho⟩:=R.oper hi
    exact ⟨_,(h1' i hi o ho).1⟩
  have mem:∀ d,i+1+d≤ops.size→(i,Hs i) ∈ (As (i+1+d)).hs:=by
    intro d
    induction d with
    | zero=>
      intro h
      obtain ⟨s,hs⟩:=hk
      obtain ⟨q,hq⟩:=h1 i (by omega)
      rw [show i+1+0=i+1 by omega,hq,hs]
      exact List.mem_cons_self ..
    | succ d ih=>
      intro h
      obtain ⟨q,hq⟩:=h1 (i+1+d) (by omega)
      rw [show i+1+(d+1)=i+1+d+1 by omega,hq]
      have:=ih (by omega)
      unfold Past.next
      split
      · exact List.mem_cons_of_mem _ this
      · split <;> exact this
      · exact this
  have new:∀ q,q≤j→∀ (k:Nat) (o:Oper),k < q→ops[k]?=some o→kindOf P o.op=2→(Hs (k+1)).next≤(As q).fresh:=by
    intro q
    induction q with
    | zero=>intro _ k _ h;omega
    | succ q ih=>
      intro hq k o' hk' ho' hk2
      obtain ⟨oq,hoq⟩:=R.oper (i:=q) (by omega)
      obtain ⟨x,hx⟩:=h1 q (by omega)
      rw [hx]
      have up:(Hs (k+1)).next≤(Hs (q+1)).next:=R.mono (by omega) (by omega)
      by_cases e:k=q
      · subst e
        obtain ⟨s,hs⟩:=R.pl.kept j mask hc k o' ho' hk2
        rw [hs];exact Nat.le_refl _
      · have:=ih (by omega) k o' (by omega) ho' hk2
        unfold Past.next
        split
        · exact up
        · split <;> exact this
        · exact this
  have:=(h1' j hj o ho).2.1 mask hc hw (i,Hs i) (by have:=mem (j - (i+1)) (by omega);rwa [show i+1+(j - (i+1))=j by omega] at this) hb
  exact ⟨_,this,new j (Nat.le_refl _)⟩
open Classical in
theorem Run.late (R:Run P e n m ops plan B ι0 w0 Ts Hs own) {i j mask:Nat} {o oi:Oper} (ho:ops[j]?=some o) (hoi:ops[i]?=some oi) (hc:codeAt plan j=.soft mask) (hw:wantedS ops.toList (Ts j) o=some true) (hij:j < i) (hk:∃ s,codeAt plan i=.keep s i) (hb:bitAt mask i=true) :
    opN P (Hs (i+1)).get (Ts j) o.op=opN P (Hs j).get (Ts j) o.op:=by
  obtain ⟨As,h0,h1⟩:=R.past
  have hi:i < ops.size:=(Array.getElem?_eq_some_iff.1 hoi).1
  obtain ⟨s,hk⟩:=hk
  have hlb:laterBit (codeAt plan j) (plan.drop (j+1))=true:=by
    rw [hc]
    refine List.any_eq_true.2 ⟨.keep s i,?_,hb⟩
    have hg:plan[i]?=some (.keep s i):=codeAt_some hk (by simp)
    refine List.mem_of_getElem? (i:=i - (j+1)) ?_
    rw [List.getElem?_drop,show j+1+(i - (j+1))=i by omega]
    exact hg
  have mem:∀ d,j+1+d≤i→∃ f,(mask,f) ∈ (As (j+1+d)).late∧(f (Hs (i+1))=true→opN P (Hs (i+1)).get (Ts j) o.op=opN P (Hs j).get (Ts j) o.op):=by
    intro d
    induction d with
    | zero=>
      intro h
      have h2:=(h1 j (by omega) o ho).1
      unfold lookOf at h2
      rw [if_pos ⟨hlb,hw⟩,hc] at h2
      rw [show j+1+0=j+1 by omega,h2]
      exact ⟨_,List.mem_cons_self ..,λ h=>of_decide_eq_true h⟩
    | succ d ih=>
      intro h
      obtain ⟨f,hf1,hf2⟩:=ih (by omega)
      obtain ⟨o',ho'⟩:=R.oper (i:=j+1+d) (by omega)
      rw [show j+1+(d+1)=j+1+d+1 by omega,(h1 (j+1+d) (by omega) o' ho').1]
      refine ⟨f,?_,hf2⟩
      unfold Past.next
      split
      · exact hf1
      · split
        · exact List.mem_cons_of_mem _ hf1
        · exact hf1
      · exact hf1
  obtain ⟨f,hf1,hf2⟩:=mem (i - (j+1)) (by omega)
  rw [show j+1+(i - (j+1))=i by omega] at hf1
  exact hf2 ((h1 i hi oi hoi).2.2 s i hk _ hf1 hb)
structure Inv (P:Program) (n:Nat) (ops:Array Oper) (B:Nat) (ι0:Inj) (w0:World) (Ts:Nat→T) (Hs:Nat→H) (own:Nat→Nat) (S:Nat→Prop) (p:Nat) (ι:Inj) (a:Act) (w:World):Prop where
  closed:∀ i j,S i→Prec ops j i→S j
  bound:p≤ops.size
  mc:∀ (i:Nat) (o:Oper),ops[i]?=some o→kindOf P o.op=2→(S i ↔ i < p)
  size:a.tmps.size=n
  defers:a.defers=[]
  tab:∀ (d:Tmp) (q:Nat),q≤ops.size→(∀ (i:Nat) (o:Oper),ops[i]?=some o→o.dst=some d→(S i ↔ i < q))→∀ x,(Ts q).get d=some x→∃ v,a.tmps[d]?=some v∧VRel ι x v
  le0:ι0.le ι
  dom:∀ id x,ι id=some x→ι0 id=some x∨∃ c,c < ops.size∧S c∧(Hs c).next≤id∧id < (Hs (c+1)).next
  all:∀ c id,c < ops.size→S c→(Hs c).next≤id→id < (Hs (c+1)).next→ι id≠none
  gh0:∀ id,id < (Hs 0).next→ι id=none→(Hs p).get id=(Hs 0).get id
  gh1:∀ c id,c < p→¬S c→(Hs c).next≤id→id < (Hs (c+1)).next→(Hs p).get id=(Hs (c+1)).get id
  nb:∀ c id b o s,c < ops.size→p≤c→S c→(Hs c).next≤id→id < (Hs (c+1)).next→ι id=some (b,o,s)→∀ id2 x2,id2≠id→ι id2=some x2→x2.1≠b
  base:B≤w.heap.size
  sim:Sim B ι (G Hs own p) w
  core:Core ι0 (Hs 0).get w0 ι (G Hs own p) w
section
variable {S:Nat→Prop} {p:Nat} {ι:Inj} {a:Act} {w:World}
theorem Inv.move1 (R:Run P e n m ops plan B ι0 w0 Ts Hs own) (I:Inv P n ops B ι0 w0 Ts Hs own S p ι a w) {o:Oper} (ho:ops[p]?=some o) (hk:kindOf P o.op≠2):Inv P n ops B ι0 w0 Ts Hs own S (p+1) ι a w:=by
  have hp:p < ops.size:=(Array.getElem?_eq_some_iff.1 ho).1
  have hG:=R.G_step ho hk
  refine { I with
    bound:=hp
    mc:=λ i o' hi hk'=>?_
    gh0:=λ id h1 h2=>?_
    gh1:=λ c id h1 h2 h3 h4=>?_
    nb:=λ c id b o s h1 h2=>I.nb c id b o s h1 (by omega)
    sim:=hG ▸ I.sim
    core:=hG ▸ I.core }
  · rw [I.mc i o' hi hk']
    have:i≠p:=λ e=>by subst e;rw [ho] at hi;cases hi;exact hk hk'
    omega
  · rw [R.still_get ho hk (Nat.lt_of_lt_of_le h1 (R.mono (Nat.zero_le _) (by omega)))]
    exact I.gh0 id h1 h2
  · by_cases e:c=p
    · subst e;rfl
    · rw [R.still_get ho hk (Nat.lt_of_lt_of_le h4 (R.mono (i:=c+1) (by omega) (by omega)))]
      exact I.gh1 c id (by omega) h2 h3 h4
theorem Inv.move (R:Run P e n m ops plan B ι0 w0 Ts Hs own):∀ (k:Nat) {p:Nat},Inv P n ops B ι0 w0 Ts Hs own S p ι a w→p+k≤ops.size→Quiet P ops p (p+k)→Inv P n ops B ι0 w0 Ts Hs own S (p+k) ι a w
  | 0,p,I,_,_=>I
  | k+1,p,I,h,hq=>by
    obtain ⟨o,ho⟩:=R.oper (i:=p) (by omega)
    have:=(I.move1 R ho (hq p o (Nat.le_refl _) (by omega) ho)).move R k (by omega) λ j o h1 h2=>hq j o (by omega) (by omega)
    rw [show p+(k+1)=p+1+k from by omega]
    exact this
theorem Inv.seen (R:Run P e n m ops plan B ι0 w0 Ts Hs own) (I:Inv P n ops B ι0 w0 Ts Hs own S p ι a w) {j:Nat} {o:Oper} (ho:ops[j]?=some o) (hj:¬S j) (hr:∀ i,Prec ops i j→S i):Seen ι (Ts j) a (o.looksAt ops):=by
  have hjs:j < ops.size:=(Array.getElem?_eq_some_iff.1 ho).1
  intro d hd x hx
  refine I.tab d j (by omega) (λ i o' hi hdst=>?_) x hx
  have key:i=j∨(i < j∧Prec ops i j)∨(j < i∧Prec ops j i):=by
    unfold Oper.looksAt at hd
    rcases List.mem_append.1 hd with hd | hd
    · obtain ⟨y,hy,hyd⟩:=List.mem_filterMap.1 hd
      cases y <;> simp only [Option.some.injEq,reduceCtorEq] at hyd
      subst hyd
      exact R.slots i j o' o _ hi hdst ho (.inr hy)
    · cases hg:o.guard with
      | none=>simp [hg] at hd
      | some q=>
        obtain ⟨g,want⟩:=q
        simp only [hg,Option.mem_toList] at hd
        exact R.pl.guard j o g want d i o' ho hg hd hi hdst
  rcases key with rfl | ⟨h1,h2⟩ | ⟨h1,h2⟩
  · exact ⟨λ h=>absurd h hj,λ h=>by omega⟩
  · exact ⟨λ _=>h1,λ _=>hr i h2⟩
  · exact ⟨λ h=>absurd (I.closed i j h h2) hj,λ h=>by omega⟩
theorem tab_const (R:Run P e n m ops plan B ι0 w0 Ts Hs own) {d:Tmp} {i:Nat}:∀ {j:Nat},i≤j→j≤ops.size→(∀ (k:Nat) (o:Oper),i≤k→k < j→ops[k]?=some o→o.dst≠some d)→(Ts j).get d=(Ts i).get d:=by
  intro j
  induction j with
  | zero=>
            intro h _ _;have:i=0:=by omega
            subst this;rfl
  | succ j ih=>
    intro h h' hq
    by_cases ei:i=j+1
    · subst ei;rfl
    · obtain ⟨o,ho⟩:=R.oper (i:=j) (by omega)
      rw [← ih (by omega) (by omega) λ k o h1 h2=>hq k o h1 (by omega)]
      have hne:=hq j o (by omega) (by omega) ho
      have put:∀ v t',putT n (Ts j) o.dst v=some t'→t'.get d=(Ts j).get d:=λ v t' hp=>by
        unfold putT at hp
        cases hd:o.dst with
        | none=>simp only [hd,Option.some.injEq] at hp;subst hp;rfl
        | some d'=>
          simp only [hd] at hp
          split at hp <;> simp only [Option.some.injEq,reduceCtorEq] at hp
          subst hp
          rw [Tr.get_set,if_neg (λ ed=>hne (by rw [hd,ed]))]
      cases R.did j o ho with
      | skip _ _ hp=>exact put _ _ hp
      | val _ _ _ _ hp=>exact put _ _ hp
      | new _ _ _ _ _ hp=>exact put _ _ hp
      | turn _ _ _ _ _ _ _ hp _=>exact put _ _ hp
theorem Inv.tab' (R:Run P e n m ops plan B ι0 w0 Ts Hs own) (I:Inv P n ops B ι0 w0 Ts Hs own S p ι a w) {j:Nat} {o:Oper} (ho:ops[j]?=some o) (hj:¬S j) {ι':Inj} {x:SV} {v:Value} (hl:ι.le ι') (hv:VRel ι' x v)
    (hp:putT n (Ts j) o.dst x=some (Ts (j+1))):(a.put o.dst v).tmps.size=n∧(a.put o.dst v).defers=[] ∧
    ∀ (d:Tmp) (q:Nat),q≤ops.size→(∀ (i:Nat) (o:Oper),ops[i]?=some o→o.dst=some d→((S i∨i=j) ↔ i < q))→∀ y,(Ts q).get d=some y→∃ v',(a.put o.dst v).tmps[d]?=some v'∧VRel ι' y v':=by
  have hjs:j < ops.size:=(Array.getElem?_eq_some_iff.1 ho).1
  have old:∀ (d:Tmp) (q:Nat),o.dst≠some d→q≤ops.size→(∀ (i:Nat) (o:Oper),ops[i]?=some o→o.dst=some d→((S i∨i=j) ↔ i < q))→∀ y,(Ts q).get d=some y→∃ v',a.tmps[d]?=some v'∧VRel ι' y v':=λ d q hd hq hc y hy=>by
    obtain ⟨v',h1,h2⟩:=I.tab d q hq (λ i o' hi hdst=>by
      rw [← hc i o' hi hdst]
      have:i≠j:=λ e=>by subst e;rw [ho] at hi;cases hi;exact hd hdst
      simp [this]) y hy
    exact ⟨v',h1,h2.mono hl⟩
  cases hd:o.dst with
  | none=>exact ⟨I.size,I.defers,λ d q hq hc y hy=>old d q (by rw [hd];simp) hq hc y hy⟩
  | some d0=>
    unfold putT at hp
    simp only [hd] at hp
    split at hp <;> simp only [Option.some.injEq,reduceCtorEq] at hp
    rename_i hlt
    refine ⟨by simp [Act.put,I.size],I.defers,λ d q hq hc y hy=>?_⟩
    by_cases ed:d=d0
    · subst ed
      have hjq:j < q:=(hc j o ho hd).1 (.inr rfl)
      have hconst:(Ts q).get d=(Ts (j+1)).get d:=tab_const R (by omega) hq λ k o' h1 h2 hk hdst=>by
        have hS:S k:=((hc k o' hk hdst).2 h2).resolve_right (by omega)
        rcases R.slots k j o' o d hk hdst ho (.inl hd) with h | ⟨h,_⟩ | ⟨_,h⟩
        · omega
        · omega
        · exact hj (I.closed k j hS h)
      rw [hconst,← hp,Tr.get_set,if_pos rfl] at hy
      cases hy
      exact ⟨v,by simp [Act.put,I.size,hlt],hv⟩
    · obtain ⟨v',h1,h2⟩:=old d q (by rw [hd];simp;exact λ h=>ed h.symm) hq hc y hy
      exact ⟨v',by simp only [Act.put];rw [Array.getElem?_setIfInBounds_ne (Ne.symm ed)];exact h1,h2⟩
theorem Inv.closed' (I:Inv P n ops B ι0 w0 Ts Hs own S p ι a w) {j:Nat} (hr:∀ i,Prec ops i j→S i):∀ i k,(S i∨i=j)→Prec ops k i→(S k∨k=j):=by
  rintro i k (h | rfl) hp
  · exact .inl (I.closed i k h hp)
  · exact .inl (hr k hp)
end
end
end Go.Sh
end
section
/- The shadow machine: one operation of a drawn region. -/
namespace Go.Sh
section
variable [Held] {P:Program} {e:Ev} {n m:Nat} {ops:Array Oper} {plan:List PC} {B:Nat} {ι0:Inj} {w0:World} {Ts:Nat→T} {Hs:Nat→H} {own:Nat→Nat}
variable {S:Nat→Prop} {p:Nat} {ι:Inj} {a:Act} {w:World} {Q:Exit→Act→World→Prop}
theorem kind_cases (P:Program) (o:Op):kindOf P o=0∨kindOf P o=1∨kindOf P o=2:=by
  cases o <;> simp only [kindOf] <;> first | (simp;done) | skip
  case binOp op ty x y b=>cases op <;> simp
  case slice ty x lo hi mx=>split <;> simp
  case convert s d x=>split <;> simp
  case call c=>split <;> simp
theorem first_turn {a b:Nat}:∀ d,a+d=b→¬Quiet P ops a b→∃ i o,a≤i∧i < b∧ops[i]?=some o∧kindOf P o.op=2∧Quiet P ops a i
  | 0,h,hq=>by
    exfalso;exact hq λ k o h1 h2=>by omega
  | d+1,h,hq=>by
    by_cases hx:∃ o,ops[a]?=some o∧kindOf P o.op=2
    · obtain ⟨o,h1,h2⟩:=hx
      exact ⟨a,o,Nat.le_refl _,by omega,h1,h2,λ k o h1 h2=>by omega⟩
    · have hq':¬Quiet P ops (a+1) b:=λ h'=>hq λ k o h1 h2 h3 h4=>by
        by_cases e:k=a
        · subst e;exact hx ⟨o,h3,h4⟩
        · exact h' k o (by omega) h2 h3 h4
      obtain ⟨i,o,h1,h2,h3,h4,h5⟩:=first_turn d (by omega) hq'
      exact ⟨i,o,by omega,h2,h3,h4,λ k o' k1 k2 k3 k4=>by
        by_cases e:k=a
        · subst e;exact hx ⟨o',k3,k4⟩
        · exact h5 k o' (by omega) k2 k3 k4⟩
theorem last_turn {a:Nat}:∀ b,a≤b→¬Quiet P ops a b→∃ i o,a≤i∧i < b∧ops[i]?=some o∧kindOf P o.op=2∧Quiet P ops (i+1) b
  | 0,h,hq=>by
    exfalso;exact hq λ k o h1 h2=>by omega
  | b+1,h,hq=>by
    by_cases hab:a≤b
    · by_cases hx:∃ o,ops[b]?=some o∧kindOf P o.op=2
      · obtain ⟨o,h1,h2⟩:=hx
        exact ⟨b,o,hab,by omega,h1,h2,λ k o h1 h2=>by omega⟩
      · have hq':¬Quiet P ops a b:=λ h'=>hq λ k o h1 h2 h3 h4=>by
          by_cases e:k=b
          · subst e;exact hx ⟨o,h3,h4⟩
          · exact h' k o h1 (by omega) h3 h4
        obtain ⟨i,o,h1,h2,h3,h4,h5⟩:=last_turn b hab hq'
        exact ⟨i,o,h1,by omega,h3,h4,λ k o' k1 k2 k3 k4=>by
          by_cases e:k=b
          · subst e;exact hx ⟨o',k3,k4⟩
          · exact h5 k o' k1 (by omega) k3 k4⟩
    · exfalso;exact hq λ k o h1 h2=>by omega
theorem Inv.reads (R:Run P e n m ops plan B ι0 w0 Ts Hs own) (I:Inv P n ops B ι0 w0 Ts Hs own S p ι a w) {j:Nat} {o:Oper} (ho:ops[j]?=some o) (hj:¬S j) (hr:∀ i,Prec ops i j→S i) (hk:kindOf P o.op≠2) {r:NR} (hwt:wantedS ops.toList (Ts j) o=some true)
    (h:opN P (if sAt plan j=true then getTo (Hs j) m else (Hs j).get) (Ts j) o.op=some r):opN P (G Hs own p) (Ts j) o.op=some r:=by
  have hjs:j < ops.size:=(Array.getElem?_eq_some_iff.1 ho).1
  rcases kind_cases P o.op with h0 | h1 | h2
  · exact (Keeps.of_eq λ _ _ h=>by simp at h).opN (opN_calm h0 h)
  · -- of those that turn the heap, between the two places, each is held to what stands apart, or it left what is looked at as it was
    have between:∀ (i:Nat) (o':Oper),(p≤i∧i < j∨j≤i∧i < p)→ops[i]?=some o'→kindOf P o'.op=2→(sAt plan i=true∧sAt plan j=true)∨(∃ mask,codeAt plan j=.soft mask∧bitAt mask i=true):=by
      intro i o' hij hi hk'
      rcases R.pl.loose i j o' o hi ho hk' h1 with h | h | h
      · have:=h.lt R.back
        rcases hij with hij | hij
        · have:=(I.mc i o' hi hk').1 (hr i h);omega
        · omega
      · have:=h.lt R.back
        rcases hij with hij | hij
        · omega
        · exact absurd (I.closed i j ((I.mc i o' hi hk').2 hij.2) h) hj
      · exact h
    cases hs:sAt plan j with
    | false=>
      rw [hs] at h
      simp only [Bool.false_eq_true,if_false] at h
      have same:G Hs own p=G Hs own j→opN P (G Hs own p) (Ts j) o.op=some r:=λ hG=>by
        rw [hG]
        refine Keeps.opN (.of_eq λ id ob e=>?_) h
        unfold G
        rw [if_pos (H.get_lt e)]
        exact e
      rcases Nat.le_total p j with hle | hle
      · by_cases hq:Quiet P ops p j
        · exact same (R.G_eq hle (by omega) hq).symm
        · obtain ⟨i,oi,h2,h3,h4,h5,h6⟩:=first_turn (j - p) (by omega) hq
          rcases between i oi (.inl ⟨h2,h3⟩) h4 h5 with k | ⟨mask,k1,k2⟩
          · rw [hs] at k;cases k.2
          · obtain ⟨N,k3,k4⟩:=R.soft ho k1 hwt h3 (R.pl.kept j mask k1 i oi h4 h5) k2
            rw [← R.G_eq h2 (by omega) h6]
            refine Keeps.opN (.of_eq λ id ob e=>?_) (k3.trans h)
            unfold mixTo at e
            unfold G
            split at e
            · rename_i hid
              rw [if_pos hid];exact e
            · rename_i hid
              split at e
              · rename_i hN
                rw [if_neg hid]
                have hlt:=H.get_lt e
                have hm0:(Hs 0).next≤id:=by have:=R.mono (Nat.zero_le i) (by omega);omega
                obtain ⟨c,hc1,hc2,hc3⟩:=R.interval hm0 j (by omega) hlt
                rw [R.own c id (by omega) hc2 hc3,← R.still_to hc3 hc1 (by omega) λ k o' q1 q2 q3 q4=>?_]
                · exact e
                · have:=k4 k o' q2 q3 q4
                  have:=R.mono (i:=c+1) (j:=k+1) (by omega) (by omega)
                  omega
              · cases e
      · by_cases hq:Quiet P ops j p
        · exact same (R.G_eq hle I.bound hq)
        · obtain ⟨i,oi,h2,h3,h4,h5,h6⟩:=last_turn p hle hq
          have hji:j < i:=by
            rcases Nat.lt_or_ge j i with hlt | hge
            · exact hlt
            · exfalso
              have:i=j:=by omega
              subst this
              rw [ho] at h4;cases h4
              exact hk h5
          rcases between i oi (.inr ⟨h2,h3⟩) h4 h5 with k | ⟨mask,k1,k2⟩
          · rw [hs] at k;cases k.2
          · have k3:=R.late ho h4 k1 hwt hji (R.pl.kept j mask k1 i oi h4 h5) k2
            rw [R.G_eq (show i+1≤p by omega) I.bound h6]
            refine Keeps.opN (.of_eq λ id ob e=>?_) (k3.trans h)
            unfold G
            rw [if_pos (H.get_lt e)]
            exact e
    | true=>
      rw [hs] at h
      simp only [if_true] at h
      refine Keeps.opN ?_ h
      have hard:∀ (i:Nat) (o':Oper),(p≤i∧i < j∨j≤i∧i < p)→ops[i]?=some o'→kindOf P o'.op=2→sAt plan i=true:=λ i o' k1 k2 k3=>by
        rcases between i o' k1 k2 k3 with q | ⟨mask,q,_⟩
        · exact q.1
        · unfold sAt at hs;rw [q] at hs;cases hs
      intro id ob e
      unfold getTo at e
      split at e
      · rename_i hid
        have hlike:Like ((Hs j).get id) ((Hs p).get id):=by
          rcases Nat.le_total p j with hle | hle
          · exact (R.like hid hle (by omega) λ k o' h1 h2 hk hk'=>hard k o' (.inl ⟨h1,h2⟩) hk hk').symm
          · exact R.like hid hle I.bound λ k o' h1 h2 hk hk'=>hard k o' (.inr ⟨h1,h2⟩) hk hk'
        have:G Hs own p id=(Hs p).get id:=by
          unfold G
          rw [if_pos]
          have:=R.mono (Nat.zero_le p) I.bound
          have:=R.m0
          omega
        rw [this]
        exact hlike.kept e
      · simp at e
  · exact absurd h2 hk
theorem Inv.unknown (R:Run P e n m ops plan B ι0 w0 Ts Hs own) (I:Inv P n ops B ι0 w0 Ts Hs own S p ι a w) {j id:Nat} (hjs:j < ops.size) (hj:¬S j) (h1:(Hs j).next≤id) (h2:id < (Hs (j+1)).next):ι id=none:=by
  cases hx:ι id with
  | none=>rfl
  | some x=>
    exfalso
    rcases I.dom id x hx with h | ⟨c,hc,hS,h3,h4⟩
    · have:=R.st0.fresh id x h
      have:=R.mono (Nat.zero_le j) (by omega)
      omega
    · have e1:=R.own c id hc h3 h4
      have e2:=R.own j id hjs h1 h2
      rw [e1] at e2
      subst e2
      exact hj hS
theorem Inv.idle (R:Run P e n m ops plan B ι0 w0 Ts Hs own) (I:Inv P n ops B ι0 w0 Ts Hs own S p ι a w) {j p':Nat} {o:Oper} (ho:ops[j]?=some o) (hj:¬S j) (hr:∀ i,Prec ops i j→S i) {x:SV} {v:Value} (hv:VRel ι x v)
    (hh:Hs (j+1)=Hs j) (hp:putT n (Ts j) o.dst x=some (Ts (j+1))) (hpp:Hs p'=Hs p) (hle:p≤p') (hle':p'≤ops.size) (hc:∀ c,c < p'→c < p∨c=j)
    (hmc:∀ (i:Nat) (o:Oper),ops[i]?=some o→kindOf P o.op=2→((S i∨i=j) ↔ i < p')):Inv P n ops B ι0 w0 Ts Hs own (λ i=>S i∨i=j) p' ι (a.put o.dst v) w:=by
  obtain ⟨t1,t2,t3⟩:=I.tab' R ho hj (Inj.le_refl _) hv hp
  have hG:G Hs own p'=G Hs own p:=by unfold G;rw [hpp]
  refine ⟨I.closed' hr,hle',hmc,t1,t2,t3,I.le0,λ id y hy=>?_,λ c id h1 h2 h3 h4=>?_,λ id h1 h2=>by rw [hpp];exact I.gh0 id h1 h2,λ c id h1 h2 h3 h4=>?_,λ c id b o s h1 h2 h3 h4 h5 h6=>?_,I.base,hG ▸ I.sim,hG ▸ I.core⟩
  · rcases I.dom id y hy with h | ⟨c,hc,hS,h⟩
    · exact .inl h
    · exact .inr ⟨c,hc,.inl hS,h⟩
  · rcases h2 with h2 | rfl
    · exact I.all c id h1 h2 h3 h4
    · rw [hh] at h4;omega
  · rw [hpp]
    rcases hc c h1 with h | h
    · exact I.gh1 c id h (λ hS=>h2 (.inl hS)) h3 h4
    · exact absurd (.inr h) h2
  · rcases h3 with h3 | rfl
    · exact I.nb c id b o s h1 (by omega) h3 h4 h5 h6
    · rw [hh] at h5;omega
theorem Inv.made (R:Run P e n m ops plan B ι0 w0 Ts Hs own) (I:Inv P n ops B ι0 w0 Ts Hs own S p ι a w) {j:Nat} {o:Oper} (ho:ops[j]?=some o) (hj:¬S j) (hr:∀ i,Prec ops i j→S i) (hk:kindOf P o.op≠2)
    {ob:SObj} {mk:Nat→SV} {v:Value} {w':World} (hn:New ι w w' ob mk v) (hpl:Plain ob) (hh:Hs (j+1)=(Hs j).push ob) (hp:putT n (Ts j) o.dst (mk (Hs j).next)=some (Ts (j+1))) :
    ∃ ι',Inv P n ops B ι0 w0 Ts Hs own (λ i=>S i∨i=j) p ι' (a.put o.dst v) w':=by
  have hjs:j < ops.size:=(Array.getElem?_eq_some_iff.1 ho).1
  have hnx:(Hs (j+1)).next=(Hs j).next+1:=by rw [hh];rfl
  have hi:ι (Hs j).next=none:=I.unknown R hjs hj (Nat.le_refl _) (by omega)
  obtain ⟨s,hrel⟩:=hn.rel
  obtain ⟨hv,hor⟩:=hrel (Hs j).next hi
  have hle:ι.le (upd ι (Hs j).next (w.heap.size,0,s)):=upd_le hi
  obtain ⟨t1,t2,t3⟩:=I.tab' R ho hj hle hv hp
  have hGid:G Hs own p (Hs j).next=some ob:=by
    have hget:(Hs (j+1)).get (Hs j).next=some ob:=by rw [hh,H.get_push,if_pos rfl]
    unfold G
    split
    · rename_i hlt
      have hjp:j < p:=by
        rcases Nat.lt_or_ge j p with h | h
        · exact h
        · have:=R.mono h (by omega);omega
      rw [I.gh1 j _ hjp hj (Nat.le_refl _) (by omega),hget]
    · rw [R.own j _ hjs (Nat.le_refl _) (by omega),hget]
  have hst:∀ cs q,G Hs own p (Hs j).next≠some (.cells cs (.stale q)):=λ cs q e=>by
    rw [hGid] at e;cases e
    rcases hpl with h | h <;> simp at h
  have hsim:=I.sim.new (g':=G Hs own p) I.base hn.old hn.size hi hGid (λ _ _=>rfl) hst (λ cs m p e hp=>by rw [hn.par _ _ e] at hp;simp at hp) hor
  have hcore:Core ι (G Hs own p) w (upd ι (Hs j).next (w.heap.size,0,s)) (G Hs own p) w':=by
    refine ⟨hle,hn.os,hn.tape,hn.output,by rw [hn.size];omega,λ b hb _=>hn.old b hb,λ id x h h'=>?_,λ id x ob ob' _ h h'=>by rw [h] at h';cases h';rfl⟩
    by_cases e:id=(Hs j).next
    · subst e;simp at h';subst h';exact .inl (Nat.le_refl _)
    · rw [show upd ι (Hs j).next (w.heap.size,0,s) id=ι id by simp [upd,e],h] at h';simp at h'
  have other:∀ id x,id≠(Hs j).next→upd ι (Hs j).next (w.heap.size,0,s) id=some x→ι id=some x:=λ id x h h'=>by simpa [upd,h] using h'
  refine ⟨_,I.closed' hr,I.bound,λ i o' hi' hk'=>?_,t1,t2,t3,Inj.le_trans I.le0 hle,λ id y hy=>?_,λ c id h1 h2 h3 h4=>?_,λ id h1 h2=>I.gh0 id h1 ?_,λ c id h1 h2 h3 h4=>I.gh1 c id h1 (λ hS=>h2 (.inl hS)) h3 h4,
    λ c id b o s' h1 h2 h3 h4 h5 h6 id2 x2 h7 h8=>?_,by rw [hn.size];have:=I.base;omega,hsim,I.core.trans R.st0.sim I.sim hcore⟩
  · have:i≠j:=λ e=>by subst e;rw [ho] at hi';cases hi';exact hk hk'
    rw [← I.mc i o' hi' hk']
    simp [this]
  · by_cases ei:id=(Hs j).next
    · exact .inr ⟨j,hjs,.inr rfl,by omega,by omega⟩
    · rcases I.dom id y (other id y ei hy) with h | ⟨c,hc,hS,h⟩
      · exact .inl h
      · exact .inr ⟨c,hc,.inl hS,h⟩
  · rcases h2 with h2 | rfl
    · intro h
      have:=I.all c id h1 h2 h3 h4
      cases hx:ι id with
      | none=>exact this hx
      | some x=>rw [hle _ _ hx] at h;simp at h
    · have:id=(Hs c).next:=by omega
      subst this;simp
  · cases hx:ι id with
    | none=>rfl
    | some x=>rw [hle _ _ hx] at h2;simp at h2
  · by_cases e2:id2=(Hs j).next
    · subst e2
      simp at h8;subst h8
      have h6':ι id=some (b,o,s'):=other id _ (Ne.symm h7) h6
      have:=I.sim.size h6'
      show w.heap.size≠b
      omega
    · have h8':=other id2 _ e2 h8
      by_cases e1:id=(Hs j).next
      · subst e1
        simp at h6
        have:=I.sim.size (b:=x2.1) (o:=x2.2.1) (s:=x2.2.2) h8'
        omega
      · rcases h3 with h3 | rfl
        · exact I.nb c id b o s' h1 h2 h3 h4 h5 (other id _ e1 h6) id2 x2 h7 h8'
        · exact absurd (show id=(Hs c).next by omega) e1
theorem Inv.stillStep (R:Run P e n m ops plan B ι0 w0 Ts Hs own) (I:Inv P n ops B ι0 w0 Ts Hs own S p ι a w) {j:Nat} {o:Oper} (ho:ops[j]?=some o) (hj:¬S j) (hr:∀ i,Prec ops i j→S i) (hk:kindOf P o.op≠2) {K:Act→World→Prop}
    (hK:∀ ι' a' w',Inv P n ops B ι0 w0 Ts Hs own (λ i=>S i∨i=j) p ι' a' w'→K a' w'):wpOp P ops Q j K a w:=by
  have hl:=I.seen R ho hj hr
  have hmc:∀ (i:Nat) (o:Oper),ops[i]?=some o→kindOf P o.op=2→((S i∨i=j) ↔ i < p):=λ i o' hi' hk'=>by
    have:i≠j:=λ e=>by subst e;rw [ho] at hi';cases hi';exact hk hk'
    rw [← I.mc i o' hi' hk']
    simp [this]
  unfold wpOp
  simp only [ho]
  cases R.did j o ho with
  | skip hw hh hp=>
    rw [if_neg (by rw [wanted_real hl hw];simp)]
    exact hK ι _ w (I.idle R ho hj hr undef_rel hh hp rfl (Nat.le_refl _) I.bound (λ c h=>.inl h) hmc)
  | val hw v h hh hp=>
    rw [if_pos (wanted_real hl hw)]
    obtain ⟨v',a1,a2⟩:=opN_sound I.sim hl.opsOf (I.reads R ho hj hr hk hw h)
    refine .inl ?_
    unfold Oper.wp;rw [a1]
    exact hK ι _ w (I.idle R ho hj hr a2 hh hp rfl (Nat.le_refl _) I.bound (λ c h=>.inl h) hmc)
  | new hw ob mk h hh hp=>
    rw [if_pos (wanted_real hl hw)]
    obtain ⟨v',w',a1,a2⟩:=opN_sound I.sim hl.opsOf (I.reads R ho hj hr hk hw h)
    refine .inl ?_
    unfold Oper.wp;rw [a1]
    obtain ⟨ι',h2⟩:=I.made R ho hj hr hk a2 (opN_new h) hh hp
    exact hK ι' _ w' h2
  | turn _ v h1 h2 h _ _ _ _=>rw [kind_still hk] at h;simp [runM] at h
end
end Go.Sh
end
section
/- The shadow machine: an operation of a drawn region that turns the heap; the region. -/
namespace Go.Sh
section
variable [Held] {P:Program} {e:Ev} {n m:Nat} {ops:Array Oper} {plan:List PC} {B:Nat} {ι0:Inj} {w0:World} {Ts:Nat→T} {Hs:Nat→H} {own:Nat→Nat}
variable {S:Nat→Prop} {p:Nat} {ι:Inj} {a:Act} {w:World} {Q:Exit→Act→World→Prop}
theorem cut_some {N id:Nat} {x:Nat × Nat × Nat} (h:cut ι N id=some x):id < N∧ι id=some x:=by
  unfold cut at h
  split at h
  · rename_i hl;exact ⟨hl,h⟩
  · simp at h
theorem cut_lt {N id:Nat} (h:id < N):cut ι N id=ι id:=by unfold cut;rw [if_pos h]
theorem Inv.cut (R:Run P e n m ops plan B ι0 w0 Ts Hs own) {j:Nat} (I:Inv P n ops B ι0 w0 Ts Hs own S j ι a w):Sim B (cut ι (Hs j).next) (Hs j).get w:=by
  obtain ⟨ιg,ag,wg,hm,_⟩:=R.ghost j I.bound
  have hG:∀ id,id < (Hs j).next→G Hs own j id=(Hs j).get id:=λ id h=>by unfold G;rw [if_pos h]
  have known:∀ id x,Sh.cut ι (Hs j).next id=some x→∃ y,ιg id=some y:=λ id x hx=>by
    obtain ⟨hlt,hx⟩:=cut_some hx
    rcases I.dom id x hx with h | ⟨c,hc,_,h1,h2⟩
    · exact ⟨x,hm.ext.inj _ _ h⟩
    · have hcj:(Hs 0).next≤(Hs c).next:=R.mono (Nat.zero_le c) (by omega)
      have:=hm.ext.all id (by omega) hlt
      cases hy:ιg id with
      | none=>exact absurd hy this
      | some y=>exact ⟨y,rfl⟩
  refine ⟨λ id b o s hi=>?_,λ id x p cs mo hi hg hp=>?_,λ i k oi ok bi bk si sk obi obk hne hi hk hb hgi hgk hdi hdk=>?_⟩
  · obtain ⟨hlt,hi'⟩:=cut_some hi
    obtain ⟨ob,h1,h2,h3,h4⟩:=I.sim.obj _ _ _ _ hi'
    rw [hG id hlt] at h1
    refine ⟨ob,h1,?_,h3,h4⟩
    obtain ⟨y,hy⟩:=known id _ hi
    obtain ⟨ob',g1,g2,_,_⟩:=hm.st.sim.obj id y.1 y.2.1 y.2.2 hy
    rw [h1] at g1;cases g1
    rcases h2 with hd | h2
    · exact .inl hd
    · rcases g2 with hd | g2
      · exact .inl hd
      · refine .inr ?_
        cases ob with
        | cells cs mo=>
          obtain ⟨rc,el,fz,a1,a2,a3,a4,a5⟩:=h2
          obtain ⟨_,_,_,_,_,_,b4,_⟩:=g2
          exact ⟨rc,el,fz,a1,a2,a3,a4.cut hm.st.fresh _ _ _ b4,a5⟩
        | map es c=>
          obtain ⟨ys,a1,a2⟩:=h2
          obtain ⟨_,_,b2⟩:=g2
          exact ⟨ys,a1,a2.cut hm.st.fresh _ _ _ b2⟩
  · obtain ⟨hlt,hi'⟩:=cut_some hi
    obtain ⟨h1,h2⟩:=I.sim.par _ _ _ _ _ hi' ((hG id hlt).trans hg) hp
    exact ⟨by rw [cut_lt (by omega)];exact h1,h2⟩
  · obtain ⟨hlti,hi'⟩:=cut_some hi
    obtain ⟨hltk,hk'⟩:=cut_some hk
    have up:∀ i k a b,i < (Hs j).next→k < (Hs j).next→ι i≠none→Above (G Hs own j) i k a b→Above (Hs j).get i k a b:=λ i k a b h1 h2 h3 ⟨hA,hL⟩=>by
      refine ⟨hA.keep (λ cs m p h h'=>⟨cs,m,(hG i h1).symm.trans h,h'⟩) λ p cs q hip _ hgp=>(hG p ?_).symm,by rw [← hG i h1,← hG k h2];exact hL⟩
      have:=(hip.tied I.sim.tied h3).1
      omega
    rcases I.sim.sep i k oi ok bi bk si sk obi obk hne hi' hk' hb ((hG i hlti).trans hgi) ((hG k hltk).trans hgk) hdi hdk with h | h | h
    · exact .inl h
    · exact .inr (.inl (up i k _ _ hlti hltk (by rw [hi'];simp) h))
    · exact .inr (.inr (up k i _ _ hltk hlti (by rw [hk'];simp) h))
def join (ι ι':Inj) (N:Nat):Inj:=λ id=>if id < N then ι' id else ι id
theorem Inv.turned (R:Run P e n m ops plan B ι0 w0 Ts Hs own) {j:Nat} (I:Inv P n ops B ι0 w0 Ts Hs own S j ι a w) {o:Oper} (ho:ops[j]?=some o) (hj:¬S j) (hr:∀ i,Prec ops i j→S i) (hk:kindOf P o.op=2)
    {ι2:Inj} {w':World} {x:SV} {v:Value} (hm:Moves B (Sh.cut ι (Hs j).next) (Hs j) w ι2 (Hs (j+1)) w') (hv:VRel ι2 x v) (hp:putT n (Ts j) o.dst x=some (Ts (j+1))) :
    ∃ ι',Inv P n ops B ι0 w0 Ts Hs own (λ i=>S i∨i=j) (j+1) ι' (a.put o.dst v) w':=by
  have hjs:j < ops.size:=(Array.getElem?_eq_some_iff.1 ho).1
  have hnn:(Hs j).next≤(Hs (j+1)).next:=R.next j hjs
  have h0j:(Hs 0).next≤(Hs j).next:=R.mono (Nat.zero_le j) (by omega)
  -- what is known and lies behind, was made behind
  have behind:∀ id x,(Hs j).next≤id→ι id=some x→∃ c,c < ops.size∧j+1≤c∧S c∧(Hs c).next≤id∧id < (Hs (c+1)).next∧(Hs (j+1)).next≤id:=λ id x h hx=>by
    rcases I.dom id x hx with h1 | ⟨c,hc,hS,h1,h2⟩
    · have:=R.st0.fresh id x h1;omega
    · have hcj:j+1≤c:=by
        rcases Nat.lt_trichotomy c j with hl | rfl | hl
        · have:=R.mono (i:=c+1) (j:=j) (by omega) (by omega);omega
        · exact absurd hS hj
        · omega
      exact ⟨c,hc,hcj,hS,h1,h2,Nat.le_trans (R.mono hcj (by omega)) h1⟩
  have hle2:ι2.le (join ι ι2 (Hs (j+1)).next):=λ id x hx=>by
    unfold join;rw [if_pos (hm.st.fresh id x hx)];exact hx
  have hle:ι.le (join ι ι2 (Hs (j+1)).next):=λ id x hx=>by
    unfold join
    split
    · rename_i hlt
      rcases Nat.lt_or_ge id (Hs j).next with h | h
      · exact hm.ext.inj id x (by rw [cut_lt h];exact hx)
      · obtain ⟨c,_,_,_,_,_,h2⟩:=behind id x h hx;omega
    · exact hx
  have hlow:∀ id x,id < (Hs (j+1)).next→join ι ι2 (Hs (j+1)).next id=some x→ι2 id=some x:=λ id x h hx=>by
    unfold join at hx;rw [if_pos h] at hx;exact hx
  have hhigh:∀ id x,(Hs (j+1)).next≤id→join ι ι2 (Hs (j+1)).next id=some x→ι id=some x:=λ id x h hx=>by
    unfold join at hx;rw [if_neg (by omega)] at hx;exact hx
  have hGlow:∀ id,id < (Hs (j+1)).next→G Hs own (j+1) id=(Hs (j+1)).get id:=λ id h=>by unfold G;rw [if_pos h]
  have hGj:∀ id,id < (Hs j).next→G Hs own j id=(Hs j).get id:=λ id h=>by unfold G;rw [if_pos h]
  have hGhigh:∀ id,(Hs (j+1)).next≤id→G Hs own (j+1) id=G Hs own j id:=λ id h=>by unfold G;rw [if_neg (by omega),if_neg (by omega)]
  -- a thing made behind is plain
  have plain:∀ id x,(Hs (j+1)).next≤id→ι id=some x→∃ ob,G Hs own j id=some ob∧Plain ob:=λ id x h hx=>by
    obtain ⟨c,hc,hcj,hS,h1,h2,_⟩:=behind id x (by omega) hx
    obtain ⟨oc,hoc⟩:=R.oper hc
    have hkc:kindOf P oc.op≠2:=λ hk=>by have:=(I.mc c oc hoc hk).1 hS;omega
    rcases R.still hoc hkc with hh | ⟨ob,hh,hpl⟩
    · rw [hh] at h2;omega
    · refine ⟨ob,?_,hpl⟩
      have:id=(Hs c).next:=by rw [hh] at h2;simp at h2;omega
      unfold G
      rw [if_neg (by omega),R.own c id hc h1 h2,hh,H.get_push,if_pos this]
  -- its block is its own
  have apart:∀ id b o s,(Hs (j+1)).next≤id→ι id=some (b,o,s)→∀ id2 x2,id2≠id→ι id2=some x2→x2.1≠b:=λ id b o s h hx=>by
    obtain ⟨c,hc,hcj,hS,h1,h2,_⟩:=behind id _ (by omega) hx
    exact I.nb c id b o s hc (by omega) hS h1 h2 hx
  have apart2:∀ id b o s,(Hs (j+1)).next≤id→ι id=some (b,o,s)→∀ id2 x2,ι2 id2=some x2→x2.1≠b:=λ id b o s h hx id2 x2 hx2=>by
    cases hc:Sh.cut ι (Hs j).next id2 with
    | some y=>
      have:=hm.ext.inj _ _ hc
      rw [hx2] at this;cases this
      obtain ⟨hlt,hc⟩:=cut_some hc
      exact apart id b o s h hx id2 x2 (by omega) hc
    | none=>
      rcases hm.ext.new id2 x2 hc hx2 with h1 | ⟨id0,x0,ob,h1,h2,_,_⟩
      · have:=I.sim.size hx;omega
      · obtain ⟨hlt,h1⟩:=cut_some h1
        rw [← h2]
        exact apart id b o s h hx id0 x0 (by omega) h1
  have still:∀ id b o s,(Hs (j+1)).next≤id→ι id=some (b,o,s)→w'.heap[b]?=w.heap[b]?:=λ id b o s h hx=>by
    refine hm.ext.frame b (I.sim.size hx) λ id0 x0 ob hx0 hb _=>?_
    obtain ⟨hlt,hx0⟩:=cut_some hx0
    exact absurd hb (apart id b o s h hx id0 x0 (by omega) hx0)
  have hsim:Sim B (join ι ι2 (Hs (j+1)).next) (G Hs own (j+1)) w':=by
    refine ⟨λ id b o s hi=>?_,λ id x p cs mo hi hg hp=>?_,λ i k oi ok bi bk si sk obi obk hne hi hk hb hgi hgk hdi hdk=>?_⟩
    · rcases Nat.lt_or_ge id (Hs (j+1)).next with h | h
      · obtain ⟨ob,h1,h2,h3,h4⟩:=hm.st.sim.obj _ _ _ _ (hlow id _ h hi)
        exact ⟨ob,(hGlow id h).trans h1,h2.mono hle2 rfl,h3,h4⟩
      · have hi':=hhigh id _ h hi
        obtain ⟨ob,h1,h2,h3,h4⟩:=I.sim.obj _ _ _ _ hi'
        exact ⟨ob,(hGhigh id h).trans h1,h2.mono hle (still id b o s h hi'),Nat.lt_of_lt_of_le h3 hm.ext.size,h4⟩
    · rcases Nat.lt_or_ge id (Hs (j+1)).next with h | h
      · obtain ⟨h1,h2⟩:=hm.st.sim.par _ _ _ _ _ (hlow id _ h hi) ((hGlow id h).symm.trans hg) hp
        refine ⟨λ hn=>?_,h2⟩
        cases hx:ι2 p with
        | none=>exact h1 hx
        | some y=>rw [hle2 _ _ hx] at hn;simp at hn
      · obtain ⟨ob,h1,h2⟩:=plain id _ h (hhigh id _ h hi)
        rw [hGhigh id h,h1] at hg;cases hg
        rcases h2 with h2 | h2 <;> subst h2 <;> simp [Mode.par] at hp
    · rcases Nat.lt_or_ge i (Hs (j+1)).next with h1 | h1
      · rcases Nat.lt_or_ge k (Hs (j+1)).next with h2 | h2
        · have hi2:=hlow i _ h1 hi
          have hk2:=hlow k _ h2 hk
          have up:∀ i k a b,i < (Hs (j+1)).next→k < (Hs (j+1)).next→ι2 i≠none→Above (Hs (j+1)).get i k a b→Above (G Hs own (j+1)) i k a b:=λ i k a b h1 h2 h3 ⟨hA,hL⟩=>by
            refine ⟨hA.keep (λ cs m p h h'=>⟨cs,m,(hGlow i h1).trans h,h'⟩) λ p cs q hip _ hgp=>hGlow p ?_,by rw [hGlow i h1,hGlow k h2];exact hL⟩
            have:=(hip.tied hm.st.sim.tied h3).1
            omega
          rcases hm.st.sim.sep i k oi ok bi bk si sk obi obk hne hi2 hk2 hb ((hGlow i h1).symm.trans hgi) ((hGlow k h2).symm.trans hgk) hdi hdk with h | h | h
          · exact .inl h
          · exact .inr (.inl (up i k _ _ h1 h2 (by rw [hi2];simp) h))
          · exact .inr (.inr (up k i _ _ h2 h1 (by rw [hk2];simp) h))
        · exact absurd hb (apart2 k bk ok sk h2 (hhigh k _ h2 hk) i _ (hlow i _ h1 hi))
      · rcases Nat.lt_or_ge k (Hs (j+1)).next with h2 | h2
        · exact absurd hb.symm (apart2 i bi oi si h1 (hhigh i _ h1 hi) k _ (hlow k _ h2 hk))
        · exact absurd hb.symm (apart i bi oi si h1 (hhigh i _ h1 hi) k _ (Ne.symm hne) (hhigh k _ h2 hk))
  have hcore:Core ι (G Hs own j) w (join ι ι2 (Hs (j+1)).next) (G Hs own (j+1)) w':=by
    refine ⟨hle,hm.ext.os,hm.ext.tape,hm.ext.output,hm.ext.size,λ b hb hx=>?_,λ id x h h'=>?_,λ id x ob ob' h hg hg'=>?_⟩
    · refine hm.ext.frame b hb λ id0 x0 ob hx0 hb0 hg0=>?_
      obtain ⟨hlt,hx0⟩:=cut_some hx0
      exact hx id0 x0 ob hx0 hb0 ((hGj id0 hlt).trans hg0)
    · rcases Nat.lt_or_ge id (Hs (j+1)).next with hl | hl
      · have h2:=hlow id x hl h'
        have hc:Sh.cut ι (Hs j).next id=none:=by unfold Sh.cut;split <;> first | exact h | rfl
        rcases hm.ext.new id x hc h2 with h1 | ⟨id0,x0,ob,h1,h3,h4,h5⟩
        · exact .inl h1
        · obtain ⟨hlt,h1⟩:=cut_some h1
          exact .inr ⟨id0,x0,ob,h1,h3,(hGj id0 hlt).trans h4,h5⟩
      · rw [hhigh id x hl h'] at h;simp at h
    · rcases Nat.lt_or_ge id (Hs j).next with hl | hl
      · exact hm.ext.ext id x ob ob' (by rw [cut_lt hl];exact h) ((hGj id hl).symm.trans hg) ((hGlow id (by omega)).symm.trans hg')
      · obtain ⟨c,_,_,_,_,_,h2⟩:=behind id x hl h
        rw [hGhigh id h2,hg] at hg';cases hg';rfl
  obtain ⟨t1,t2,t3⟩:=I.tab' R ho hj hle (hv.mono hle2) hp
  have none_of:∀ id,id < (Hs j).next→join ι ι2 (Hs (j+1)).next id=none→ι id=none:=λ id h hn=>by
    cases hx:ι id with
    | none=>rfl
    | some x=>rw [hle _ _ hx] at hn;simp at hn
  refine ⟨_,I.closed' hr,hjs,λ i o' hi hk'=>?_,t1,t2,t3,Inj.le_trans I.le0 hle,λ id y hy=>?_,λ c id h1 h2 h3 h4=>?_,λ id h1 h2=>?_,λ c id h1 h2 h3 h4=>?_,λ c id b o s h1 h2 h3 h4 h5 h6 id2 x2 h7 h8=>?_,
    hm.st.base,hsim,I.core.trans R.st0.sim I.sim hcore⟩
  · rw [I.mc i o' hi hk'];omega
  · rcases Nat.lt_or_ge id (Hs (j+1)).next with hl | hl
    · rcases Nat.lt_or_ge id (Hs j).next with hl' | hl'
      · rcases hm.ext.dom id y (hlow id y hl hy) with h | ⟨h,_⟩
        · obtain ⟨_,h⟩:=cut_some h
          rcases I.dom id y h with h | ⟨c,hc,hS,h⟩
          · exact .inl h
          · exact .inr ⟨c,hc,.inl hS,h⟩
        · omega
      · exact .inr ⟨j,hjs,.inr rfl,hl',hl⟩
    · rcases I.dom id y (hhigh id y hl hy) with h | ⟨c,hc,hS,h⟩
      · exact .inl h
      · exact .inr ⟨c,hc,.inl hS,h⟩
  · intro hn
    rcases h2 with h2 | rfl
    · have:=I.all c id h1 h2 h3 h4
      cases hx:ι id with
      | none=>exact this hx
      | some x=>rw [hle _ _ hx] at hn;simp at hn
    · have:=hm.ext.all id h3 h4
      cases hx:ι2 id with
      | none=>exact this hx
      | some x=>rw [hle2 _ _ hx] at hn;simp at hn
  · have hn:=none_of id (by omega) h2
    rw [hm.ext.ghost id (by omega) (by rw [cut_lt (by omega)];exact hn)]
    exact I.gh0 id h1 hn
  · have hcj:c≠j:=λ e=>h2 (.inr e)
    have hlt:id < (Hs j).next:=Nat.lt_of_lt_of_le h4 (R.mono (by omega) (by omega))
    have hn:ι id=none:=I.unknown R (by omega) (λ hS=>h2 (.inl hS)) h3 h4
    rw [hm.ext.ghost id hlt (by rw [cut_lt hlt];exact hn)]
    exact I.gh1 c id (by omega) (λ hS=>h2 (.inl hS)) h3 h4
  · have hl:(Hs (j+1)).next≤id:=Nat.le_trans (R.mono h2 (by omega)) h4
    have h6':=hhigh id _ hl h6
    rcases Nat.lt_or_ge id2 (Hs (j+1)).next with hl2 | hl2
    · exact apart2 id b o s hl h6' id2 x2 (hlow id2 _ hl2 h8)
    · exact apart id b o s hl h6' id2 x2 h7 (hhigh id2 _ hl2 h8)
theorem Seen.cut {ι ιg:Inj} {t:T} {N:Nat} {ag:Act} {l:List Tmp} (h:Seen ι t a l) (hg:TRel ιg t n ag) (hf:Fresh ιg N):Seen (Sh.cut ι N) t a l:=λ d hd x hx=>by
  obtain ⟨v,h1,h2⟩:=h d hd x hx
  obtain ⟨u,_,g2⟩:=hg.rel d x hx
  exact ⟨v,h1,h2.cut hf _ _ _ g2⟩
theorem Inv.turnStep (R:Run P e n m ops plan B ι0 w0 Ts Hs own) (I:Inv P n ops B ι0 w0 Ts Hs own S p ι a w) {j:Nat} {o:Oper} (ho:ops[j]?=some o) (hj:¬S j) (hr:∀ i,Prec ops i j→S i) (hk:kindOf P o.op=2) {K:Act→World→Prop}
    (hK:∀ p' ι' a' w',Inv P n ops B ι0 w0 Ts Hs own (λ i=>S i∨i=j) p' ι' a' w'→K a' w'):wpOp P ops Q j K a w:=by
  have hjs:j < ops.size:=(Array.getElem?_eq_some_iff.1 ho).1
  have hpj:p≤j:=by
    rcases Nat.lt_or_ge j p with h | h
    · exact absurd ((I.mc j o ho hk).2 h) hj
    · exact h
  have hq:Quiet P ops p (p+(j - p)):=λ i o' h1 h2 hi hk'=>by
    have:=R.pl.chain i j o' o (by omega) hi ho hk' hk
    have:=(I.mc i o' hi hk').1 (hr i this)
    omega
  have I:=I.move R (j - p) (by omega) hq
  rw [show p+(j - p)=j from by omega] at I
  have hl:=I.seen R ho hj hr
  unfold wpOp
  simp only [ho]
  cases R.did j o ho with
  | skip hw hh hp=>
    rw [if_neg (by rw [wanted_real hl hw];simp)]
    refine hK (j+1) ι _ w (I.idle R ho hj hr undef_rel hh hp hh (by omega) hjs (λ c h=>by omega) λ i o' hi hk'=>?_)
    rw [I.mc i o' hi hk'];omega
  | val _ _ h _ _=>
    rw [kind_turns hk] at h;simp at h
  | new _ _ _ h _ _=>
    rw [kind_turns hk] at h;simp at h
  | turn hw v h1 h2 h hn hg hp hmv=>
    rw [if_pos (wanted_real hl hw)]
    refine .inl ?_
    obtain ⟨ιg,ag,wg,gm,gt⟩:=R.ghost j (by omega)
    have hst:St B (Sh.cut ι (Hs j).next) h1 w:=⟨by rw [hg];exact I.cut R,λ id x hx=>by rw [hn];exact (cut_some hx).1,I.base,R.st0.heldBy I.core.frame⟩
    refine m_real (ops:=ops) R.he hst (hl.cut gt gm.st.fresh) h λ v' w' ι2 b1 b2=>?_
    obtain ⟨ι',h3⟩:=I.turned R ho hj hr hk (hmv _ _ _ _ _ b2).1 b1 hp
    exact hK (j+1) ι' _ w' h3
end
end Go.Sh
end
section
/- The shadow machine: regions. -/
namespace Go.Sh
section
variable [Held] {P:Program} {e:Ev} {n m:Nat} {ops:Array Oper} {plan:List PC} {B:Nat} {ι0:Inj} {w0:World} {Ts:Nat→T} {Hs:Nat→H} {own:Nat→Nat}
variable {S:Nat→Prop} {p:Nat} {ι:Inj} {a:Act} {w:World} {Q:Exit→Act→World→Prop} {g g':Nat→Option SObj}
theorem Sim.agree (hs:Sim B ι g w) {N:Nat} (hf:Fresh ι N) (hg:∀ id,id < N→g' id=g id):Sim B ι g' w:=by
  refine ⟨λ id b o s hi=>?_,λ id x p cs m hi hgi hp=>hs.par id x p cs m hi ((hg id (hf _ _ hi)).symm.trans hgi) hp,λ i k oi ok bi bk si sk obi obk hne hi hk hb hgi hgk hdi hdk=>?_⟩
  · obtain ⟨ob,h1,h2⟩:=hs.obj _ _ _ _ hi
    exact ⟨ob,(hg id (hf _ _ hi)).trans h1,h2⟩
  · have hin:=hf _ _ hi
    have hkn:=hf _ _ hk
    have up:∀ i k a b,i < N→k < N→ι i≠none→Above g i k a b→Above g' i k a b:=λ i k a b h1 h2 h3 ⟨hA,hL⟩=>by
      refine ⟨hA.keep (λ cs m p h h'=>⟨cs,m,(hg i h1).trans h,h'⟩) λ p cs q hip _ hgp=>hg p ?_,by rw [hg i h1,hg k h2];exact hL⟩
      have:=(hip.tied hs.tied h3).1
      omega
    rcases hs.sep i k oi ok bi bk si sk obi obk hne hi hk hb ((hg i hin).symm.trans hgi) ((hg k hkn).symm.trans hgk) hdi hdk with h | h | h
    · exact .inl h
    · exact .inr (.inl (up i k _ _ hin hkn (by rw [hi];simp) h))
    · exact .inr (.inr (up k i _ _ hkn hin (by rw [hk];simp) h))
theorem Run.inv0 (R:Run P e n m ops plan B ι0 w0 Ts Hs own) (ht:TRel ι0 (Ts 0) n a) (hf:∀ i,¬S i):Inv P n ops B ι0 w0 Ts Hs own S 0 ι0 a w0:=by
  have hG:∀ id,id < (Hs 0).next→G Hs own 0 id=(Hs 0).get id:=λ id h=>by unfold G;rw [if_pos h]
  refine ⟨λ i j h=>absurd h (hf i),Nat.zero_le _,λ i o _ _=>⟨λ h=>absurd h (hf i),λ h=>by omega⟩,ht.size,ht.defers,λ d q hq hc x hx=>?_,Inj.le_refl _,λ id x h=>.inl h,λ c id _ h=>absurd h (hf c),λ _ _ _=>rfl,
    λ c id h=>by omega,λ c id b o s _ _ h=>absurd h (hf c),R.st0.base,R.st0.sim.agree R.st0.fresh hG,?_⟩
  · rw [tab_const R (i:=0) (Nat.zero_le q) hq λ k o _ h2 hk hd=>absurd ((hc k o hk hd).2 h2) (hf k)] at hx
    exact ht.rel d x hx
  · refine ⟨Inj.le_refl _,rfl,rfl,rfl,Nat.le_refl _,λ _ _ _=>rfl,λ id x h h'=>by rw [h] at h';simp at h',λ id x ob ob' h hg hg'=>?_⟩
    rw [hG id (R.st0.fresh _ _ h),hg] at hg'
    cases hg';rfl
theorem Inv.done (R:Run P e n m ops plan B ι0 w0 Ts Hs own) (I:Inv P n ops B ι0 w0 Ts Hs own S p ι a w) (hS:∀ i,i < ops.size→S i):Moves B ι0 (Hs 0) w0 ι (Hs ops.size) w∧TRel ι (Ts ops.size) n a:=by
  have hq:Quiet P ops p (p+(ops.size - p)):=λ i o h1 h2 hi hk=>by
    have hlt:i < ops.size:=(Array.getElem?_eq_some_iff.1 hi).1
    have:=(I.mc i o hi hk).1 (hS i hlt)
    omega
  have hb:=I.bound
  have I:=I.move R (ops.size - p) (by omega) hq
  rw [show p+(ops.size - p)=ops.size from by omega] at I
  have hG:∀ id,id < (Hs ops.size).next→(Hs ops.size).get id=G Hs own ops.size id:=λ id h=>by unfold G;rw [if_pos h]
  have h0N:(Hs 0).next≤(Hs ops.size).next:=R.mono (Nat.zero_le _) (Nat.le_refl _)
  have hf:Fresh ι (Hs ops.size).next:=λ id x hx=>by
    rcases I.dom id x hx with h | ⟨c,hc,_,_,h⟩
    · have:=R.st0.fresh id x h;omega
    · have:=R.mono (i:=c+1) (j:=ops.size) (by omega) (Nat.le_refl _);omega
  obtain ⟨ιg,ag,wg,gm,_⟩:=R.ghost ops.size (Nat.le_refl _)
  refine ⟨⟨⟨I.sim.agree hf hG,hf,I.base,R.st0.heldBy I.core.frame⟩,?_,gm.low⟩,I.size,I.defers,λ d x hx=>?_⟩
  · refine ⟨I.core.inj,h0N,λ id x h=>?_,λ id h1 h2=>?_,I.core.os,I.core.tape,I.core.output,I.core.size,I.core.frame,I.core.new,λ id x ob ob' h hg hg'=>?_,λ id h1 h2=>?_⟩
    · rcases I.dom id x h with h | ⟨c,hc,_,h1,h2⟩
      · exact .inl h
      · have:=R.mono (i:=0) (j:=c) (Nat.zero_le _) (by omega)
        have:=R.mono (i:=c+1) (j:=ops.size) (by omega) (Nat.le_refl _)
        exact .inr (by omega)
    · obtain ⟨c,hc,h3,h4⟩:=R.interval h1 ops.size (Nat.le_refl _) h2
      exact I.all c id hc (hS c hc) h3 h4
    · exact I.core.ext id x ob ob' h hg ((hG id (hf _ _ (I.core.inj _ _ h))).symm.trans hg')
    · refine I.gh0 id h1 ?_
      cases hx:ι id with
      | none=>rfl
      | some x=>
        rcases I.dom id x hx with h | ⟨c,hc,_,h3,_⟩
        · rw [h2] at h;simp at h
        · have:=R.mono (i:=0) (j:=c) (Nat.zero_le _) (by omega);omega
  · exact I.tab d ops.size (Nat.le_refl _) (λ i o hi _=>⟨λ _=>(Array.getElem?_eq_some_iff.1 hi).1,λ h=>hS i h⟩) x hx
theorem any_ok (R:Run P e n m ops plan B ι0 w0 Ts Hs own) (hQ:∀ ι a w,Moves B ι0 (Hs 0) w0 ι (Hs ops.size) w→TRel ι (Ts ops.size) n a→Q .normal a w):∀ (fuel:Nat) (listed:Array Bool) (U:List Nat) (p:Nat) (ι:Inj) (a:Act) (w:World),
    Inv P n ops B ι0 w0 Ts Hs own (λ i=>listed.getD i false=true) p ι a w→listed.size=ops.size→U.length≤fuel→(∀ i,i < ops.size→listed.getD i false=false→i ∈ U)→wpAny P .any ops Q fuel listed a w:=by
  have alldone:∀ (listed:Array Bool),listed.size=ops.size→Region.ready .any ops listed=[]→∀ i,i < ops.size→listed.getD i false=true:=by
    intro listed hsz hr i
    induction i using Nat.strongRecOn with
    | _ i ih=>
      intro hi
      cases hl:listed.getD i false with
      | true=>rfl
      | false=>
        exfalso
        obtain ⟨o,ho⟩:=R.oper hi
        have:i ∈ Region.ready .any ops listed:=by
          rw [mem_ready]
          refine ⟨?_,o,ho,λ ed hed hb=>?_⟩
          · rw [Array.getD_eq_getD_getElem?,Array.getElem?_eq_getElem (by omega)] at hl ⊢
            exact hl
          · have:=R.back i o ed ho hed hb
            exact ih ed.on this (by omega)
        rw [hr] at this
        simp at this
  intro fuel
  induction fuel with
  | zero=>
    intro listed U p ι a w I hsz hU hin
    have hall:∀ i,i < ops.size→listed.getD i false=true:=λ i hi=>by
      cases hl:listed.getD i false with
      | true=>rfl
      | false=>
                 have:=hin i hi hl
                 have:U=[]:=List.eq_nil_of_length_eq_zero (by omega)
                 subst this;simp at *
    refine ⟨?_,?_⟩
    · apply List.eq_nil_iff_forall_not_mem.2
      intro j hj
      rw [mem_ready] at hj
      obtain ⟨h1,o,ho,_⟩:=hj
      have hjs:j < ops.size:=(Array.getElem?_eq_some_iff.1 ho).1
      have:=hall j hjs
      rw [Array.getD_eq_getD_getElem?,Array.getElem?_eq_getElem (by omega)] at this h1
      simp at this h1
      rw [this] at h1;simp at h1
    · obtain ⟨h1,h2⟩:=I.done R hall
      exact hQ _ _ _ h1 h2
  | succ fuel ih=>
    intro listed U p ι a w I hsz hU hin
    refine ⟨λ hr=>?_,λ j hj=>?_⟩
    · obtain ⟨h1,h2⟩:=I.done R (alldone listed hsz hr)
      exact hQ _ _ _ h1 h2
    · rw [mem_ready] at hj
      obtain ⟨h1,o,ho,hall⟩:=hj
      have hjs:j < ops.size:=(Array.getElem?_eq_some_iff.1 ho).1
      have hnl:listed.getD j false=false:=by
        rw [Array.getD_eq_getD_getElem?,Array.getElem?_eq_getElem (by omega)] at h1 ⊢
        exact h1
      have hns:¬(listed.getD j false=true):=by rw [hnl];simp
      have hready:∀ i,Prec ops i j→listed.getD i false=true:=λ i hp=>by
        cases hp with
        | edge h hm hb=>rw [ho] at h;cases h;exact hall _ hm hb
        | more h hm hb hk=>rw [ho] at h;cases h;exact I.closed _ _ (hall _ hm hb) hk
      have hS:(λ i=>listed.getD i false=true∨i=j)=λ i=>(listed.setIfInBounds j true).getD i false=true:=by
        funext i
        apply propext
        rw [Array.getD_eq_getD_getElem?,Array.getD_eq_getD_getElem?,Array.getElem?_setIfInBounds]
        by_cases e:j=i
        · subst e;simp [hsz,hjs]
        · have:i≠j:=λ h=>e h.symm
          simp [e,this]
      have next:∀ p' ι' a' w',Inv P n ops B ι0 w0 Ts Hs own (λ i=>listed.getD i false=true∨i=j) p' ι' a' w'→wpAny P .any ops Q fuel (listed.setIfInBounds j true) a' w':=λ p' ι' a' w' I'=>by
        rw [hS] at I'
        refine ih _ (U.erase j) p' ι' a' w' I' (by simp [hsz]) ?_ λ i hi hl=>?_
        · rw [List.length_erase_of_mem (hin j hjs hnl)];omega
        · have hij:i≠j:=λ e=>by
            subst e
            rw [Array.getD_eq_getD_getElem?,Array.getElem?_setIfInBounds,if_pos rfl,if_pos (by omega)] at hl
            simp at hl
          rw [Array.getD_eq_getD_getElem?,Array.getElem?_setIfInBounds_ne (Ne.symm hij),← Array.getD_eq_getD_getElem?] at hl
          exact (List.mem_erase_of_ne hij).2 (hin i hi hl)
      by_cases hk:kindOf P o.op=2
      · exact I.turnStep R ho hns hready hk next
      · exact I.stillStep R ho hns hready hk λ ι' a' w' I'=>next p ι' a' w' I'
end
section
variable [Held] {P:Program} {e:Ev} {n:Nat} {ops:Array Oper} {B:Nat} {ι:Inj} {h h':H} {t t':T} {a:Act} {w:World} {Q:Exit→Act→World→Prop}
theorem region_ok (he:CallOK P e) {types:Array TypeInfo} {draw:Bool} {id:Nat} (hok:Region.ok types ops draw=true) (hmix:P.follows .mixedOrders=true) (hs:St B ι h w) (ht:TRel ι t n a) (hr:regionStep P e n ops draw t h=some (t',h'))
    (hQ:∀ ι' a' w',Moves B ι h w ι' h' w'→TRel ι' t' n a'→Q .normal a' w'):(Code.region id ops draw).wp P Q a w:=by
  unfold regionStep at hr
  split at hr
  · rename_i hd
    subst hd
    split at hr
    · rename_i plan hp
      obtain ⟨hb,hsl⟩:=ok_back hok
      refine wp_region_any hmix ?_
      have hs':St B ι h { w with drawn:=w.drawn+1 }:=⟨hs.sim.heap rfl,hs.fresh,hs.base,hs.held.1,Held.keep w _ (λ _ _=>rfl) hs.held.2⟩
      obtain ⟨Ts,Hs,As,h1,h2,h5,h3,h4,hst,hso⟩:=runOps_seq (e:=e) (n:=n) (m:=h.next) (P:=P) ops.toList 0 plan plan (past0 h) t h rfl rfl hr
      simp only [Nat.zero_add,Array.length_toList] at h3 h4 hst hso
      subst h1;subst h2
      have hst':∀ i,i < ops.size→∃ o,Step P e n (Hs 0).next ops plan i o (Ts i) (Hs i) (Ts (i+1)) (Hs (i+1)):=λ i hi=>hst i (Nat.zero_le _) hi
      have hgh:=ghost_run he hs' ht hst'
      have hdid:∀ (i:Nat) (o:Oper),ops[i]?=some o→Did P e n (Hs 0).next ops (sAt plan i) o (Ts i) (Hs i) (Ts (i+1)) (Hs (i+1)):=λ i o ho=>by
        obtain ⟨o',h0⟩:=hst' i (Array.getElem?_eq_some_iff.1 ho).1
        have:=h0.1
        rw [ho] at this;cases this
        exact step_did h0
      have hturn:∀ (i:Nat) (o:Oper),ops[i]?=some o→(Hs i).next≤(Hs (i+1)).next∧(kindOf P o.op=2→sAt plan i=true→∀ id,id < (Hs 0).next→id < (Hs i).next→Like ((Hs i).get id) ((Hs (i+1)).get id)):=λ i o ho=>by
        have hi:i < ops.size:=(Array.getElem?_eq_some_iff.1 ho).1
        cases hdid i o ho with
        | skip _ hh _=>rw [hh];exact ⟨Nat.le_refl _,λ _ _ _ _ _=>.refl⟩
        | val _ _ _ hh _=>rw [hh];exact ⟨Nat.le_refl _,λ _ _ _ _ _=>.refl⟩
        | new _ ob mk hr hh _=>rw [hh];exact ⟨Nat.le_succ _,λ hk=>by rw [kind_turns hk] at hr;simp at hr⟩
        | turn hw v g1 g2 hr hn hg hp hm=>
          obtain ⟨ιg,ag,wg,gm,gt⟩:=hgh i (by omega)
          obtain ⟨w',ι',hm'⟩:=m_exists (ops:=ops) he (⟨by rw [hg];exact gm.st.sim,by rw [hn];exact gm.st.fresh,gm.st.base,gm.st.held⟩:St B ιg g1 wg) (gt.seen _) hr
          obtain ⟨x1,x2⟩:=hm _ _ _ _ _ hm'
          exact ⟨x1.low.next,λ _ hp id h1 h2=>x2 (by simp [hp]) id h1 h2⟩
      have hnext:∀ i,i < ops.size→(Hs i).next≤(Hs (i+1)).next:=λ i hi=>(hturn i ops[i] (Array.getElem?_eq_getElem hi)).1
      have hmono:∀ i j,i≤j→j≤ops.size→(Hs i).next≤(Hs j).next:=by
        intro i j
        induction j with
        | zero=>
                  intro h _;have:i=0:=by omega
                  subst this;exact Nat.le_refl _
        | succ j ih=>
          intro h h'
          by_cases ei:i=j+1
          · subst ei;exact Nat.le_refl _
          · exact Nat.le_trans (ih (by omega) (by omega)) (hnext j (by omega))
      let own:Nat→Nat:=λ id=>@dite _ (∃ c,c < ops.size∧(Hs c).next≤id∧id < (Hs (c+1)).next) (Classical.propDecidable _) (λ h=>Classical.choose h) λ _=>0
      have hown:∀ c id,c < ops.size→(Hs c).next≤id→id < (Hs (c+1)).next→own id=c:=λ c id h1 h2 h3=>by
        have hex:∃ c,c < ops.size∧(Hs c).next≤id∧id < (Hs (c+1)).next:=⟨c,h1,h2,h3⟩
        have hsp:=Classical.choose_spec hex
        have:own id=Classical.choose hex:=dif_pos hex
        rw [this]
        generalize Classical.choose hex=c' at hsp
        obtain ⟨k1,k2,k3⟩:=hsp
        rcases Nat.lt_trichotomy c' c with hl | hl | hl
        · have:=hmono (c'+1) c hl (by omega);omega
        · exact hl
        · have:=hmono (c+1) c' hl (by omega);omega
      have R:Run P e n (Hs 0).next ops plan B ι { w with drawn:=w.drawn+1 } Ts Hs own:=⟨he,hb,hsl,drawPlan_ok hb hp,rfl,hs',hdid,hgh,hnext,λ i o ho hk hp id hid=>by
        have hi:i < ops.size:=(Array.getElem?_eq_some_iff.1 ho).1
        exact (hturn i o ho).2 hk hp id hid (Nat.lt_of_lt_of_le hid (hmono 0 i (Nat.zero_le _) (by omega))),hown,As,h5,λ i hi=>hso i (Nat.zero_le _) hi⟩
      refine any_ok R (λ ι' a' w' hm ht'=>?_) ops.size (Array.replicate ops.size false) (List.range ops.size) 0 ι a _ (R.inv0 ht λ i=>?_) (by simp) (by simp) λ i hi _=>List.mem_range.2 hi
      · rw [h4] at hm
        rw [h3] at ht'
        exact hQ ι' a' w' ⟨hm.st,{ hm.ext with },hm.low⟩ ht'
      · rw [Array.getD_eq_getD_getElem?,Array.getElem?_replicate]
        split <;> simp
    · simp at hr
  · rename_i hd
    have hd:draw=false:=by simpa using hd
    subst hd
    refine wp_region ?_
    rw [List.range_eq_range']
    have:=region_text (Q:=Q) he ops.toList 0 [] _ ι t h a w rfl hs ht hr hQ
    simpa using this
end
end Go.Sh
end
