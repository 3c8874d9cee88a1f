/- General laws of the proof: a shadow machine of the form, its soundness, and a compiled form of it. -/
import Derived.Test.YtpjpiigachahkaaGreatDoorSh1
import Derived.Orders
import Derived.Below
set_option linter.unusedVariables false
set_option linter.unusedSimpArgs false
set_option linter.unusedSectionVars false
section
/- The shadow machine: how its states stand to the model's. -/
namespace Go.Sh
section
variable {α:Type}
theorem Tr.get_leaf (n:Nat):(Tr.leaf:Tr α).get n=none:=rfl
theorem Tr.get_node (l:Tr α) (v:Option α) (r:Tr α) (n:Nat) :
  (Tr.node l v r).get n=if n=0 then v else if n % 2=1 then l.get ((n - 1) / 2) else r.get ((n - 1) / 2):=by
 show @Bool.rec (λ _=>Option α) (@Bool.rec (λ _=>Option α) (r.get ((n - 1) / 2)) (l.get ((n - 1) / 2)) (Nat.beq (n % 2) 1)) v (Nat.beq n 0)=_
 cases h0:Nat.beq n 0
 ·have:n≠0:=λ e=>by subst e;simp at h0
  rw [if_neg this]
  cases h1:Nat.beq (n % 2) 1
  ·rw [if_neg (λ e=>by rw [e] at h1;simp at h1)]
  ·rw [if_pos (Nat.eq_of_beq_eq_true h1)]
 ·rw [if_pos (Nat.eq_of_beq_eq_true h0)]
theorem Tr.set_node (l:Tr α) (v:Option α) (r:Tr α) (n:Nat) (x:α) :
  (Tr.node l v r).set n x=if n=0 then .node l (some x) r else if n % 2=1 then .node (l.set ((n - 1) / 2) x) v r else .node l v (r.set ((n - 1) / 2) x):=by
 show @Bool.rec (λ _=>Tr α) (@Bool.rec (λ _=>Tr α) (.node l v (r.set ((n - 1) / 2) x)) (.node (l.set ((n - 1) / 2) x) v r) (Nat.beq (n % 2) 1)) (.node l (some x) r) (Nat.beq n 0)=_
 cases h0:Nat.beq n 0
 ·have:n≠0:=λ e=>by subst e;simp at h0
  rw [if_neg this]
  cases h1:Nat.beq (n % 2) 1
  ·rw [if_neg (λ e=>by rw [e] at h1;simp at h1)]
  ·rw [if_pos (Nat.eq_of_beq_eq_true h1)]
 ·rw [if_pos (Nat.eq_of_beq_eq_true h0)]
theorem Tr.one_succ (x:α) (f n:Nat) :
  Tr.one x (f+1) n=if n=0 then .node .leaf (some x) .leaf else if n % 2=1 then .node (Tr.one x f ((n - 1) / 2)) none .leaf else .node .leaf none (Tr.one x f ((n - 1) / 2)):=by
 show @Bool.rec (λ _=>Tr α) (@Bool.rec (λ _=>Tr α) (.node .leaf none (Tr.one x f ((n - 1) / 2))) (.node (Tr.one x f ((n - 1) / 2)) none .leaf) (Nat.beq (n % 2) 1)) (.node .leaf (some x) .leaf) (Nat.beq n 0)=_
 cases h0:Nat.beq n 0
 ·have:n≠0:=λ e=>by subst e;simp at h0
  rw [if_neg this]
  cases h1:Nat.beq (n % 2) 1
  ·rw [if_neg (λ e=>by rw [e] at h1;simp at h1)]
  ·rw [if_pos (Nat.eq_of_beq_eq_true h1)]
 ·rw [if_pos (Nat.eq_of_beq_eq_true h0)]
theorem Tr.get_one (x:α):∀ (f n k:Nat),n < f→(Tr.one x f n).get k=if k=n then some x else none:=by
 intro f
 induction f with
 | zero=>intro n k h;omega
 | succ f ih=>
  intro n k h
  rw [Tr.one_succ]
  by_cases h0:n=0
  ·subst h0
   rw [if_pos rfl,Tr.get_node]
   by_cases hk:k=0
   ·simp [hk]
   ·simp only [if_neg hk,Tr.get_leaf];split <;> rfl
  ·rw [if_neg h0]
   by_cases h1:n % 2=1
   ·rw [if_pos h1,Tr.get_node]
    by_cases hk:k=0
    ·rw [if_pos hk,if_neg (by omega)]
    ·rw [if_neg hk]
     by_cases hk1:k % 2=1
     ·rw [if_pos hk1,ih _ _ (by omega)]
      by_cases e:k=n
      ·rw [if_pos e,if_pos (by omega)]
      ·rw [if_neg e,if_neg (by omega)]
     ·rw [if_neg hk1,Tr.get_leaf,if_neg (by rintro rfl;exact hk1 h1)]
   ·rw [if_neg h1,Tr.get_node]
    by_cases hk:k=0
    ·rw [if_pos hk,if_neg (by omega)]
    ·rw [if_neg hk]
     by_cases hk1:k % 2=1
     ·rw [if_pos hk1,Tr.get_leaf,if_neg (by rintro rfl;exact h1 hk1)]
     ·rw [if_neg hk1,ih _ _ (by omega)]
      by_cases e:k=n
      ·rw [if_pos e,if_pos (by omega)]
      ·rw [if_neg e,if_neg (by omega)]
theorem Tr.get_set (t:Tr α):∀ (n k:Nat) (x:α),(t.set n x).get k=if k=n then some x else t.get k:=by
 induction t with
 | leaf=>intro n k x;show (Tr.one x (n+1) n).get k=_;rw [Tr.get_one _ _ _ _ (Nat.lt_succ_self n)];rfl
 | node l v r ihl ihr=>
  intro n k x
  rw [Tr.set_node,Tr.get_node]
  by_cases h0:n=0
  ·subst h0
   rw [if_pos rfl,Tr.get_node]
   by_cases hk:k=0
   ·simp [hk]
   ·simp only [if_neg hk]
  ·rw [if_neg h0]
   by_cases h1:n % 2=1
   ·rw [if_pos h1,Tr.get_node]
    by_cases hk:k=0
    ·rw [if_pos hk,if_neg (by omega),if_pos hk]
    ·rw [if_neg hk]
     by_cases hk1:k % 2=1
     ·rw [if_pos hk1,ihl,if_neg hk,if_pos hk1]
      by_cases e:k=n
      ·rw [if_pos e,if_pos (by omega)]
      ·rw [if_neg e,if_neg (by omega)]
     ·rw [if_neg hk1,if_neg (by rintro rfl;exact hk1 h1),if_neg hk,if_neg hk1]
   ·rw [if_neg h1,Tr.get_node]
    by_cases hk:k=0
    ·rw [if_pos hk,if_neg (by omega),if_pos hk]
    ·rw [if_neg hk]
     by_cases hk1:k % 2=1
     ·rw [if_pos hk1,if_neg (by rintro rfl;exact h1 hk1),if_neg hk,if_pos hk1]
     ·rw [if_neg hk1,ihr,if_neg hk,if_neg hk1]
      by_cases e:k=n
      ·rw [if_pos e,if_pos (by omega)]
      ·rw [if_neg e,if_neg (by omega)]
end
theorem H.get_eq (h:H) (id:Nat):h.get id=if id < h.next then h.tr.get id else none:=by
 show @Bool.rec (λ _=>Option SObj) none (h.tr.get id) (Nat.blt id h.next)=_
 cases e:Nat.blt id h.next
 ·rw [if_neg];intro hl;rw [show Nat.blt id h.next=true from Nat.ble_eq_true_of_le hl] at e;exact Bool.noConfusion e
 ·rw [if_pos (show id < h.next from Nat.le_of_ble_eq_true e)]
theorem H.get_push (h:H) (o:SObj) (id:Nat):(h.push o).get id=if id=h.next then some o else h.get id:=by
 rw [H.get_eq,H.get_eq]
 show (if id < h.next+1 then (h.tr.set h.next o).get id else none)=_
 rw [Tr.get_set]
 by_cases e:id=h.next
 ·simp [e]
 ·simp only [if_neg e]
  by_cases l:id < h.next
  ·rw [if_pos (by omega),if_pos l]
  ·rw [if_neg (by omega),if_neg l]
theorem H.get_put (h:H) (i:Nat) (o:SObj) (id:Nat) (hi:i < h.next):(h.put i o).get id=if id=i then some o else h.get id:=by
 rw [H.get_eq,H.get_eq]
 show (if id < h.next then (h.tr.set i o).get id else none)=_
 rw [Tr.get_set]
 by_cases e:id=i
 ·simp [e,hi]
 ·simp only [if_neg e]
theorem H.get_mark (h:H) (i:Nat) (o:SObj) (id:Nat) (hi:i < h.next):(h.mark i o).get id=if id=i then some o else h.get id:=by
 rw [H.get_eq,H.get_eq]
 show (if id < h.next then (h.tr.set i o).get id else none)=_
 rw [Tr.get_set]
 by_cases e:id=i
 ·simp [e,hi]
 ·simp only [if_neg e]
theorem H.get_lt {h:H} {id:Nat} {o:SObj} (e:h.get id=some o):id < h.next:=by
 rw [H.get_eq] at e
 split at e
 ·assumption
 ·simp at e
@[simp] theorem H.next_push (h:H) (o:SObj):(h.push o).next=h.next+1:=rfl
@[simp] theorem H.next_put (h:H) (i:Nat) (o:SObj):(h.put i o).next=h.next:=rfl
@[simp] theorem H.next_mark (h:H) (i:Nat) (o:SObj):(h.mark i o).next=h.next:=rfl
abbrev Inj:=Nat→Option (Nat × Nat × Nat)
mutual
def VRel (ι:Inj):SV→Value→Prop
 | .bool b,v=>v=.bool b
 | .int k n,v=>v=.int k n
 | .float k b,v=>v=.float k b
 | .cpx k a b,v=>v=.complex k a b
 | .str s,v=>v=.string ⟨⟨s⟩⟩
 | .nilptr,v=>v=.pointer none
 | .ptr id off,v=>∃ b o s,ι id=some (b,o,s)∧v=.pointer (some ⟨b,o+off,none⟩)
 | .nilslice,v=>v=.slice none 0 0
 | .slice id off len es cap,v=>∃ b o s c,ι id=some (b,o,s)∧(∀ k,cap=some k→c=k)∧len≤c∧o+off+c * es≤s ∧
   (v=.slice (some ⟨b,o+off,none⟩) len c∨(len=0∧c=0∧∃ a,v=.slice (some a) 0 0))
 | .nilmap,v=>v=.map none
 | .map id,v=>∃ b o s,ι id=some (b,o,s)∧v=.map (some b)
 | .nilfunc,v=>v=.nilFunc
 | .func f cap,v=>∃ vs:Array Value,v=.func (.func f) #[] vs∧LRel ι cap vs.toList
 | .niliface,v=>v=.nilIface
 | .iface t x,v=>∃ y,v=.iface t y∧VRel ι x y
 | .agg cs,v=>∃ vs:Array Value,v=.agg vs∧LRel ι cs vs.toList∧cs.all SV.isCell=true
 | .tuple xs,v=>∃ ys:Array Value,v=.tuple ys∧LRel ι xs ys.toList
def LRel (ι:Inj):List SV→List Value→Prop
 | [],ys=>ys=[]
 | x::xs,ys=>∃ y r,ys=y::r∧VRel ι x y∧LRel ι xs r
end
def Inj.le (ι ι':Inj):Prop:=∀ id x,ι id=some x→ι' id=some x
theorem Inj.le_refl (ι:Inj):ι.le ι:=λ _ _ h=>h
theorem Inj.le_trans {a b c:Inj} (h:a.le b) (k:b.le c):a.le c:=λ i x e=>k i x (h i x e)
mutual
theorem VRel.mono {ι ι':Inj} (h:ι.le ι'):∀ (x:SV) (v:Value),VRel ι x v→VRel ι' x v
 | .bool _,_,e=>e
 | .int _ _,_,e=>e
 | .float _ _,_,e=>e
 | .cpx _ _ _,_,e=>e
 | .str _,_,e=>e
 | .nilptr,_,e=>e
 | .ptr _ _,_,⟨b,o,s,hi,e⟩=>⟨b,o,s,h _ _ hi,e⟩
 | .nilslice,_,e=>e
 | .slice _ _ _ _ _,_,⟨b,o,s,c,hi,e⟩=>⟨b,o,s,c,h _ _ hi,e⟩
 | .nilmap,_,e=>e
 | .map _,_,⟨b,o,s,hi,e⟩=>⟨b,o,s,h _ _ hi,e⟩
 | .nilfunc,_,e=>e
 | .func _ cap,_,⟨vs,e,l⟩=>⟨vs,e,LRel.mono h cap _ l⟩
 | .niliface,_,e=>e
 | .iface _ x,_,⟨y,e,l⟩=>⟨y,e,VRel.mono h x _ l⟩
 | .agg cs,_,⟨vs,e,l,k⟩=>⟨vs,e,LRel.mono h cs _ l,k⟩
 | .tuple xs,_,⟨vs,e,l⟩=>⟨vs,e,LRel.mono h xs _ l⟩
theorem LRel.mono {ι ι':Inj} (h:ι.le ι'):∀ (xs:List SV) (vs:List Value),LRel ι xs vs→LRel ι' xs vs
 | [],_,e=>e
 | x::xs,_,⟨y,r,e,hx,l⟩=>⟨y,r,e,VRel.mono h x _ hx,LRel.mono h xs _ l⟩
end
theorem LRel.nil {ι:Inj}:LRel ι [] []:=rfl
theorem LRel.cons {ι:Inj} {x:SV} {v:Value} {xs:List SV} {vs:List Value} (h:VRel ι x v) (l:LRel ι xs vs):LRel ι (x::xs) (v::vs):=⟨v,vs,rfl,h,l⟩
theorem LRel.length {ι:Inj}:∀ {xs:List SV} {vs:List Value},LRel ι xs vs→vs.length=xs.length
 | [],_,e=>by cases e;rfl
 | _::xs,_,⟨_,r,e,_,l⟩=>by subst e;simp [LRel.length (xs:=xs) l]
theorem LRel.append {ι:Inj}:∀ {xs:List SV} {vs:List Value} {ys:List SV} {us:List Value},LRel ι xs vs→LRel ι ys us→LRel ι (xs++ys) (vs++us)
 | [],_,_,_,e,l=>by cases e;exact l
 | _::_,_,_,_,⟨_,_,e,hx,l⟩,k=>by subst e;exact .cons hx (LRel.append l k)
theorem LRel.take {ι:Inj}:∀ {xs:List SV} {vs:List Value} (n:Nat),LRel ι xs vs→LRel ι (xs.take n) (vs.take n)
 | [],_,n,e=>by cases e;simp [LRel]
 | _::_,_,0,_=>by simp [LRel]
 | _::_,_,n+1,⟨_,_,e,hx,l⟩=>by subst e;simp only [List.take_succ_cons];exact .cons hx (LRel.take n l)
theorem LRel.drop {ι:Inj}:∀ {xs:List SV} {vs:List Value} (n:Nat),LRel ι xs vs→LRel ι (xs.drop n) (vs.drop n)
 | [],_,n,e=>by cases e;simp [LRel]
 | _::_,_,0,h=>by simpa using h
 | _::_,_,n+1,⟨_,_,e,hx,l⟩=>by subst e;simp only [List.drop_succ_cons];exact LRel.drop n l
theorem LRel.get {ι:Inj}:∀ {xs:List SV} {vs:List Value} (n:Nat) {x:SV},LRel ι xs vs→xs[n]?=some x→∃ v,vs[n]?=some v∧VRel ι x v
 | [],_,n,_,_,h=>by simp at h
 | _::_,_,0,_,⟨_,_,e,hx,_⟩,h=>by subst e;simp at h;subst h;exact ⟨_,rfl,hx⟩
 | _::_,_,n+1,_,⟨_,_,e,_,l⟩,h=>by subst e;simp only [List.getElem?_cons_succ] at h ⊢;exact LRel.get n l h
theorem cells_rel {ι:Inj} {x:SV} {v:Value} {cs:List SV} (h:VRel ι x v) (hc:x.cells?=some cs):LRel ι cs v.cells.toList∧cs.all SV.isCell=true:=by
 cases x <;> simp only [SV.cells?,Option.some.injEq,reduceCtorEq] at hc <;> subst hc
 case agg=>obtain ⟨vs,rfl,l,k⟩:=h;exact ⟨l,k⟩
 all_goals
  refine ⟨?_,by simp [SV.isCell]⟩
  have hv:v.cells=#[v]:=by
   simp only [VRel] at h
   first
    | (subst h;rfl)
    | (obtain ⟨_,_,_,_,rfl⟩:=h;rfl)
    | (obtain ⟨_,_,_,_,_,_,_,_,h | ⟨_,_,_,h⟩⟩:=h <;> subst h <;> rfl)
    | (obtain ⟨_,rfl,_⟩:=h;rfl)
  rw [hv]
  exact .cons h .nil
theorem ofScalar_rel {ι:Inj} {v:Value} {x:SV} (h:ofScalar v=some x):VRel ι x v∧x.isCell=true:=by
 unfold ofScalar at h
 split at h <;> simp only [Option.some.injEq,reduceCtorEq] at h <;> subst h <;> simp [VRel,SV.isCell]
theorem ofScalars_rel {ι:Inj}:∀ {l:List Value} {xs:List SV},ofScalars l=some xs→LRel ι xs l∧xs.all SV.isCell=true
 | [],_,h=>by simp only [ofScalars,Option.some.injEq] at h;subst h;exact ⟨rfl,rfl⟩
 | v::l,_,h=>by
  simp only [ofScalars] at h
  split at h <;> simp only [Option.some.injEq,reduceCtorEq] at h
  rename_i x xs h1 h2
  subst h
  obtain ⟨a,b⟩:=ofScalar_rel (ι:=ι) h1
  obtain ⟨c,d⟩:=ofScalars_rel (ι:=ι) h2
  exact ⟨.cons a c,by simp [b,d]⟩
theorem ofConst_rel {ι:Inj} {v:Value} {x:SV} (h:ofConst v=some x):VRel ι x v:=by
 unfold ofConst at h
 split at h
 ·simp only [Option.map_eq_some_iff] at h
  obtain ⟨xs,h,rfl⟩:=h
  exact ⟨_,rfl,ofScalars_rel h⟩
 ·exact (ofScalar_rel h).1
def ERel (ι:Inj):List (SV × SV × Nat)→List MapEntry→Prop
 | [],ys=>ys=[]
 | (k,v,b)::es,ys=>∃ e r,ys=e::r∧VRel ι k e.key∧VRel ι v e.val∧e.born=b∧ERel ι es r
theorem ERel.mono {ι ι':Inj} (h:ι.le ι'):∀ (es:List (SV × SV × Nat)) (vs:List MapEntry),ERel ι es vs→ERel ι' es vs
 | [],_,e=>e
 | (_,_,_)::es,_,⟨e,r,q,hk,hv,hb,l⟩=>⟨e,r,q,hk.mono h,hv.mono h,hb,ERel.mono h es _ l⟩
def CRel (ι:Inj) (cs:List SV) (m:Mode) (b o s:Nat) (w:World):Prop:=
 ∃ rc el fz,w.heap[b]?=some (.cells rc el fz)∧rc.size=s∧o+cs.length≤s∧LRel ι cs ((rc.toList.drop o).take cs.length)∧cs.all SV.isCell=true ∧
  (m≠.ext→∀ j,j < s→¬(fz.1≤j∧j < fz.2))∧(m=.fixed→o=0∧cs.length=s∧fz=(0,0))
def SObj.isDead:SObj→Prop
 | .cells _ .dead=>True
 | _=>False
def SObj.isExt:SObj→Prop
 | .cells _ .ext=>True
 | _=>False
def ORel (ι:Inj) (ob:SObj) (b o s:Nat) (w:World):Prop:=ob.isDead∨match ob with
 | .cells cs m=>CRel ι cs m b o s w
 | .map es c=>∃ es',w.heap[b]?=some (.map es' c)∧ERel ι es es'.toList
def Mode.par:Mode→Option Nat
 | .grown p=>p
 | .stale p=>p
 | _=>none
inductive Anc (g:Nat→Option SObj):Nat→Nat→Prop
 | one {i p:Nat} {cs cs':List SV} {m:Mode} {q:Option Nat} (h:g i=some (.cells cs m)) (hp:m.par=some p) (h':g p=some (.cells cs' (.stale q))):Anc g i p
 | more {i p j:Nat} {cs cs':List SV} {m:Mode} {q:Option Nat} (h:g i=some (.cells cs m)) (hp:m.par=some p) (h':g p=some (.cells cs' (.stale q))) (k:Anc g p j):Anc g i j
def lenOf:Option SObj→Nat
 | some (.cells cs _)=>cs.length
 | _=>0
def Above (g:Nat→Option SObj) (i j oi oj:Nat):Prop:=Anc g i j∧oj+lenOf (g j)≤oi+lenOf (g i)
structure Sim (B:Nat) (ι:Inj) (g:Nat→Option SObj) (w:World):Prop where
 obj:∀ id b o s,ι id=some (b,o,s)→∃ ob,g id=some ob∧ORel ι ob b o s w∧b < w.heap.size∧(¬ob.isExt→B≤b)
 par:∀ id x p cs m,ι id=some x→g id=some (.cells cs m)→m.par=some p→ι p≠none∧p < id
 sep:∀ i j oi oj b b' si sj obi obj,i≠j→ι i=some (b,oi,si)→ι j=some (b',oj,sj)→b=b'→g i=some obi→g j=some obj→¬obi.isDead→¬obj.isDead →
  (obi.isExt∧obj.isExt)∨Above g i j oi oj∨Above g j i oj oi
def Fresh (ι:Inj) (n:Nat):Prop:=∀ id x,ι id=some x→id < n
structure Ext (ι:Inj) (g:Nat→Option SObj) (n:Nat) (w:World) (ι':Inj) (g':Nat→Option SObj) (n':Nat) (w':World):Prop where
 inj:ι.le ι'
 next:n≤n'
 dom:∀ id x,ι' id=some x→ι id=some x∨(n≤id∧id < n')
 all:∀ id,n≤id→id < n'→ι' id≠none
 os:w'.os=w.os
 tape:w'.tape=w.tape
 output:w'.output=w.output
 size:w.heap.size≤w'.heap.size
 frame:∀ b,b < w.heap.size→(∀ id x ob,ι id=some x→x.1=b→g id=some ob→ob.isExt)→w'.heap[b]?=w.heap[b]?
 new:∀ id x,ι id=none→ι' id=some x→w.heap.size≤x.1∨∃ id0 x0 ob,ι id0=some x0∧x0.1=x.1∧g id0=some ob∧¬ob.isExt
 ext:∀ id x ob ob',ι id=some x→g id=some ob→g' id=some ob'→(ob.isExt ↔ ob'.isExt)
 ghost:∀ id,id < n→ι id=none→g' id=g id
theorem Ext.refl {ι:Inj} {g:Nat→Option SObj} {n:Nat} {w:World}:Ext ι g n w ι g n w:=
 ⟨Inj.le_refl _,Nat.le_refl _,λ _ _ h=>.inl h,λ _ _ _=>by omega,rfl,rfl,rfl,Nat.le_refl _,λ _ _ _=>rfl,λ _ _ h h'=>by rw [h] at h';simp at h',
  λ _ _ _ _ _ h h'=>by rw [h] at h';cases h';rfl,λ _ _ _=>rfl⟩
theorem Ext.trans {B:Nat} {ι:Inj} {g:Nat→Option SObj} {n:Nat} {w:World} {ι1:Inj} {g1:Nat→Option SObj} {n1:Nat} {w1:World} {ι2:Inj} {g2:Nat→Option SObj} {n2:Nat} {w2:World}
  (hf:Fresh ι n) (h0:Sim B ι g w) (h1:Sim B ι1 g1 w1) (h2:Sim B ι2 g2 w2) (a:Ext ι g n w ι1 g1 n1 w1) (b:Ext ι1 g1 n1 w1 ι2 g2 n2 w2):Ext ι g n w ι2 g2 n2 w2 where
 inj:=Inj.le_trans a.inj b.inj
 next:=Nat.le_trans a.next b.next
 dom:=λ id x h=>by
  rcases b.dom id x h with h | ⟨l,r⟩
  ·rcases a.dom id x h with h | ⟨l,r⟩
   ·exact .inl h
   ·exact .inr ⟨l,Nat.lt_of_lt_of_le r b.next⟩
  ·exact .inr ⟨Nat.le_trans a.next l,r⟩
 all:=λ id l r=>by
  by_cases e:id < n1
  ·have:=a.all id l e
   cases h:ι1 id with
   | none=>exact absurd h this
   | some x=>rw [b.inj _ _ h];simp
  ·exact b.all id (by omega) r
 os:=b.os.trans a.os
 tape:=b.tape.trans a.tape
 output:=b.output.trans a.output
 size:=Nat.le_trans a.size b.size
 frame:=λ k hk h=>by
  rw [b.frame k (Nat.lt_of_lt_of_le hk a.size),a.frame k hk h]
  intro id x ob hx hb hg
  cases e:ι id with
  | some y=>
   have:=a.inj _ _ e
   rw [hx] at this
   cases this
   obtain ⟨ob0,hg0,_⟩:=h0.obj id x.1 x.2.1 x.2.2 e
   exact (a.ext id x ob0 ob e hg0 hg).1 (h id x ob0 e hb hg0)
  | none=>
   rcases a.new id x e hx with l | ⟨i0,x0,o0,e0,eb,g0,ne⟩
   ·omega
   ·exact absurd (h i0 x0 o0 e0 (eb.trans hb) g0) ne
 new:=λ id x e h=>by
  cases e1:ι1 id with
  | some y=>
   have:=b.inj _ _ e1
   rw [h] at this
   cases this
   exact a.new id x e e1
  | none=>
   rcases b.new id x e1 h with l | ⟨i0,x0,o0,e0,eb,g0,ne⟩
   ·exact .inl (Nat.le_trans a.size l)
   ·cases e2:ι i0 with
    | some y=>
     have:=a.inj _ _ e2
     rw [e0] at this
     cases this
     obtain ⟨ob0,hg0,_⟩:=h0.obj i0 x0.1 x0.2.1 x0.2.2 e2
     exact .inr ⟨i0,x0,ob0,e2,eb,hg0,λ h=>ne ((a.ext i0 x0 ob0 o0 e2 hg0 g0).1 h)⟩
    | none=>
     rcases a.new i0 x0 e2 e0 with l | ⟨j,y,oj,ej,eb',gj,nj⟩
     ·exact .inl (by omega)
     ·exact .inr ⟨j,y,oj,ej,eb'.trans eb,gj,nj⟩
 ext:=λ id x ob ob' h hg hg'=>by
  obtain ⟨ob1,hg1,_⟩:=h1.obj id x.1 x.2.1 x.2.2 (a.inj _ _ h)
  exact (a.ext id x ob ob1 h hg hg1).trans (b.ext id x ob1 ob' (a.inj _ _ h) hg1 hg')
 ghost:=λ id l e=>by
  have e1:ι1 id=none:=by
   cases h:ι1 id with
   | none=>rfl
   | some x=>
         rcases a.dom id x h with h' | ⟨l',_⟩
         ·rw [e] at h';simp at h'
         ·omega
  rw [b.ghost id (Nat.lt_of_lt_of_le l a.next) e1,a.ghost id l e]
end Go.Sh
end
