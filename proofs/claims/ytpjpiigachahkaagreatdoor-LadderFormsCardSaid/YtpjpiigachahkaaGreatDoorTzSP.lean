/- Edges, orders: no program in sight (out of ChaWithin's texts). -/
import Derived.Test.YtpjpiigachahkaaGreatDoorSh18
import Derived.Test.YtpjpiigachahkaaGreatDoorSh16
set_option linter.unusedVariables false
set_option linter.unusedSimpArgs false
set_option linter.unusedSectionVars false
namespace Go.Proofs
open Go.Sh
noncomputable section
structure Edg where
 src:List UInt8
 pc:Int
 dst:List UInt8
def Edg.cells (e:Edg):List SV:=[.str e.src,.int .i64 e.pc,.str e.dst]
def edgs (l:List Edg):List SV:=l.flatMap Edg.cells
theorem edgs_len (l:List Edg):(edgs l).length=l.length * 3:=by
 induction l with
 | nil=>rfl
 | cons e l ih=>
  show (e.cells++edgs l).length=(l.length+1) * 3
  rw [List.length_append,ih]
  show 3+l.length * 3=_
  omega
theorem edgs_at {l:List Edg} {i:Nat} {e:Edg} (h:l[i]?=some e):((edgs l).drop (i * 3)).take 3=e.cells:=by
 induction l generalizing i with
 | nil=>simp at h
 | cons x l ih=>
  cases i with
  | zero=>
   simp at h
   subst h
   rfl
  | succ i=>
   simp at h
   show ((x.cells++edgs l).drop ((i+1) * 3)).take 3=_
   rw [show (i+1) * 3=x.cells.length+i * 3 by show _=3+i * 3;omega,List.drop_append]
   simp only [Nat.add_sub_cancel_left]
   rw [List.drop_eq_nil_of_le (by omega),List.nil_append]
   exact ih h
theorem view_edge {h:H} {v:SV} {l:List Edg} (w:View h 3 v l.length (edgs l)) {i:Nat} {e:Edg} (he:l[i]?=some e) :
  ∃ id o,atIdx 3 i v=some (.ptr id o)∧isRow v id∧loadV none h.get (.ptr id o)=some (.str e.src)∧loadV none h.get (.ptr id (o+1))=some (.int .i64 e.pc)∧loadV none h.get (.ptr id (o+2))=some (.str e.dst)∧∃ all,rowCells h.get id=some all∧o+3≤all.length∧(all.drop o).take 3=e.cells:=by
 have hi:i < l.length:=(List.getElem?_eq_some_iff.1 he).1
 obtain ⟨id,o,all,h1,h2,h3,h4,h5⟩:=w.at hi
 rw [edgs_at he] at h5
 have g:∀ k x,e.cells[k]?=some x→all[o+k]?=some x:=λ k x hx=>by
  rw [← h5,List.getElem?_take] at hx
  split at hx
  ·rw [List.getElem?_drop] at hx;exact hx
  ·cases hx
 have hl:=loadB h3
 exact ⟨id,o,h1,h2,(hl o).trans (g 0 _ rfl),(hl (o+1)).trans (g 1 _ rfl),(hl (o+2)).trans (g 2 _ rfl),all,h3,h4,h5⟩
structure Ord {α:Type} (R:α→α→Prop):Prop where
 irr:∀ a,¬R a a
 trans:∀ a b c,R a b→R b c→R a c
 tri:∀ a b,¬R a b→¬R b a→a=b
theorem insert_rises {α:Type} {R:α→α→Prop} (o:Ord R) {S:List α} (hS:S.Pairwise R) {z:α} {a:Nat} (h1:∀ y ∈ S.drop a,R z y) (h2:∀ b,a=b+1→∃ y,S[b]?=some y∧¬R z y) (hz:∀ b,a=b+1→S[b]?≠some z):(S.take a++z::S.drop a).Pairwise R∧∀ x,x ∈ S.take a++z::S.drop a ↔ x ∈ S∨x=z:=by
 have hlow:∀ y ∈ S.take a,R y z:=λ y hy=>by
  obtain ⟨c,hc,rfl⟩:=List.mem_iff_getElem.1 hy
  have hc:c < a∧c < S.length:=by rw [List.length_take] at hc;omega
  obtain ⟨b,rfl⟩:∃ b,a=b+1:=⟨a - 1,by omega⟩
  obtain ⟨y,e1,e2⟩:=h2 b rfl
  obtain ⟨hb,rfl⟩:=List.getElem?_eq_some_iff.1 e1
  have hne:S[b]≠z:=λ e=>hz b rfl (by rw [e1,e])
  have hbz:R S[b] z:=by
   rcases Classical.em (R S[b] z) with h | h
   ·exact h
   ·exact absurd (o.tri _ _ h e2) hne
  rw [List.getElem_take]
  rcases Nat.lt_or_ge c b with h | h
  ·exact o.trans _ _ _ (List.pairwise_iff_getElem.1 hS c b (by omega) hb h) hbz
  ·have:c=b:=by omega
   subst this;exact hbz
 have hsplit:=List.take_append_drop a S
 have hp:=hS
 rw [← hsplit,List.pairwise_append] at hp
 refine ⟨?_,λ x=>?_⟩
 ·rw [List.pairwise_append]
  refine ⟨hp.1,List.pairwise_cons.2 ⟨h1,hp.2.1⟩,λ x hx y hy=>?_⟩
  rcases List.mem_cons.1 hy with rfl | hy
  ·exact hlow x hx
  ·exact hp.2.2 x hx y hy
 ·rw [List.mem_append,List.mem_cons]
  constructor
  ·rintro (h | rfl | h)
   ·exact .inl (List.mem_of_mem_take h)
   ·exact .inr rfl
   ·exact .inl (List.mem_of_mem_drop h)
  ·rintro (h | rfl)
   ·rw [← hsplit,List.mem_append] at h
    rcases h with h | h
    ·exact .inl h
    ·exact .inr (.inr h)
   ·exact .inr (.inl rfl)
theorem rises_ext {α:Type} {R:α→α→Prop} (o:Ord R):∀ {a b:List α},a.Pairwise R→b.Pairwise R→(∀ x,x ∈ a ↔ x ∈ b)→a=b
 | [],[],_,_,_=>rfl
 | [],y::b,_,_,h=>by have:=(h y).2 (List.mem_cons_self ..);simp at this
 | x::a,[],_,_,h=>by have:=(h x).1 (List.mem_cons_self ..);simp at this
 | x::a,y::b,ha,hb,h=>by
  rw [List.pairwise_cons] at ha hb
  have e:x=y:=by
   rcases List.mem_cons.1 ((h x).1 (List.mem_cons_self ..)) with e | e
   ·exact e
   ·rcases List.mem_cons.1 ((h y).2 (List.mem_cons_self ..)) with e' | e'
    ·exact e'.symm
    ·exact absurd (o.trans _ _ _ (ha.1 y e') (hb.1 x e)) (o.irr x)
  subst e
  rw [rises_ext o ha.2 hb.2 λ z=>?_]
  constructor
  ·intro hz
   rcases List.mem_cons.1 ((h z).1 (List.mem_cons_of_mem _ hz)) with e | e
   ·subst e;exact absurd (ha.1 z hz) (o.irr z)
   ·exact e
  ·intro hz
   rcases List.mem_cons.1 ((h z).2 (List.mem_cons_of_mem _ hz)) with e | e
   ·subst e;exact absurd (hb.1 z hz) (o.irr z)
   ·exact e
def BLt (a b:List UInt8):Prop:=ltBytes a b=true
theorem blt_cons {x y:UInt8} {a b:List UInt8}:BLt (x::a) (y::b) ↔ x.toNat < y.toNat∨x.toNat=y.toNat∧BLt a b:=by
 unfold BLt
 simp [ltBytes,Nat.blt_eq]
theorem bOrd:Ord BLt where
 irr:=λ a=>by
  induction a with
  | nil=>intro h;cases h
  | cons x a ih=>
   rw [blt_cons]
   rintro (h | ⟨_,h⟩)
   ·omega
   ·exact ih h
 trans:=λ a=>by
  induction a with
  | nil=>
   intro b c h1 h2
   cases c with
   | nil=>cases b <;> cases h2
   | cons z c=>rfl
  | cons x a ih=>
   intro b c h1 h2
   cases b with
   | nil=>cases h1
   | cons y b=>
    cases c with
    | nil=>cases h2
    | cons z c=>
     rw [blt_cons] at *
     rcases h1 with h1 | ⟨h1,h3⟩
     ·rcases h2 with h2 | ⟨h2,h4⟩
      ·exact .inl (by omega)
      ·exact .inl (by omega)
     ·rcases h2 with h2 | ⟨h2,h4⟩
      ·exact .inl (by omega)
      ·exact .inr ⟨by omega,ih _ _ h3 h4⟩
 tri:=λ a=>by
  induction a with
  | nil=>
   intro b h1 h2
   cases b with
   | nil=>rfl
   | cons y b=>exact absurd rfl h1
  | cons x a ih=>
   intro b h1 h2
   cases b with
   | nil=>exact absurd rfl h2
   | cons y b=>
    rw [blt_cons] at h1 h2
    have hxy:x.toNat=y.toNat:=by
     rcases Nat.lt_trichotomy x.toNat y.toNat with h | h | h
     ·exact absurd (.inl h) h1
     ·exact h
     ·exact absurd (.inl h) h2
    have:x=y:=UInt8.toNat_inj.1 hxy
    subst this
    rw [ih b (λ h=>h1 (.inr ⟨rfl,h⟩)) (λ h=>h2 (.inr ⟨rfl,h⟩))]
theorem eqBytes_iff {a b:List UInt8}:eqBytes a b=true ↔ a=b:=by
 rw [eqBytes_eq];simp
theorem gtr_true {y z:List UInt8} (h:BLt z y):strOp .gtr y z=some (.bool true):=by
 have h1:ltBytes y z=false:=by
  cases e:ltBytes y z with
  | false=>rfl
  | true=>exact absurd (bOrd.trans _ _ _ h e) (bOrd.irr z)
 have h2:eqBytes y z=false:=by
  cases e:eqBytes y z with
  | false=>rfl
  | true=>rw [eqBytes_iff] at e;subst e;exact absurd h (bOrd.irr _)
 simp [strOp,h1,h2]
theorem gtr_false {y z:List UInt8} (h:¬BLt z y):strOp .gtr y z=some (.bool false):=by
 have h1:(ltBytes y z || eqBytes y z)=true:=by
  cases e:ltBytes y z with
  | true=>rfl
  | false=>
   have:y=z:=bOrd.tri _ _ (λ k=>by unfold BLt at k;rw [e] at k;cases k) h
   rw [eqBytes_iff.2 this];rfl
 simp [strOp,h1]
theorem eqB_self (z:List UInt8):eqB z z=true:=by rw [eqB_eq];exact eqBytes_iff.2 rfl
theorem eqB_ne {y z:List UInt8} (h:y≠z):eqB y z=false:=by
 cases e:eqB y z with
 | false=>rfl
 | true=>rw [eqB_eq] at e;exact absurd (eqBytes_iff.1 e) h
theorem strs_get (l:List (List UInt8)) (i:Nat) (h:i < l.length):(strs l)[i]?=some (.str l[i]):=by
 unfold strs;rw [List.getElem?_map,List.getElem?_eq_getElem h];rfl
theorem strs_append (a b:List (List UInt8)):strs (a++b)=strs a++strs b:=by simp [strs]
theorem strs_set (a:List (List UInt8)) (i:Nat) (x:List UInt8):(strs a).set i (.str x)=strs (a.set i x):=by simp [strs,List.map_set]
theorem load3 {h:H} {id o:Nat} {all:List SV} {e:Edg} (h1:rowCells h.get id=some all) (h2:o+3≤all.length) (h3:(all.drop o).take 3=e.cells):loadV (some 3) h.get (.ptr id o)=some (.agg e.cells):=by
 show bO (rowCells h.get id) (λ cs=>kpart (some 3) cs o)=_
 rw [h1]
 show bO (dropX o all) (λ r=>bO (takeX 3 r) λ l=>some (SV.agg l))=_
 have e1:dropX o all=some (all.drop o):=by rw [dropX_eq,if_pos (by omega)]
 rw [e1]
 show bO (takeX 3 (all.drop o)) (λ l=>some (SV.agg l))=_
 have e2:takeX 3 (all.drop o)=some ((all.drop o).take 3):=by rw [takeX_eq,if_pos (by rw [List.length_drop];omega)]
 rw [e2,h3];rfl
theorem edge_load {h:H} {v:SV} {l:List Edg} (w:View h 3 v l.length (edgs l)) {i:Nat} {e:Edg} (he:l[i]?=some e):∃ p,atIdx 3 i v=some p∧loadV (some 3) h.get p=some (.agg e.cells):=by
 obtain ⟨id,o,h1,_,_,_,_,all,h2,h3,h4⟩:=view_edge w he
 exact ⟨_,h1,load3 h2 h3 h4⟩
theorem edgs_cons (e:Edg) (l:List Edg):edgs (e::l)=e.cells++edgs l:=rfl
theorem edgs_append (a b:List Edg):edgs (a++b)=edgs a++edgs b:=by simp [edgs]
theorem edgs_set:∀ (l:List Edg) (i:Nat) (e:Edg),i < l.length→(edgs l).take (i * 3)++(e.cells++(edgs l).drop (i * 3+3))=edgs (l.set i e)
 | [],i,e,h=>by simp at h
 | x::l,0,e,_=>by
  rw [edgs_cons,List.set_cons_zero,edgs_cons]
  show ([]:List SV)++_=_
  rw [List.nil_append]
  congr 1
 | x::l,i+1,e,h=>by
  rw [edgs_cons,List.set_cons_succ,edgs_cons,← edgs_set l i e (by simpa using h)]
  have hl:x.cells.length=3:=rfl
  rw [show (i+1) * 3=x.cells.length+i * 3 by omega,List.take_length_add_append,Nat.add_assoc,List.drop_append,List.append_assoc]
  congr 2
  rw [List.drop_eq_nil_of_le (by omega),Nat.add_sub_cancel_left]
  rfl
theorem gro_store3 {h:H} {lo:Nat} {v:SV} {l:List Edg} (g:Gro h lo 3 v l.length (edgs l)) {i:Nat} (hi:i < l.length) (e:Edg) :
  ∃ p h',atIdx 3 i v=some p∧storeV 3 h p (.agg e.cells)=some (.tuple [],h')∧Gro h' lo 3 v (l.set i e).length (edgs (l.set i e))∧Fr (lo≤·) (lo≤·) h h':=by
 obtain ⟨h1,⟨rfl,h0⟩ | ⟨id,par,rfl,h2,h3,h4⟩⟩:=g
 ·omega
 ·obtain ⟨h',k1,k2⟩:=h4.kill id (Nat.le_refl _)
  have e1:=k2.get h3 (by simp)
  refine ⟨.ptr id (i * 3),h'.put id (.cells (edgs (l.set i e)) (.grown none)),?_,?_,⟨edgs_len _,.inr ⟨id,none,by simp,h2,get_put_self e1,.none⟩⟩,?_⟩
  ·show bB (Nat.blt i l.length) (some (SV.ptr id (0+i * 3))) none=_
   rw [show Nat.blt i l.length=true from Nat.ble_eq_true_of_le hi,Nat.zero_add];rfl
  ·have hl:layX e.cells (i * 3) (edgs l)=some (edgs (l.set i e)):=by
    rw [layX_eq,if_pos (by rw [edgs_len];show i * 3+3≤_;omega),← edgs_set l i e hi]
    rfl
   have hs:storeX h id (i * 3) e.cells=some (h'.put id (.cells (edgs (l.set i e)) (.grown none))):=by
    unfold storeX
    rw [h3]
    simp only [hl,bO]
    rw [show Nat.succ id=id+1 from rfl,k1]
   show bB (hasLen 3 e.cells) (bO (storeX h id (i * 3) e.cells) λ h=>some (SV.tuple [],h)) none=_
   rw [hs];rfl
  ·exact (k2.mono (λ q _ e=>e.1) λ q e=>.inl e.1).trans ((Fr.put (H.get_lt e1)).mono (λ q _ e=>by subst e;exact h2) λ q e=>.inl (by subst e;exact h2))
theorem edge_eq (g:Nat→Option SObj) (a b:Edg):keq g (.struct [.str,.int,.str]) (.agg a.cells) (.agg b.cells)=some (eqB a.src b.src&&(eqI a.pc b.pc&&eqB a.dst b.dst)):=by
 show eqKs [.str,.int,.str] [.str a.src,.int .i64 a.pc,.str a.dst] [.str b.src,.int .i64 b.pc,.str b.dst]=_
 have e1:eqKD KD.str (.str a.src) (.str b.src)=some (eqB a.src b.src):=rfl
 have e2:eqKD KD.int (.int .i64 a.pc) (.int .i64 b.pc)=some (eqI a.pc b.pc):=rfl
 have e3:eqKD KD.str (.str a.dst) (.str b.dst)=some (eqB a.dst b.dst):=rfl
 simp only [eqKs,e1,e2,e3,bO]
 cases eqB a.src b.src <;> cases eqI a.pc b.pc <;> cases eqB a.dst b.dst <;> rfl
def lessE (a b:Edg):Bool:=if a.src≠b.src then ltBytes a.src b.src else if a.pc≠b.pc then decide (a.pc < b.pc) else ltBytes a.dst b.dst
def ELt (a b:Edg):Prop:=lessE a b=true
theorem eOrd:Ord ELt where
 irr:=λ a h=>by
  unfold ELt lessE at h
  simp at h
  exact bOrd.irr _ h
 trans:=λ a b c h1 h2=>by
  unfold ELt lessE at *
  by_cases e1:a.src=b.src
  ·by_cases e2:b.src=c.src
   ·rw [if_neg (by simp [e1])] at h1
    rw [if_neg (by simp [e2])] at h2
    rw [if_neg (by simp [e1,e2])]
    by_cases f1:a.pc=b.pc
    ·by_cases f2:b.pc=c.pc
     ·rw [if_neg (by simp [f1])] at h1
      rw [if_neg (by simp [f2])] at h2
      rw [if_neg (by simp [f1,f2])]
      exact bOrd.trans _ _ _ h1 h2
     ·rw [if_pos f2] at h2
      rw [if_pos (by rw [f1];exact f2),f1];exact h2
    ·rw [if_pos f1] at h1
     have h1:=of_decide_eq_true h1
     by_cases f2:b.pc=c.pc
     ·rw [if_pos (by rw [← f2];exact f1),← f2];exact decide_eq_true h1
     ·rw [if_pos f2] at h2
      have h2:=of_decide_eq_true h2
      rw [if_pos (by omega)];exact decide_eq_true (by omega)
   ·rw [if_pos e2] at h2
    rw [if_pos (by rw [e1];exact e2),e1];exact h2
  ·rw [if_pos e1] at h1
   by_cases e2:b.src=c.src
   ·rw [if_pos (by rw [← e2];exact e1),← e2];exact h1
   ·rw [if_pos e2] at h2
    have h3:=bOrd.trans _ _ _ h1 h2
    rw [if_pos (λ e=>by rw [e] at h3;exact bOrd.irr _ h3)]
    exact h3
 tri:=λ a b h1 h2=>by
  unfold ELt lessE at *
  by_cases e1:a.src=b.src
  ·rw [if_neg (by simp [e1])] at h1
   rw [if_neg (by simp [e1])] at h2
   by_cases f1:a.pc=b.pc
   ·rw [if_neg (by simp [f1])] at h1
    rw [if_neg (by simp [f1])] at h2
    have:=bOrd.tri _ _ h1 h2
    cases a;cases b;simp at *;exact ⟨e1,f1,this⟩
   ·rw [if_pos f1] at h1
    rw [if_pos (λ e=>f1 e.symm)] at h2
    simp at h1 h2
    omega
  ·rw [if_pos e1] at h1
   rw [if_pos (λ e=>e1 e.symm)] at h2
   exact absurd (bOrd.tri _ _ h1 h2) e1
end
end Go.Proofs
