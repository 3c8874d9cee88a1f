/- General laws of the proof: a shadow machine of the form, its soundness, and a compiled form of it. -/
import Derived.Test.YtpjpiigachahkaaGreatDoorSh3
import Derived.Laws.Sem
import Derived.Laws.World
import Derived.Laws.Cells
import Derived.Laws.StructEq
import Derived.Laws.Tables
import Derived.Laws.Strings
set_option linter.unusedVariables false
set_option linter.unusedSimpArgs false
set_option linter.unusedSectionVars false
section
/- The shadow machine: what an operation that turns nothing gives is what the model's gives. -/
namespace Go.Sh
section
variable {P:Program} {w:World} {ι:Inj}
theorem r_underlying {t:TypeId} {d:TypeDesc} (h:P.underlying t=some d):(underlying t).run P w=.ok d w:=by simp [underlying,h]
theorem r_info {t:TypeId} {i:TypeInfo} (h:P.info? t=some i):(typeInfo t).run P w=.ok i w:=by simp [typeInfo,h]
theorem r_size {t:TypeId} {i:TypeInfo} (h:P.info? t=some i):(sizeOf t).run P w=.ok i.size w:=by simp [sizeOf,r_info h]
theorem r_zero {t:TypeId} {i:TypeInfo} {z:Value} (h:P.info? t=some i) (hz:i.zero=some z):(zeroValue t).run P w=.ok z w:=by simp [zeroValue,r_info h,hz]
theorem info_of_underlying {t:TypeId} {d:TypeDesc} (h:P.underlying t=some d):∃ i,P.info? t=some i:=by
 cases hi:P.info? t with
 | some i=>exact ⟨i,rfl⟩
 | none=>simp [Program.underlying,hi] at h
def aggD:TypeDesc→Bool
 | .struct _=>true
 | .array _ _=>true
 | _=>false
theorem r_isAgg {t:TypeId} {d:TypeDesc} (h:P.underlying t=some d):(isAgg t).run P w=.ok (aggD d) w:=by
 simp only [isAgg,Sem.run_bind,r_underlying h,Result.andThen_ok]
 cases d <;> rfl
theorem r_sizeU {t:TypeId} {d:TypeDesc} (h:P.underlying t=some d):(sizeOf t).run P w=.ok (P.cellsOf t) w:=by
 obtain ⟨i,hi⟩:=info_of_underlying h
 rw [r_size hi,Program.cellsOf,hi];rfl
theorem zeroOf_some {t:TypeId} {z:SV} (h:zeroOf P t=some z):∃ i v,P.info? t=some i∧i.zero=some v∧VRel ι z v:=by
 unfold zeroOf at h
 cases hi:P.info? t with
 | none=>simp [hi] at h
 | some i=>
  simp only [hi,Option.bind_some] at h
  cases hz:i.zero with
  | none=>simp [hz] at h
  | some v=>
   simp only [hz,Option.bind_some] at h
   exact ⟨i,v,rfl,hz,ofConst_rel h⟩
theorem zeroCellsOf_some {t:TypeId} {z:List SV} (h:zeroCellsOf P t=some z):∃ i v,P.info? t=some i∧i.zero=some v∧LRel ι z v.cells.toList∧z.all SV.isCell=true:=by
 unfold zeroCellsOf at h
 cases hz:zeroOf P t with
 | none=>simp [hz] at h
 | some x=>
  simp only [hz,Option.bind_some] at h
  obtain ⟨i,v,hi,hv,hr⟩:=zeroOf_some (ι:=ι) hz
  exact ⟨i,v,hi,hv,cells_rel hr h⟩
theorem eqBytes_eq:∀ (a b:List UInt8),eqBytes a b=(a == b)
 | [],[]=>rfl
 | [],_::_=>rfl
 | _::_,[]=>rfl
 | a::x,b::y=>by
  simp only [eqBytes,eqBytes_eq x y,List.cons_beq_cons]
  congr 1
  cases h:Nat.beq a.toNat b.toNat
  ·have:a≠b:=λ e=>by subst e;simp at h
   simp [this]
  ·have:a=b:=UInt8.toNat_inj.1 (Nat.eq_of_beq_eq_true h)
   simp [this]
theorem ltBytes_eq:∀ (a b:List UInt8),ltBytes a b=Op.bytesLess a b
 | [],[]=>rfl
 | [],_::_=>rfl
 | _::_,[]=>rfl
 | a::x,b::y=>by
  simp only [ltBytes,Op.bytesLess,ltBytes_eq x y]
  congr 1
  ·cases h:Nat.blt a.toNat b.toNat
   ·have:¬a < b:=λ e=>by
     have e':a.toNat < b.toNat:=UInt8.lt_iff_toNat_lt.1 e
     rw [show Nat.blt a.toNat b.toNat=true from Nat.ble_eq_true_of_le e'] at h;cases h
    simp [this]
   ·have:a < b:=UInt8.lt_iff_toNat_lt.2 (Nat.le_of_ble_eq_true h)
    simp [this]
  ·congr 1
   cases h:Nat.beq a.toNat b.toNat
   ·have:a≠b:=λ e=>by subst e;simp at h
    simp [this]
   ·have:a=b:=UInt8.toNat_inj.1 (Nat.eq_of_beq_eq_true h)
    simp [this]
theorem toList_mk (l:List UInt8):(⟨⟨l⟩⟩:ByteArray).toList=l:=by
 rw [ByteArray.toList_eq]
theorem size_mk (l:List UInt8):(⟨⟨l⟩⟩:ByteArray).size=l.length:=rfl
theorem takeCells_some {cs l:List SV} {off n:Nat} (h:takeCells cs off n=some l):off+n≤cs.length∧l=(cs.drop off).take n:=by
 unfold takeCells at h
 split at h <;> simp at h
 exact ⟨by assumption,h.symm⟩
theorem all_take {l:List SV} {n:Nat} (h:l.all SV.isCell=true):(l.take n).all SV.isCell=true:=by
 rw [List.all_eq_true] at h ⊢;exact λ x hx=>h x (List.mem_of_mem_take hx)
theorem all_drop {l:List SV} {n:Nat} (h:l.all SV.isCell=true):(l.drop n).all SV.isCell=true:=by
 rw [List.all_eq_true] at h ⊢;exact λ x hx=>h x (List.mem_of_mem_drop hx)
theorem part_run {t:TypeId} {cs:List SV} {off:Nat} {x:SV} {vs:Array Value} (h:partS P t cs off=some x) (l:LRel ι cs vs.toList) (hc:cs.all SV.isCell=true) :
  ∃ v,(part t vs off).run P w=.ok v w∧VRel ι x v:=by
 unfold partS at h
 have agg:∀ {d},P.underlying t=some d→aggD d=true→(match takeCells cs off (P.cellsOf t) with | some l=>some (SV.agg l) | none=>none)=some x →
   ∃ v,(part t vs off).run P w=.ok v w∧VRel ι x v:=by
  intro d hd ha h
  cases hk:takeCells cs off (P.cellsOf t) with
  | none=>simp [hk] at h
  | some l'=>
   simp only [hk,Option.some.injEq] at h
   subst h
   obtain ⟨hb,rfl⟩:=takeCells_some hk
   refine ⟨.agg (vs.extract off (off+P.cellsOf t)),?_,vs.extract off (off+P.cellsOf t),rfl,?_,all_take (all_drop hc)⟩
   ·simp only [part,Sem.run_bind,r_isAgg hd,ha,Result.andThen_ok,if_true,Bool.true_eq,Sem.run_ite,r_sizeU hd,Sem.run_pure]
   ·rw [Array.toList_extract]
    have:=(l.drop off).take (P.cellsOf t)
    simpa [List.extract,List.take_drop,Nat.add_comm] using this
 have one:∀ {d},P.underlying t=some d→aggD d=false→cs[off]?=some x →
   ∃ v,(part t vs off).run P w=.ok v w∧VRel ι x v:=by
  intro d hd ha h
  obtain ⟨v,hv,hr⟩:=l.get off h
  refine ⟨v,?_,hr⟩
  rw [Array.getElem?_toList] at hv
  simp only [part,Sem.run_bind,r_isAgg hd,ha,Result.andThen_ok,hv,Bool.false_eq_true,if_false,Sem.run_ite,Sem.run_pure]
 split at h
 ·rename_i hd;exact agg hd rfl h
 ·rename_i hd;exact agg hd rfl h
 ·rename_i d h1 h2 hd
  refine one hd ?_ h
  cases d <;> first | rfl | (exfalso;simp_all)
 ·simp at h
theorem rowCells_some {g:Nat→Option SObj} {id:Nat} {cs:List SV} (h:rowCells g id=some cs):∃ m,g id=some (.cells cs m)∧m≠.dead:=by
 unfold rowCells at h
 cases hg:g id with
 | none=>simp [hg] at h
 | some ob=>
  cases ob with
  | map es c=>simp [hg] at h
  | cells c m=>
   cases m <;> simp [hg] at h <;> subst h <;> exact ⟨_,rfl,by simp⟩
theorem row_real {B:Nat} {g:Nat→Option SObj} {id b o s:Nat} {cs:List SV} (hs:Sim B ι g w) (hi:ι id=some (b,o,s)) (h:rowCells g id=some cs) :
  ∃ vs:List Value,LRel ι cs vs∧cs.all SV.isCell=true∧o+cs.length≤s∧∀ j v,vs[j]?=some v→w.cell? ⟨b,o+j,none⟩=some v:=by
 obtain ⟨m,hg,hm⟩:=rowCells_some h
 obtain ⟨ob,hg',ho,_,_⟩:=hs.obj id b o s hi
 rw [hg] at hg'
 cases hg'
 rcases ho with hd | ⟨rc,el,fz,hb,hsz,hle,hl,ha,_⟩
 ·exact absurd (show m=.dead by cases m <;> simp_all [SObj.isDead]) hm
 ·refine ⟨_,hl,ha,hle,λ j v hv=>?_⟩
  rw [List.getElem?_take] at hv
  split at hv
  ·rw [List.getElem?_drop,Array.getElem?_toList] at hv
   simp [World.cell?,hb,hv]
  ·simp at hv
theorem load_run {B:Nat} {g:Nat→Option SObj} {id b o s off:Nat} {cs:List SV} {t:TypeId} {x:SV} (hs:Sim B ι g w) (hi:ι id=some (b,o,s)) (h:rowCells g id=some cs) (hp:partS P t cs off=some x) :
  ∃ v,(loadVar t ⟨b,o+off,none⟩).run P w=.ok v w∧VRel ι x v:=by
 obtain ⟨vs,hl,ha,hle,hcell⟩:=row_real hs hi h
 unfold partS at hp
 have agg:∀ {d},P.underlying t=some d→aggD d=true→(match takeCells cs off (P.cellsOf t) with | some l=>some (SV.agg l) | none=>none)=some x →
   ∃ v,(loadVar t ⟨b,o+off,none⟩).run P w=.ok v w∧VRel ι x v:=by
  intro d hd hagg h
  cases hk:takeCells cs off (P.cellsOf t) with
  | none=>simp [hk] at h
  | some l'=>
   simp only [hk,Option.some.injEq] at h
   subst h
   obtain ⟨hb,rfl⟩:=takeCells_some hk
   have hlen:=hl.length
   have hn:((vs.drop off).take (P.cellsOf t)).length=P.cellsOf t:=by simp;omega
   have hrun:=run_loadCells_list (P:=P) (w:=w) ⟨b,o+off,none⟩ ((vs.drop off).take (P.cellsOf t)) (λ j v hv=>by
    rw [List.getElem?_take] at hv
    split at hv
    ·rw [List.getElem?_drop] at hv
     have:=hcell _ _ hv
     unfold Addr.add
     split
     ·rename_i e;subst e;simpa using this
     ·simpa [Nat.add_assoc] using this
    ·simp at hv)
   rw [hn] at hrun
   refine ⟨.agg ((vs.drop off).take (P.cellsOf t)).toArray,?_,_,rfl,(hl.drop off).take _,all_take (all_drop ha)⟩
   simp only [loadVar,Sem.run_bind,r_isAgg hd,hagg,Result.andThen_ok,if_true,Sem.run_ite,r_sizeU hd,hrun,Sem.run_pure]
 have one:∀ {d},P.underlying t=some d→aggD d=false→cs[off]?=some x →
   ∃ v,(loadVar t ⟨b,o+off,none⟩).run P w=.ok v w∧VRel ι x v:=by
  intro d hd hagg h
  obtain ⟨v,hv,hr⟩:=hl.get off h
  refine ⟨v,?_,hr⟩
  have:=hcell off v hv
  simp only [loadVar,Sem.run_bind,r_isAgg hd,hagg,Result.andThen_ok,Bool.false_eq_true,if_false,Sem.run_ite,run_load,this]
 split at hp
 ·rename_i hd;exact agg hd rfl hp
 ·rename_i hd;exact agg hd rfl hp
 ·rename_i d h1 h2 hd
  refine one hd ?_ hp
  cases d <;> first | rfl | (exfalso;simp_all)
 ·simp at hp
end
end Go.Sh
end
section
/- The shadow machine: the operations that turn nothing, one by one. -/
namespace Go.Sh
def upd (ι:Inj) (id:Nat) (x:Nat × Nat × Nat):Inj:=λ i=>if i=id then some x else ι i
theorem upd_le {ι:Inj} {id:Nat} {x:Nat × Nat × Nat} (h:ι id=none):ι.le (upd ι id x):=by
 intro i y hy
 unfold upd
 split
 ·rename_i e;subst e;rw [h] at hy;simp at hy
 ·exact hy
@[simp] theorem upd_same {ι:Inj} {id:Nat} {x:Nat × Nat × Nat}:upd ι id x id=some x:=by simp [upd]
structure New (ι:Inj) (w w':World) (ob:SObj) (mk:Nat→SV) (v:Value):Prop where
 os:w'.os=w.os
 tape:w'.tape=w.tape
 output:w'.output=w.output
 size:w'.heap.size=w.heap.size+1
 old:∀ k,k < w.heap.size→w'.heap[k]?=w.heap[k]?
 alive:¬ob.isDead
 own:¬ob.isExt
 par:∀ cs m,ob=.cells cs m→m.par=none
 rel:∃ s,∀ id,ι id=none→VRel (upd ι id (w.heap.size,0,s)) (mk id) v∧ORel (upd ι id (w.heap.size,0,s)) ob w.heap.size 0 s w'
def NOk (ι:Inj) (w:World) (r:NR) (res:Result Next):Prop:=
 match r with
 | .val v=>∃ v',res=.ok (.value v') w∧VRel ι v v'
 | .new ob mk=>∃ v' w',res=.ok (.value v') w'∧New ι w w' ob mk v'
section
variable {P:Program} {w:World} {ι:Inj} {B:Nat} {g:Nat→Option SObj} {t:T} {ρ:Operand→Value}
theorem nVal_some {x:Option SV} {r:NR} (h:nVal x=some r):∃ v,x=some v∧r=.val v:=by
 cases x with
 | none=>simp [nVal] at h
 | some v=>simp only [nVal,Option.some.injEq] at h;exact ⟨v,rfl,h.symm⟩
def Ops (ι:Inj) (t:T) (ρ:Operand→Value) (l:List Operand):Prop:=∀ x,x ∈ l→∀ v,opd t x=some v→VRel ι v (ρ x)
theorem Ops.list {l l':List Operand} (h:Ops ι t ρ l) (hs:∀ x,x ∈ l'→x ∈ l):∀ {vs:List SV},opds t l'=some vs→LRel ι vs (l'.map ρ):=by
 induction l' with
 | nil=>intro vs e;simp only [opds,Option.some.injEq] at e;subst e;rfl
 | cons x l' ih=>
  intro vs e
  simp only [opds] at e
  split at e
  ·rename_i v vs' h1 h2
   simp only [Option.some.injEq] at e
   subst e
   exact .cons (h x (hs x (by simp)) v h1) (ih (λ y hy=>hs y (by simp [hy])) h2)
  ·simp at e
theorem new_row {cs:List SV} {rc:Array Value} {el:TypeId} {m:Mode} {mk:Nat→SV} {v:Value} (hl:LRel ι cs rc.toList) (ha:cs.all SV.isCell=true) (hm:m=.fixed∨m=.grown none)
  (hv:∀ id,ι id=none→VRel (upd ι id (w.heap.size,0,cs.length)) (mk id) v) :
  New ι w { w with heap:=w.heap.push (.cells rc el) } (.cells cs m) mk v:=by
 have hlen:rc.size=cs.length:=by have:=hl.length;simpa using this
 refine ⟨rfl,rfl,rfl,by simp,λ k hk=>?_,?_,?_,?_,cs.length,λ id hi=>⟨hv id hi,.inr ?_⟩⟩
 ·show (w.heap.push _)[k]?=_
  rw [Array.getElem?_push,if_neg (by omega)]
 ·rcases hm with rfl | rfl <;> simp [SObj.isDead]
 ·rcases hm with rfl | rfl <;> simp [SObj.isExt]
 ·rintro c m' h;cases h;rcases hm with rfl | rfl <;> rfl
 ·refine ⟨rc,el,(0,0),?_,hlen,by omega,?_,ha,λ _ j hj=>?_,λ _=>⟨rfl,rfl,rfl⟩⟩
  ·show (w.heap.push _)[w.heap.size]?=_
   simp
  ·have h2:=hl.mono (upd_le (x:=(w.heap.size,0,cs.length)) hi)
   rw [List.drop_zero,List.take_of_length_le (by simp [hlen])]
   exact h2
  ·simp
theorem n_move {x:Operand} {r:NR} (hρ:Ops ι t ρ [x]) (h:nVal (opd t x)=some r):NOk ι w r ((Pure.pure (Next.value (ρ x)):Sem Next).run P w):=by
 obtain ⟨v,hv,rfl⟩:=nVal_some h
 exact ⟨ρ x,rfl,hρ x (by simp) v hv⟩
theorem n_pick {c a b:Operand} {r:NR} (hρ:Ops ι t ρ [c,a,b]) (h:nPick (opd t c) (opd t a) (opd t b)=some r) :
  NOk ι w r ((do Pure.pure (Next.value (if ← asBool (ρ c) then ρ a else ρ b)):Sem Next).run P w):=by
 unfold nPick at h
 split at h
 ·rename_i hc
  obtain ⟨v,hv,rfl⟩:=nVal_some h
  have:=hρ c (by simp) _ hc
  simp only [VRel] at this
  exact ⟨ρ a,by simp [this,asBool],hρ a (by simp) v hv⟩
 ·rename_i hc
  obtain ⟨v,hv,rfl⟩:=nVal_some h
  have:=hρ c (by simp) _ hc
  simp only [VRel] at this
  exact ⟨ρ b,by simp [this,asBool],hρ b (by simp) v hv⟩
 ·simp at h
theorem new_var {el:TypeId} {z:SV} {v:Value} {r:NR} (hz:VRel ι z v) (h:nAlloc (some z)=some r) :
  NOk ι w r ((do Pure.pure (Next.value (.pointer (some (← newVar el v)))):Sem Next).run P w):=by
 unfold nAlloc at h
 simp only at h
 cases hc:z.cells? with
 | none=>simp [hc] at h
 | some cs=>
  simp only [hc,Option.some.injEq] at h
  subst h
  obtain ⟨hl,ha⟩:=cells_rel hz hc
  refine ⟨.pointer (some ⟨w.heap.size,0,none⟩),_,by simp [newVar,newRow];rfl,new_row hl ha (.inl rfl) λ id _=>?_⟩
  exact ⟨_,_,_,upd_same,by simp⟩
theorem n_alloc {el:TypeId} {r:NR} (h:nAlloc (zeroOf P el)=some r) :
  NOk ι w r ((do Pure.pure (Next.value (← Instr.alloc el true (.tuple #[]))):Sem Next).run P w):=by
 cases hz:zeroOf P el with
 | none=>simp [hz,nAlloc] at h
 | some z=>
  obtain ⟨i,v,hi,hv,hr⟩:=zeroOf_some (ι:=ι) hz
  rw [hz] at h
  have:=new_var (P:=P) (w:=w) (el:=el) hr h
  simpa [Instr.alloc,r_zero hi hv] using this
theorem n_box {el:TypeId} {x:Operand} {r:NR} (hρ:Ops ι t ρ [x]) (h:nAlloc (opd t x)=some r) :
  NOk ι w r ((do Pure.pure (Next.value (← Instr.box el (ρ x))):Sem Next).run P w):=by
 cases hz:opd t x with
 | none=>simp [hz,nAlloc] at h
 | some z=>
  rw [hz] at h
  have:=new_var (P:=P) (w:=w) (el:=el) (hρ x (by simp) _ hz) h
  simpa [Instr.box] using this
theorem n_nil {x:Operand} {r:NR} (hρ:Ops ι t ρ [x]) (h:nNil (opd t x)=some r) :
  NOk ι w r ((execOp ρ { dst := none, op := .nilCheck x, type := 0, pos := "", after := #[], guard := none }).run P w) := by
 unfold nNil at h
 split at h <;> simp only [Option.some.injEq,reduceCtorEq] at h <;> subst h <;> rename_i hx <;> have hv:=hρ x (by simp) _ hx
 ·have hv':=hv
  obtain ⟨b,o,s,hi,e⟩:=hv
  exact ⟨ρ x,by simp [execOp,e],hv'⟩
 ·have hv':=hv
  obtain ⟨vs,e,l⟩:=hv
  exact ⟨ρ x,by simp [execOp,e],hv'⟩
theorem n_load {ty:TypeId} {x:Operand} {r:NR} (hs:Sim B ι g w) (hρ:Ops ι t ρ [x]) (h:nLoad P g ty (opd t x)=some r) :
  NOk ι w r ((do Pure.pure (Next.value (← Instr.loadAt ty (ρ x))):Sem Next).run P w):=by
 unfold nLoad at h
 split at h
 ·rename_i id off hx
  split at h
  ·rename_i cs hc
   obtain ⟨v,hv,rfl⟩:=nVal_some h
   obtain ⟨b,o,s,hi,e⟩:=hρ x (by simp) _ hx
   obtain ⟨v',hr,hv'⟩:=load_run (P:=P) hs hi hc hv
   exact ⟨v',by simp [Instr.loadAt,Instr.sureAddr,e,hr],hv'⟩
  ·simp at h
 ·simp at h
theorem n_iface {ty:TypeId} {x:Operand} {r:NR} (hρ:Ops ι t ρ [x]) (h:nIface P ty (opd t x)=some r) :
  NOk ι w r ((do Pure.pure (Next.value (← Instr.makeInterface ty (ρ x))):Sem Next).run P w):=by
 unfold nIface at h
 split at h
 ·simp at h
 ·rename_i d v hn hu hx
  simp only [Option.some.injEq] at h
  subst h
  refine ⟨.iface ty (ρ x),?_,ρ x,rfl,hρ x (by simp) _ hx⟩
  simp only [Instr.makeInterface,Sem.run_bind,r_underlying hu,Result.andThen_ok]
  cases d <;> first | (simp;done) | (exfalso;simp_all)
 ·simp at h
theorem n_func {fn:Fn} {first captured:Array Operand} {r:NR} (hρ:Ops ι t ρ (first++captured).toList) (h:nMakeFunc fn first.toList captured.toList t=some r) :
  NOk ι w r ((do Pure.pure (Next.value (← Instr.makeFunc fn (first.map ρ) (captured.map ρ))):Sem Next).run P w):=by
 unfold nMakeFunc at h
 split at h
 ·rename_i f hf
  unfold nFunc at h
  split at h
  ·rename_i vs hv
   simp only [Option.some.injEq] at h
   subst h
   have he:first=#[]:=by simpa using hf
   subst he
   have hl:=Ops.list hρ (l':=captured.toList) (by intro x hx;simpa using hx) hv
   exact ⟨.func (.func f) #[] (captured.map ρ),by simp [Instr.makeFunc],_,rfl,by simpa using hl⟩
  ·simp at h
 ·simp at h
theorem n_map {ty:TypeId} {m:Option Operand} {r:NR} (h:nMakeMap m=some r) :
  NOk ι w r ((do Pure.pure (Next.value (← Instr.makeMap ty (m.map ρ))):Sem Next).run P w):=by
 unfold nMakeMap at h
 split at h <;> simp only [Option.some.injEq,reduceCtorEq] at h
 subst h
 refine ⟨.map (some w.heap.size),{ w with heap:=w.heap.push (.map #[] 0) },by simp [Instr.makeMap],?_⟩
 refine ⟨rfl,rfl,rfl,by simp,λ k hk=>?_,by simp [SObj.isDead],by simp [SObj.isExt],(λ c m h=>by cases h),0,λ id _=>⟨⟨_,_,_,upd_same,rfl⟩,.inr ⟨#[],?_,rfl⟩⟩⟩
 ·show (w.heap.push _)[k]?=_
  rw [Array.getElem?_push,if_neg (by omega)]
 ·show (w.heap.push _)[w.heap.size]?=_
  simp
theorem n_extract {x:Operand} {i:Nat} {r:NR} (hρ:Ops ι t ρ [x]) (h:nExtract i (opd t x)=some r) :
  NOk ι w r ((do Pure.pure (Next.value (← Instr.extract (ρ x) i)):Sem Next).run P w):=by
 unfold nExtract at h
 split at h
 ·rename_i vs hx
  obtain ⟨v,hv,rfl⟩:=nVal_some h
  obtain ⟨ys,e,l⟩:=hρ x (by simp) _ hx
  obtain ⟨y,hy,hr⟩:=l.get i hv
  rw [Array.getElem?_toList] at hy
  exact ⟨y,by simp [Instr.extract,e,hy],hr⟩
 ·simp at h
theorem n_fieldAddr {ty:TypeId} {x:Operand} {f:Nat} {r:NR} (hρ:Ops ι t ρ [x]) (h:nFieldAddr P ty f (opd t x)=some r) :
  NOk ι w r ((do Pure.pure (Next.value (← Instr.fieldAt ty (ρ x) f)):Sem Next).run P w):=by
 unfold nFieldAddr at h
 split at h
 ·rename_i id off fs hx hu
  split at h
  ·rename_i fd hf
   split at h
   ·rename_i i hi
    split at h
    ·simp at h
    ·rename_i hz
     simp only [Option.some.injEq] at h
     subst h
     obtain ⟨b,o,s,hid,e⟩:=hρ x (by simp) _ hx
     rw [Array.getElem?_toList] at hf
     refine ⟨.pointer (some ⟨b,o+(off+fd.offset),none⟩),?_,b,o,s,hid,rfl⟩
     have:(⟨b,o+off,none⟩:Addr).add fd.offset=⟨b,o+(off+fd.offset),none⟩:=by
      unfold Addr.add;split
      ·rename_i e0;simp [e0]
      ·simp [Nat.add_assoc]
     simp [Instr.fieldAt,r_underlying hu,hf,Instr.sureAddr,e,fieldPlace,r_size hi,hz,this]
   ·simp at h
  ·simp at h
 ·simp at h
theorem n_field {ty:TypeId} {x:Operand} {f:Nat} {r:NR} (hρ:Ops ι t ρ [x]) (h:nField P ty f (opd t x)=some r) :
  NOk ι w r ((do Pure.pure (Next.value (← Instr.field ty (ρ x) f)):Sem Next).run P w):=by
 unfold nField at h
 split at h
 ·rename_i cs fs hx hu
  split at h
  ·rename_i fd hf
   obtain ⟨v,hv,rfl⟩:=nVal_some h
   obtain ⟨vs,e,l,ha⟩:=hρ x (by simp) _ hx
   rw [Array.getElem?_toList] at hf
   obtain ⟨v',hr,hv'⟩:=part_run (P:=P) (w:=w) hv l ha
   exact ⟨v',by simp [Instr.field,r_underlying hu,hf,asAgg,e,hr],hv'⟩
  ·simp at h
 ·simp at h
theorem intNat_some {ι:Inj} {x:SV} {v:Value} {k:Nat} (h:intNat x=some k) (hr:VRel ι x v):∃ ik:IntKind,v=.int ik (k:Int):=by
 unfold intNat at h
 split at h
 ·rename_i ik n
  split at h <;> simp only [Option.some.injEq,reduceCtorEq] at h
  rename_i hn
  simp only [VRel] at hr
  exact ⟨ik,by rw [hr];congr 1;omega⟩
 ·simp at h
theorem add_spot {b o n:Nat}:(⟨b,o,none⟩:Addr).add n=⟨b,o+n,none⟩:=by
 unfold Addr.add;split
 ·rename_i e0;simp [e0]
 ·rfl
theorem n_indexAddr {ty:TypeId} {x i:Operand} {r:NR} (hρ:Ops ι t ρ [x,i]) (h:nIndexAddr P ty (opd t x) (opd t i)=some r) :
  NOk ι w r ((do Pure.pure (Next.value (← Instr.indexAt ty (ρ x) (ρ i))):Sem Next).run P w):=by
 unfold nIndexAddr at h
 split at h
 ·rename_i el id off len es cap k hu hx hi
  split at h
  ·rename_i inf hinf
   split at h <;> simp only [Option.some.injEq,reduceCtorEq] at h
   rename_i hk
   subst h
   obtain ⟨b,o,s,c,hid,hc,hlc,hle,e | ⟨e,_⟩⟩:=hρ x (by simp) _ hx
   ·cases hoi:opd t i with
    | none=>simp [hoi] at hi
    | some vi=>
     simp only [hoi,Option.bind_some] at hi
     obtain ⟨ik,ei⟩:=intNat_some hi (hρ i (by simp) _ hoi)
     refine ⟨.pointer (some ⟨b,o+(off+k * inf.size),none⟩),?_,b,o,s,hid,rfl⟩
     have h1:(0:Int)≤(k:Int)∧(k:Int) < (len:Int):=by omega
     simp [Instr.indexAt,asIntOf,ei,r_underlying hu,e,r_size hinf,add_spot,Nat.add_assoc]
     intro hh;omega
   ·omega
  ·simp at h
 ·rename_i len el id off k hu hx hi
  split at h
  ·rename_i inf hinf
   split at h <;> simp only [Option.some.injEq,reduceCtorEq] at h
   rename_i hk
   subst h
   obtain ⟨b,o,s,hid,e⟩:=hρ x (by simp) _ hx
   cases hoi:opd t i with
   | none=>simp [hoi] at hi
   | some vi=>
    simp only [hoi,Option.bind_some] at hi
    obtain ⟨ik,ei⟩:=intNat_some hi (hρ i (by simp) _ hoi)
    refine ⟨.pointer (some ⟨b,o+(off+k * inf.size),none⟩),?_,b,o,s,hid,rfl⟩
    have h1:(0:Int)≤(k:Int)∧(k:Int) < (len:Int):=by omega
    simp [Instr.indexAt,asIntOf,ei,r_underlying hu,e,Instr.sureAddr,r_size hinf,add_spot,Nat.add_assoc]
    intro hh;omega
  ·simp at h
 ·simp at h
theorem n_index {ty:TypeId} {x i:Operand} {r:NR} (hρ:Ops ι t ρ [x,i]) (h:nIndex P ty (opd t x) (opd t i)=some r) :
  NOk ι w r ((do Pure.pure (Next.value (← Instr.index ty (ρ x) (ρ i))):Sem Next).run P w):=by
 unfold nIndex at h
 split at h
 ·rename_i len el cs k hu hx hi
  split at h
  ·rename_i inf hinf
   split at h
   ·rename_i hk
    obtain ⟨v,hv,rfl⟩:=nVal_some h
    obtain ⟨vs,e,l,ha⟩:=hρ x (by simp) _ hx
    cases hoi:opd t i with
    | none=>simp [hoi] at hi
    | some vi=>
     simp only [hoi,Option.bind_some] at hi
     obtain ⟨ik,ei⟩:=intNat_some hi (hρ i (by simp) _ hoi)
     obtain ⟨v',hr,hv'⟩:=part_run (P:=P) (w:=w) hv l ha
     refine ⟨v',?_,hv'⟩
     have h1:(k:Int) < (len:Int):=by omega
     simp [Instr.index,asIntOf,ei,r_underlying hu,e,r_size hinf,hr]
     intro hh;omega
   ·simp at h
  ·simp at h
 ·rename_i s k hu hx hi
  split at h <;> simp only [Option.some.injEq,reduceCtorEq] at h
  rename_i c hc
  subst h
  have e:=hρ x (by simp) _ hx
  simp only [VRel] at e
  cases hoi:opd t i with
  | none=>simp [hoi] at hi
  | some vi=>
   simp only [hoi,Option.bind_some] at hi
   obtain ⟨ik,ei⟩:=intNat_some hi (hρ i (by simp) _ hoi)
   refine ⟨.int .u8 c.toNat,?_,rfl⟩
   have h2:(⟨⟨s⟩⟩:ByteArray)[k]?=some c:=by
    obtain ⟨hlt,hcc⟩:=List.getElem?_eq_some_iff.1 hc
    have hlt':k < (⟨⟨s⟩⟩:ByteArray).size:=hlt
    rw [getElem?_pos (⟨⟨s⟩⟩:ByteArray) k hlt']
    exact congrArg some hcc
   simp [Instr.index,asIntOf,ei,r_underlying hu,e,h2]
 ·simp at h
end
end Go.Sh
end
section
/- The shadow machine: building, comparing, slicing, looking up. -/
namespace Go.Sh
section
variable {P:Program} {w:World} {ι:Inj} {B:Nat} {g:Nat→Option SObj} {t:T} {ρ:Operand→Value}
theorem set_row_get:∀ (l:List Value) (k off:Nat) (cells:Array Value) (j:Nat),off+k+l.length≤cells.size →
  ((l.zipIdx k).foldl (λ (cs:Array Value) (x:Value × Nat)=>cs.setIfInBounds (off+x.2) x.1) cells)[j]?=if off+k≤j∧j < off+k+l.length then l[j - (off+k)]? else cells[j]?
 | [],k,off,cells,j,_=>by rw [if_neg (by simp only [List.length_nil];omega)];rfl
 | v::l,k,off,cells,j,h=>by
  simp only [List.length_cons] at h
  simp only [List.zipIdx_cons,List.foldl_cons]
  rw [set_row_get l (k+1) off _ j (by simp;omega)]
  simp only [List.length_cons,Array.getElem?_setIfInBounds]
  by_cases h1:off+(k+1)≤j∧j < off+(k+1)+l.length
  ·rw [if_pos h1,if_pos (by omega),show j - (off+k)=(j - (off+(k+1)))+1 from by omega,List.getElem?_cons_succ]
  ·rw [if_neg h1]
   by_cases h2:off+k=j
   ·rw [if_pos h2,if_pos (by omega),if_pos (by omega)]
    subst h2;simp
   ·rw [if_neg h2,if_neg (by omega)]
theorem fill_step {place:Nat→Option (Nat × Nat)} {cells:Array Value} {i off size:Nat} {v:Value} {rest:List (Nat × Value)} (hp:place i=some (off,size)) (hs:v.cells.size=size) (hl:off+size≤cells.size) :
  ∃ cells':Array Value,Instr.fill place cells ((i,v)::rest)=Instr.fill place cells' rest∧cells'.toList=cells.toList.take off++(v.cells.toList++cells.toList.drop (off+size)):=by
 refine ⟨v.cells.zipIdx.foldl (λ cs (c,j)=>cs.setIfInBounds (off+j) c) cells,?_,?_⟩
 ·simp only [Instr.fill,hp]
  rw [if_neg]
  simp [hs];omega
 ·rw [← Array.foldl_toList,Array.toList_zipIdx]
  have hlen:v.cells.toList.length=size:=by simp [hs]
  apply List.ext_getElem?
  intro j
  rw [Array.getElem?_toList]
  have:=set_row_get v.cells.toList 0 off cells j (by rw [hlen];omega)
  refine this.trans ?_
  rw [Nat.add_zero,hlen]
  by_cases h:off≤j∧j < off+size
  ·rw [if_pos h,List.getElem?_append_right (by simp;omega),List.getElem?_append_left (by simp [hs];omega)]
   congr 1
   simp;omega
  ·rw [if_neg h]
   by_cases h2:j < off
   ·rw [List.getElem?_append_left (by simp;omega),List.getElem?_take_of_lt h2,Array.getElem?_toList]
   ·rw [List.getElem?_append_right (by simp;omega),List.getElem?_append_right (by simp [hs];omega),List.getElem?_drop,Array.getElem?_toList]
    congr 1
    simp [hs];omega
theorem fillAny_run {place:Nat→Option (Nat × Nat)}:∀ (parts:List (Nat × SV)) (cells:List SV) (rc:Array Value) (vs:List Value) (r:List SV),
  fillAny place cells parts=some r→LRel ι cells rc.toList→cells.all SV.isCell=true→LRel ι (parts.map (·.2)) vs →
  ∃ rc',Instr.fill place rc ((parts.map (·.1)).zip vs)=some rc'∧LRel ι r rc'.toList∧r.all SV.isCell=true
 | [],cells,rc,vs,r,h,hl,ha,hv=>by
  simp only [fillAny,Option.some.injEq] at h
  subst h
  exact ⟨rc,by simp [Instr.fill],hl,ha⟩
 | (i,x)::rest,cells,rc,vs,r,h,hl,ha,hv=>by
  simp only [fillAny] at h
  split at h
  ·rename_i off size cs hp hc
   split at h
   ·rename_i hb
    obtain ⟨v,vs',rfl,hx,hv'⟩:=hv
    obtain ⟨hcl,hca⟩:=cells_rel hx hc
    have hlen:=hl.length
    have hclen:=hcl.length
    obtain ⟨rc',he,htl⟩:=fill_step (v:=v) (cells:=rc) (rest:=(rest.map (·.1)).zip vs') hp (by simp at hclen;omega) (by simp at hlen;omega)
    have hrel:LRel ι (cells.take off++(cs++cells.drop (off+size))) rc'.toList:=by
     rw [htl];exact (hl.take off).append (hcl.append (hl.drop _))
    obtain ⟨rc2,he2,h2,h3⟩:=fillAny_run rest _ rc' vs' r h hrel (by simp only [List.all_append,all_take ha,hca,all_drop ha,Bool.and_true]) hv'
    exact ⟨rc2,by simp only [List.map_cons,List.zip_cons_cons];rw [he,he2],h2,h3⟩
   ·simp at h
  ·simp at h
theorem fillAsc_any {place:Nat→Option (Nat × Nat)}:∀ (parts:List (Nat × SV)) (pre cells r:List SV),fillAsc place pre.length cells parts=some r→fillAny place (pre++cells) parts=some (pre++r)
 | [],pre,cells,r,h=>by simp only [fillAsc,Option.some.injEq] at h;subst h;rfl
 | (i,x)::rest,pre,cells,r,h=>by
  simp only [fillAsc] at h
  simp only [fillAny]
  split at h
  ·rename_i off size cs hp hc
   split at h
   ·rename_i hb
    obtain ⟨h1,h2,h3⟩:=hb
    split at h
    ·rename_i r' hr
     simp only [Option.some.injEq] at h
     subst h
     have hlen:(pre++(cells.take (off - pre.length)++cs)).length=off+size:=by simp [h2];omega
     have:=fillAsc_any rest (pre++(cells.take (off - pre.length)++cs)) (cells.drop (off - pre.length+size)) r' (by rw [hlen];exact hr)
     rw [if_pos ⟨h2,by simp;omega⟩]
     rw [List.take_append,List.drop_append]
     rw [List.take_of_length_le h1,List.drop_eq_nil_of_le (by omega:pre.length≤off+size),List.nil_append,show off+size - pre.length=off - pre.length+size from by omega]
     simpa [List.append_assoc] using this
    ·simp at h
   ·simp at h
  ·simp at h
theorem fillS_run {place:Nat→Option (Nat × Nat)} {parts:List (Nat × SV)} {cells:List SV} {rc:Array Value} {vs:List Value} {r:List SV}
  (h:fillS place cells parts=some r) (hl:LRel ι cells rc.toList) (ha:cells.all SV.isCell=true) (hv:LRel ι (parts.map (·.2)) vs) :
  ∃ rc',Instr.fill place rc ((parts.map (·.1)).zip vs)=some rc'∧LRel ι r rc'.toList∧r.all SV.isCell=true:=by
 refine fillAny_run parts cells rc vs r ?_ hl ha hv
 unfold fillS at h
 split at h
 ·rename_i r' hr
  simp only [Option.some.injEq] at h
  subst h
  exact fillAsc_any parts [] cells _ hr
 ·exact h
theorem fieldPlaces_eq:∀ (fs:List Field) {l:List (Nat × Nat)},fieldPlaces P fs=some l→fs.mapM (λ f=>(P.info? f.type).map λ i=>(f.offset,i.size))=some l
 | [],_,h=>by simp only [fieldPlaces,Option.some.injEq] at h;subst h;rfl
 | f::fs,_,h=>by
  simp only [fieldPlaces] at h
  split at h
  ·rename_i i r hi hr
   simp only [Option.some.injEq] at h
   subst h
   simp [List.mapM_cons,hi,fieldPlaces_eq fs hr]
  ·simp at h
theorem zip_map_fst {α β:Type}:∀ (l:List (Nat × α)) (vs:List β),vs.length=l.length→((l.map (·.1)).zip vs).map (·.1)=l.map (·.1)∧((l.map (·.1)).zip vs).map (·.2)=vs
 | [],[],_=>⟨rfl,rfl⟩
 | x::l,v::vs,h=>by
  simp only [List.length_cons,Nat.add_right_cancel_iff] at h
  obtain ⟨a,b⟩:=zip_map_fst l vs h
  exact ⟨by simp [a],by simp [b]⟩
theorem opds_length:∀ {l:List Operand} {vs:List SV},opds t l=some vs→vs.length=l.length
 | [],_,h=>by simp only [opds,Option.some.injEq] at h;subst h;rfl
 | x::l,_,h=>by
  simp only [opds] at h
  split at h
  ·rename_i h1 h2;simp only [Option.some.injEq] at h;subst h;simp [opds_length h2]
  ·simp at h
theorem parts_rel {ps:Array (Nat × Operand)} {vs:List SV} (hρ:Ops ι t ρ (ps.toList.map (·.2))) (h:opds t (ps.toList.map (·.2))=some vs) :
  ∃ us:List Value,(ps.map λ (i,x)=>(i,ρ x)).toList=(((ps.toList.map (·.1)).zip vs).map (·.1)).zip us∧LRel ι (((ps.toList.map (·.1)).zip vs).map (·.2)) us:=by
 have hl:=opds_length h
 simp only [List.length_map] at hl
 obtain ⟨a,b⟩:=zip_map_fst ps.toList vs hl
 refine ⟨(ps.toList.map (·.2)).map ρ,?_,?_⟩
 ·rw [a,Array.toList_map]
  generalize ps.toList=l
  clear hρ h hl a b
  induction l with
  | nil=>rfl
  | cons x l ih=>simp only [List.map_cons,List.zip_cons_cons,ih]
 ·rw [b];exact Ops.list hρ (λ _ hx=>hx) h
theorem n_build {ty:TypeId} {ps:Array (Nat × Operand)} {r:NR} (hρ:Ops ι t ρ (ps.toList.map (·.2))) (h:nBuild P ty ps.toList t=some r) :
  NOk ι w r ((do Pure.pure (Next.value (← Instr.build ty (ps.map λ (i,x)=>(i,ρ x)))):Sem Next).run P w):=by
 unfold nBuild at h
 split at h
 ·rename_i vs z fs hv hz hu
  split at h
  ·rename_i pl hpl
   split at h <;> simp only [Option.some.injEq,reduceCtorEq] at h
   rename_i cs hf
   subst h
   obtain ⟨i,zv,hi,hzv,hzl,hza⟩:=zeroCellsOf_some (ι:=ι) hz
   obtain ⟨us,hus,hur⟩:=parts_rel hρ hv
   obtain ⟨rc,hrc,hrl,hra⟩:=fillS_run hf hzl hza hur
   refine ⟨.agg rc,?_,rc,rfl,hrl,hra⟩
   have hb:P.built ty (ps.map λ (i,x)=>(i,ρ x)).toList=some rc:=by
    unfold Program.built
    rw [hus]
    simp only [hi,hu,hzv,fieldPlaces_eq _ hpl]
    have:(λ x:Nat=>pl.toArray[x]?)=(λ x:Nat=>pl[x]?):=by funext x;simp
    rw [this];exact hrc
   simp [run_build w ty _ rc hb]
  ·simp at h
 ·rename_i vs z n el hv hz hu
  split at h
  ·rename_i ie hie
   split at h <;> simp only [Option.some.injEq,reduceCtorEq] at h
   rename_i cs hf
   subst h
   obtain ⟨i,zv,hi,hzv,hzl,hza⟩:=zeroCellsOf_some (ι:=ι) hz
   obtain ⟨us,hus,hur⟩:=parts_rel hρ hv
   obtain ⟨rc,hrc,hrl,hra⟩:=fillS_run hf hzl hza hur
   refine ⟨.agg rc,?_,rc,rfl,hrl,hra⟩
   have hb:P.built ty (ps.map λ (i,x)=>(i,ρ x)).toList=some rc:=by
    unfold Program.built
    rw [hus]
    simp only [hi,hu,hzv,hie]
    exact hrc
   simp [run_build w ty _ rc hb]
  ·simp at h
 ·simp at h
theorem zeros_rel {z:List SV} {zv:Array Value} (hl:LRel ι z zv.toList) (h0:0 < z.length):∀ n:Nat,LRel ι (repeatCells z n) ((Array.range (n * z.length)).map (zv[· % zv.size]!)).toList:=by
 have hs:zv.size=z.length:=by have:=hl.length;simpa using this
 intro n
 induction n with
 | zero=>simp [repeatCells,LRel]
 | succ n ih=>
  have:((Array.range ((n+1) * z.length)).map (zv[· % zv.size]!)).toList=zv.toList++((Array.range (n * z.length)).map (zv[· % zv.size]!)).toList:=by
   apply List.ext_getElem?
   intro j
   simp only [Array.toList_map,List.getElem?_map,Array.toList_range]
   by_cases hj:j < z.length
   ·rw [List.getElem?_append_left (by simp [hs];omega),List.getElem?_range (by rw [Nat.succ_mul];omega)]
    simp only [Option.map_some,hs,Nat.mod_eq_of_lt hj]
    rw [Array.getElem?_toList,getElem!_pos zv j (by omega),getElem?_pos zv j (by omega)]
   ·rw [List.getElem?_append_right (by simp [hs];omega)]
    simp only [List.getElem?_map,Array.length_toList,hs]
    by_cases hj2:j < (n+1) * z.length
    ·rw [List.getElem?_range hj2,List.getElem?_range (by rw [Nat.succ_mul] at hj2;omega)]
     simp only [Option.map_some]
     rw [show j % z.length=(j - z.length) % z.length from Nat.mod_eq_sub_mod (by omega)]
    ·rw [List.getElem?_eq_none (by simp;omega),List.getElem?_eq_none (by simp;rw [Nat.succ_mul] at hj2;omega)]
  rw [this]
  exact hl.append ih
theorem repeat_all {z:List SV} (h:z.all SV.isCell=true):∀ n,(repeatCells z n).all SV.isCell=true
 | 0=>rfl
 | n+1=>by simp only [repeatCells,List.all_append,h,repeat_all h n,Bool.and_self]
theorem repeat_length {z:List SV}:∀ n,(repeatCells z n).length=n * z.length
 | 0=>by simp [repeatCells]
 | n+1=>by simp only [repeatCells,List.length_append,repeat_length n,Nat.succ_mul];omega
theorem fillAny_length {place:Nat→Option (Nat × Nat)}:∀ (parts:List (Nat × SV)) (cells r:List SV),fillAny place cells parts=some r→r.length=cells.length
 | [],cells,r,h=>by simp only [fillAny,Option.some.injEq] at h;rw [h]
 | (i,x)::rest,cells,r,h=>by
  simp only [fillAny] at h
  split at h
  ·split at h
   ·rename_i hb
    rw [fillAny_length rest _ r h]
    simp;omega
   ·simp at h
  ·simp at h
theorem fillS_length {place:Nat→Option (Nat × Nat)} {parts:List (Nat × SV)} {cells r:List SV} (h:fillS place cells parts=some r):r.length=cells.length:=by
 unfold fillS at h
 split at h
 ·rename_i r' hr
  simp only [Option.some.injEq] at h
  subst h
  exact fillAny_length parts cells _ (fillAsc_any parts [] cells _ hr)
 ·exact fillAny_length parts cells r h
theorem n_buildSlice {ty:TypeId} {n:Nat} {ps:Array (Nat × Operand)} {r:NR} (hρ:Ops ι t ρ (ps.toList.map (·.2))) (h:nBuildSlice P ty n ps.toList t=some r) :
  NOk ι w r ((do Pure.pure (Next.value (← Instr.buildSlice ty n (ps.map λ (i,x)=>(i,ρ x)))):Sem Next).run P w):=by
 unfold nBuildSlice at h
 split at h
 ·rename_i el hu
  split at h
  ·rename_i vs z ie hv hz hie
   split at h
   ·rename_i hb
    obtain ⟨hb1,hb2,hb3⟩:=hb
    split at h <;> simp only [Option.some.injEq,reduceCtorEq] at h
    rename_i cs hf
    subst h
    obtain ⟨i,zv,hi,hzv,hzl,hza⟩:=zeroCellsOf_some (ι:=ι) hz
    rw [hie] at hi
    cases hi
    obtain ⟨us,hus,hur⟩:=parts_rel hρ hv
    have hzs:zv.cells.size=z.length:=by have:=hzl.length;simpa using this
    have hzr:=zeros_rel hzl (by omega) n
    rw [hb2] at hzr
    obtain ⟨rc,hrc,hrl,hra⟩:=fillS_run hf hzr (repeat_all hza n) hur
    have hlen:cs.length=n * ie.size:=by rw [fillS_length hf,repeat_length,hb2]
    refine ⟨.slice (some ⟨w.heap.size,0,none⟩) n n,{ w with heap:=w.heap.push (.cells rc el) },?_,new_row (el:=el) hrl hra (.inl rfl) λ id _=>?_⟩
    ·have hn:¬(n * ie.size > 2 ^ 24):=by omega
     have hrange:((Array.range (n * ie.size)).map λ x=>((if n * ie.size=0 then #[] else zv.cells):Array Value)[x % ((if n * ie.size=0 then #[] else zv.cells):Array Value).size]!)=(Array.range (n * ie.size)).map λ x=>zv.cells[x % zv.cells.size]!:=by
      by_cases h0:n * ie.size=0
      ·simp [h0]
      ·simp [h0]
     rw [← hus] at hrc
     by_cases h0:n * ie.size=0
     ·have hr0:Array.range 0=#[]:=rfl
      have hrc':=hrc
      simp only [h0,hr0,Array.map_empty,List.map_toArray] at hrc'
      simp [Instr.buildSlice,r_underlying hu,r_size hie,h0,newRow,hr0]
      simp at hrc'
      simp [hrc']
     ·have hb1':¬16777216 < n * ie.size:=Nat.not_lt.2 hb1
      simp at hrc
      have h0':¬(n=0∨ie.size=0):=by rintro (e | e) <;> simp [e] at h0
      simp [Instr.buildSlice,r_underlying hu,r_size hie,h0',newRow,r_zero hie hzv,hb1',hrc]
      exact λ hh=>absurd hh h0
    ·exact ⟨_,_,_,n,upd_same,by simp,Nat.le_refl _,by rw [hlen];omega,.inl rfl⟩
   ·simp at h
  ·simp at h
 ·simp at h
theorem wrap_i64 {x:Int} (h:0≤x) (h':x < 9223372036854775808):IntKind.i64.wrap x=x:=by
 show (if decide (x % 18446744073709551616 ≥ 9223372036854775808)=true then x % 18446744073709551616 - 18446744073709551616 else x % 18446744073709551616)=x
 simp only [decide_eq_true_eq]
 split <;> omega
theorem n_makeSlice {ty:TypeId} {l c:Operand} {r:NR} (hρ:Ops ι t ρ [l,c]) (h:nMakeSlice P ty (opd t l) (opd t c)=some r) :
  NOk ι w r ((do Pure.pure (Next.value (← Instr.makeSlice ty (ρ l) (ρ c))):Sem Next).run P w):=by
 unfold nMakeSlice at h
 split at h
 ·rename_i el k n k' m hu hl hc
  split at h
  ·rename_i z ie hz hie
   split at h <;> simp only [Option.some.injEq,reduceCtorEq] at h
   rename_i hb
   obtain ⟨hb0,hb1,hb2,hb3,hb4⟩:=hb
   subst h
   obtain ⟨i,zv,hi,hzv,hzl,hza⟩:=zeroCellsOf_some (ι:=ι) hz
   rw [hie] at hi
   cases hi
   have el':=hρ l (by simp) _ hl
   have ec':=hρ c (by simp) _ hc
   simp only [VRel] at el' ec'
   have hzr:=zeros_rel hzl (by omega) m.toNat
   rw [hb3] at hzr
   have hlen:(repeatCells z m.toNat).length=m.toNat * ie.size:=by rw [repeat_length,hb3]
   refine ⟨.slice (some ⟨w.heap.size,0,none⟩) n.toNat m.toNat,{ w with heap:=w.heap.push (.cells ((Array.range (m.toNat * ie.size)).map (zv.cells[· % zv.cells.size]!)) el) },?_,new_row (el:=el) hzr (repeat_all hza _) (.inl rfl) λ id _=>?_⟩
   ·have hmb:(ie.bytes:Int) * m≤1099511627776:=by
     have h1:m * ((ie.bytes:Int))≤m * ((ie.bytes+ie.size+1:Nat):Int):=Int.mul_le_mul_of_nonneg_left (by omega) (by omega)
     rw [Int.mul_comm];omega
    have hm:m≤1099511627776:=by
     have h1:m * 1≤m * ((ie.bytes+ie.size+1:Nat):Int):=Int.mul_le_mul_of_nonneg_left (by omega) (by omega)
     omega
    have w1:IntKind.i64.wrap n=n:=wrap_i64 hb0 (by omega)
    have w2:IntKind.i64.wrap m=m:=wrap_i64 (by omega) (by omega)
    have t1:¬(m < 0):=by omega
    have t2:¬(281474976710656 < (ie.bytes:Int) * m):=by omega
    have t3:¬(n < 0):=by omega
    have t4:¬(m < n):=by omega
    have hr0:Array.range 0=#[]:=rfl
    by_cases h0:m.toNat * ie.size=0
    ·simp [Instr.makeSlice,r_underlying hu,el',ec',asInt,asIntOf,r_info hie,w1,w2,t1,t2,t3,t4,r_size hie,newRow,h0,hr0]
    ·simp [Instr.makeSlice,r_underlying hu,el',ec',asInt,asIntOf,r_info hie,w1,w2,t1,t2,t3,t4,r_size hie,newRow,h0,r_zero hie hzv]
   ·exact ⟨_,_,_,m.toNat,upd_same,by simp,by omega,by rw [hlen];omega,.inl rfl⟩
  ·simp at h
 ·simp at h
end
end Go.Sh
end
section
/- The shadow machine: comparing, turning, slicing, looking up; and all operations that turn nothing. -/
namespace Go.Sh
section
variable {P:Program} {w:World} {ι:Inj} {B:Nat} {g:Nat→Option SObj} {t:T} {ρ:Operand→Value}
theorem guard_plain {op:BinOp} {ty:TypeId} {x y:Operand} {a b:Value} (h:¬(a=.nilIface∧b=.nilIface)) (h':∀ xs ys,¬(a=.agg xs∧b=.agg ys)):(eqGuard op ty x y a b).run P w=.ok () w:=by
 unfold eqGuard
 cases op <;> cases a <;> cases b <;> first | (simp;done) | (exact absurd ⟨rfl,rfl⟩ h) | (exact absurd ⟨rfl,rfl⟩ (h' _ _))
theorem cmpInt_run {op:BinOp} {x y:Int} {c:Bool} (h:cmpInt op x y=some c):(Op.intCmp op x y).run P w=.ok (.bool c) w:=by
 cases op <;> simp only [cmpInt,Option.some.injEq,reduceCtorEq] at h <;> subst h <;> simp only [Op.intCmp,Sem.run_pure] <;> congr 2 <;> simp only [Bool.eq_iff_iff,beq_iff_eq,bne_iff_ne,decide_eq_true_eq,ne_eq,Bool.not_eq_true',decide_eq_false_iff_not,gt_iff_lt,ge_iff_le]
theorem bin_int {op:BinOp} {k:IntKind} {x y:Int} {v:SV} {ty:TypeId} (h:(match cmpInt op x y with | some c=>some (SV.bool c) | none=>(arithInt op k x y).map (.int k))=some v) :
  ∃ v',(binOp op ty (.int k x) (.int k y)).run P w=.ok v' w∧VRel ι v v':=by
 cases hc:cmpInt op x y with
 | some c=>
  simp only [hc,Option.some.injEq] at h
  subst h
  have:=cmpInt_run (P:=P) (w:=w) hc
  refine ⟨.bool c,?_,rfl⟩
  cases op <;> simp only [cmpInt,reduceCtorEq] at hc <;> simpa [binOp] using this
 | none=>
  simp only [hc] at h
  cases op <;> simp only [cmpInt,reduceCtorEq] at hc <;> simp only [arithInt,Option.map_some,Option.map_none,Option.some.injEq,reduceCtorEq] at h
  case quo=>
   split at h <;> simp only [Option.map_some,Option.map_none,Option.some.injEq,reduceCtorEq] at h
   rename_i hy;subst h
   exact ⟨_,by simp [binOp,Op.intDiv,hy],rfl⟩
  case rem=>
   split at h <;> simp only [Option.map_some,Option.map_none,Option.some.injEq,reduceCtorEq] at h
   rename_i hy;subst h
   exact ⟨_,by simp [binOp,Op.intDiv,hy],rfl⟩
  all_goals subst h;exact ⟨_,by simp [binOp,Op.intArith,Op.intBits];try rfl,rfl⟩
theorem bin_shift {op:BinOp} {k k':IntKind} {x y:Int} {n:Int} {ty:TypeId} (ho:op=.shl∨op=.shr) (h:shiftInt op k x y=some n) :
  (binOp op ty (.int k x) (.int k' y)).run P w=.ok (.int k n) w:=by
 unfold shiftInt at h
 split at h
 ·simp at h
 ·rename_i hy
  rcases ho with rfl | rfl <;> simp only [Option.some.injEq] at h <;> subst h <;> simp [binOp,Op.shift,hy]
theorem strOp_run {op:BinOp} {x y:List UInt8} {v:SV} {ty:TypeId} (h:strOp op x y=some v) :
  ∃ v',(binOp op ty (.string ⟨⟨x⟩⟩) (.string ⟨⟨y⟩⟩)).run P w=.ok v' w∧VRel ι v v':=by
 have hb:(binOp op ty (.string ⟨⟨x⟩⟩) (.string ⟨⟨y⟩⟩))=Op.stringOp op ⟨⟨x⟩⟩ ⟨⟨y⟩⟩:=by cases op <;> rfl
 rw [hb]
 cases op <;> simp only [strOp,Option.some.injEq,reduceCtorEq] at h
 case add=>
  split at h <;> simp only [Option.some.injEq,reduceCtorEq] at h
  rename_i hl
  subst h
  refine ⟨.string ⟨⟨x++y⟩⟩,?_,rfl⟩
  have hmax:IntKind.i64.max=9223372036854775807:=rfl
  have hn:¬(((⟨⟨x⟩⟩:ByteArray).size+(⟨⟨y⟩⟩:ByteArray).size:Nat):Int) > IntKind.i64.max:=by
   rw [hmax,size_mk,size_mk];omega
  simp only [Op.stringOp,Sem.run_ite]
  rw [if_neg hn]
  have he:(⟨⟨x⟩⟩:ByteArray)++(⟨⟨y⟩⟩:ByteArray)=⟨⟨x++y⟩⟩:=by
   apply ByteArray.ext
   rw [ByteArray.data_append]
   simp
  rw [he];rfl
 all_goals
  subst h
  refine ⟨_,?_,rfl⟩
  simp only [Op.stringOp,toList_mk,eqBytes_eq,ltBytes_eq,Sem.run_pure]
theorem n_un {op:UnOp} {ty:TypeId} {x:Operand} {r:NR} (hρ:Ops ι t ρ [x]) (h:nUn op (opd t x)=some r) :
  NOk ι w r ((do Pure.pure (Next.value (← Op.unary op (ρ x))):Sem Next).run P w):=by
 unfold nUn at h
 split at h
 ·rename_i a hx
  obtain ⟨v,hv,rfl⟩:=nVal_some h
  have ha:=hρ x (by simp) _ hx
  unfold unS at hv
  split at hv <;> simp only [Option.some.injEq,reduceCtorEq] at hv <;> subst hv <;> simp only [VRel] at ha <;> exact ⟨_,by simp [Op.unary,Op.intArith,ha];try rfl,rfl⟩
 ·simp at h
theorem fixedAt_some {id off:Nat} (h:fixedAt g id off=true):∃ cs,g id=some (.cells cs .fixed)∧off < cs.length:=by
 unfold fixedAt at h
 split at h
 ·rename_i cs hg;exact ⟨cs,hg,Nat.le_of_ble_eq_true h⟩
 ·simp at h
theorem fixed_real {id b o s:Nat} {cs:List SV} (hs:Sim B ι g w) (hi:ι id=some (b,o,s)) (hg:g id=some (.cells cs .fixed)):∃ rc el,w.heap[b]?=some (.cells rc el (0,0))∧rc.size=cs.length∧o=0:=by
 obtain ⟨ob,hg',ho,_,_⟩:=hs.obj id b o s hi
 rw [hg] at hg';cases hg'
 rcases ho with hd | ⟨rc,el,fz,hb,hsz,_,_,_,_,hf⟩
 ·exact absurd hd (by simp [SObj.isDead])
 ·obtain ⟨h1,h2,h3⟩:=hf rfl
  subst h3
  exact ⟨rc,el,hb,by omega,h1⟩
theorem not_anc_fixed {i j:Nat} {cs:List SV} (hg:g i=some (.cells cs .fixed)):¬Anc g i j:=by
 intro h
 cases h with
 | one h hp _=>rw [hg] at h;cases h;simp [Mode.par] at hp
 | more h hp _ _=>rw [hg] at h;cases h;simp [Mode.par] at hp
theorem fixed_apart {i j bi oi si bj oj sj:Nat} {cs cs':List SV} (hs:Sim B ι g w) (hne:i≠j) (hi:ι i=some (bi,oi,si)) (hj:ι j=some (bj,oj,sj)) (hgi:g i=some (.cells cs .fixed)) (hgj:g j=some (.cells cs' .fixed)):bi≠bj:=by
 intro e
 rcases hs.sep i j oi oj bi bj si sj _ _ hne hi hj e hgi hgj (by simp [SObj.isDead]) (by simp [SObj.isDead]) with ⟨h,_⟩ | h | h
 ·exact h
 ·exact not_anc_fixed hgi h.1
 ·exact not_anc_fixed hgj h.1
theorem same_addr {a b:Addr} {ra rb:Array Value} {ea eb:TypeId} (ha:w.heap[a.block]?=some (.cells ra ea (0,0))) (hb:w.heap[b.block]?=some (.cells rb eb (0,0))) (h1:0 < ra.size) (h2:0 < rb.size) :
  (sameAddr a b).run P w=.ok (decide (a.block=b.block)&&(a == b)) w:=by
 by_cases e:a.block=b.block
 ·simp [sameAddr,e]
 ·have fa:∀ o s,w.frozen? ⟨a.block,o,s⟩=false:=λ o s=>by simp [World.frozen?,ha]
  have fb:∀ o s,w.frozen? ⟨b.block,o,s⟩=false:=λ o s=>by simp [World.frozen?,hb]
  have fa':w.frozen? a=false:=by simp [World.frozen?,ha]
  have fb':w.frozen? b=false:=by simp [World.frozen?,hb]
  have sa:w.shape? a.block=some (ea,ra.size):=by simp [World.shape?,ha]
  have sb:w.shape? b.block=some (eb,rb.size):=by simp [World.shape?,hb]
  simp [sameAddr,e,fa',fb',noView,viewAt,sa,sb,mayBeOne,stringish,fa,fb]
theorem equal_run {ty:TypeId} {x y:Value} {d:TypeDesc} (hu:P.underlying ty=some d):(Op.equal ty x y).run P w=(Op.equalIn (9999+1) ty x y).run P w:=rfl
theorem eqTyped_run {d:Nat} {ty:TypeId} {x y:SV} {u v:Value} {r:Bool} (h:eqTyped (P.underlying ty) x y=some r) (hx:VRel ι x u) (hy:VRel ι y v) :
  (Op.equalIn (d+1) ty u v).run P w=.ok r w∧∃ dd,P.underlying ty=some dd∧aggD dd=false:=by
 unfold eqTyped at h
 split at h
 ·rename_i hu
  simp only [Option.some.injEq] at h;subst h
  simp only [VRel] at hx hy;subst hx hy
  exact ⟨run_equalIn_bool' w d ty _ _ hu,_,hu,rfl⟩
 ·rename_i hu
  split at h <;> simp only [Option.some.injEq,reduceCtorEq] at h
  rename_i hk
  subst hk;subst h
  simp only [VRel] at hx hy;subst hx hy
  refine ⟨?_,_,hu,rfl⟩
  rw [run_equalIn_int w d ty _ _ _ _ hu]
  congr 1
 ·rename_i hu
  simp only [Option.some.injEq] at h;subst h
  simp only [VRel] at hx hy;subst hx hy
  refine ⟨?_,_,hu,rfl⟩
  rw [run_equalIn_string w d ty _ _ hu,toList_mk,toList_mk,eqBytes_eq]
 ·simp at h
theorem eqFields_plain {d:Nat} {xs ys:Array Value}:∀ (fs:List Field) (i:Nat) (a b:List SV) (r:Bool),plainFields P fs i=true→LRel ι a (xs.toList.drop i)→LRel ι b (ys.toList.drop i) →
  eqFieldsS P fs a b=some r→(Op.eqFields (d+1) xs ys fs).run P w=.ok r w
 | [],i,a,b,r,_,_,_,h=>by
  cases a <;> cases b <;> simp only [eqFieldsS,Option.some.injEq,reduceCtorEq] at h
  subst h;simp [Op.eqFields]
 | f::fs,i,a,b,r,hp,ha,hb,h=>by
  simp only [plainFields,Bool.and_eq_true,bne_iff_ne,ne_eq] at hp
  obtain ⟨⟨⟨⟨hn,ho⟩,hpc⟩,hc⟩,hrest⟩:=hp
  have ho:=Nat.eq_of_beq_eq_true ho
  cases a with
  | nil=>simp [eqFieldsS] at h
  | cons x a=>
   cases b with
   | nil=>simp [eqFieldsS] at h
   | cons y b=>
    obtain ⟨v,vr,hv,hxv,har⟩:=ha
    obtain ⟨u,ur,hu,hyu,hbr⟩:=hb
    have e1:xs[i]?=some v:=by have:=congrArg (·[0]?) hv;simpa using this
    have e2:ys[i]?=some u:=by have:=congrArg (·[0]?) hu;simpa using this
    have d1:xs.toList.drop (i+1)=vr:=by have:=congrArg List.tail hv;simpa [List.tail_drop] using this
    have d2:ys.toList.drop (i+1)=ur:=by have:=congrArg List.tail hu;simpa [List.tail_drop] using this
    have hstep:∀ c,eqTyped (P.underlying f.type) x y=some c→(part f.type xs f.offset).run P w=.ok v w∧(part f.type ys f.offset).run P w=.ok u w∧(Op.equalIn (d+1) f.type v u).run P w=.ok c w:=by
     intro c hcell
     obtain ⟨hq,dd,hdd,haf⟩:=eqTyped_run (P:=P) (w:=w) (d:=d) hcell hxv hyu
     refine ⟨?_,?_,hq⟩
     ·rw [ho];simp only [part,Sem.run_bind,r_isAgg hdd,haf,Result.andThen_ok,e1,Bool.false_eq_true,if_false,Sem.run_ite,Sem.run_pure]
     ·rw [ho];simp only [part,Sem.run_bind,r_isAgg hdd,haf,Result.andThen_ok,e2,Bool.false_eq_true,if_false,Sem.run_ite,Sem.run_pure]
    simp only [eqFieldsS] at h
    cases hc:eqTyped (P.underlying f.type) x y with
    | none=>simp [hc] at h
    | some c=>
     obtain ⟨p1,p2,p3⟩:=hstep c hc
     simp only [hc] at h
     simp only [Op.eqFields,hn,ne_eq,not_false_iff,if_true,Sem.run_bind,p1,p2,p3,Result.andThen_ok]
     cases c with
     | false=>
      simp only [Option.some.injEq] at h;subst h
      simp
     | true=>
      simp only [Bool.not_true,Bool.false_eq_true,if_false]
      exact eqFields_plain fs (i+1) a b r hrest (by rw [d1];exact har) (by rw [d2];exact hbr) h
theorem fieldsOf_eq {ty:TypeId} {fs:Array Field} (h:P.underlying ty=some (.struct fs)):P.fieldsOf ty=fs:=by simp [Program.fieldsOf,h]
theorem eqStruct_run {d:Nat} {ty:TypeId} {fs:Array Field} {a b:List SV} {xs ys:Array Value} {r:Bool} (hu:P.underlying ty=some (.struct fs)) (hp:plainStruct P ty=true) (ha:LRel ι a xs.toList) (hb:LRel ι b ys.toList)
  (h:eqFieldsS P fs.toList a b=some r):(Op.equalIn (d+2) ty (.agg xs) (.agg ys)).run P w=.ok r w:=by
 unfold plainStruct at hp
 simp only [hu,Bool.and_eq_true,Bool.not_eq_true'] at hp
 rw [run_equalIn_struct w (d+1) ty xs ys (by rw [fieldsOf_eq hu];exact hu) hp.1,fieldsOf_eq hu]
 exact eqFields_plain fs.toList 0 a b r hp.2 (by simpa using ha) (by simpa using hb) h
set_option maxHeartbeats 4000000 in
theorem eqlS_runD {lit:Bool} {ty:TypeId} {x y:SV} {u v:Value} {r:Bool} (d:Nat) (hs:Sim B ι g w) (h:eqlS P g lit ty x y=some r) (hx:VRel ι x u) (hy:VRel ι y v):(Op.equalIn (d+2) ty u v).run P w=.ok r w:=by
 unfold eqlS at h
 split at h <;> (try simp only [Option.some.injEq] at h)
 case h_1 hu=>subst h;simp only [VRel] at hx hy;subst hx hy;exact run_equalIn_bool' w (d+1) ty _ _ hu
 case h_2 hu=>subst h;simp only [VRel] at hx hy;subst hx hy;simp [Op.equalIn,r_underlying hu]
 case h_3 hu=>subst h;simp only [VRel] at hx hy;obtain ⟨_,_,_,_,rfl⟩:=hy;subst hx;simp [Op.equalIn,r_underlying hu]
 case h_4 hu=>subst h;simp only [VRel] at hx hy;obtain ⟨_,_,_,_,rfl⟩:=hx;subst hy;simp [Op.equalIn,r_underlying hu]
 case h_5 e a o b o' hu=>
  split at h
  ·rename_i hc
   simp only [Option.some.injEq] at h;subst h
   simp only [Bool.and_eq_true,Bool.not_eq_true'] at hc
   obtain ⟨⟨h1,h2⟩,h3⟩:=hc
   obtain ⟨cs,g1,l1⟩:=fixedAt_some h1
   obtain ⟨cs',g2,l2⟩:=fixedAt_some h2
   obtain ⟨b1,o1,s1,i1,rfl⟩:=hx
   obtain ⟨b2,o2,s2,i2,rfl⟩:=hy
   obtain ⟨r1,e1,w1,z1,rfl⟩:=fixed_real hs i1 g1
   obtain ⟨r2,e2,w2,z2,rfl⟩:=fixed_real hs i2 g2
   have hsz:∃ i,P.info? e=some i∧i.size≠0:=by
    cases hi:P.info? e with
    | none=>simp [Program.cellsOf,hi] at h3
    | some i=>refine ⟨i,rfl,λ e0=>?_⟩;simp [Program.cellsOf,hi,e0] at h3
   obtain ⟨i,hi,hi0⟩:=hsz
   have:=same_addr (P:=P) (a:=⟨b1,0+o,none⟩) (b:=⟨b2,0+o',none⟩) w1 w2 (by omega) (by omega)
   simp only [Op.equalIn,Sem.run_bind,r_underlying hu,Result.andThen_ok,r_size hi,hi0,ne_eq,not_false_iff,if_true,Sem.run_ite,this]
   congr 1
   by_cases hab:a=b
   ·subst hab
    rw [i1] at i2;cases i2
    simp only [Nat.zero_add,decide_true,Bool.true_and,Nat.beq_refl,Bool.true_and]
    rw [Bool.eq_iff_iff]
    simp
   ·have hne:=fixed_apart hs hab i1 i2 g1 g2
    have:Nat.beq a b=false:=by
     cases hb:Nat.beq a b
     ·rfl
     ·exact absurd (Nat.eq_of_beq_eq_true hb) hab
    simp [hne,this]
  ·simp at h
 case h_6 hu=>subst h;simp only [VRel] at hx hy;subst hx hy;simp [Op.equalIn,r_underlying hu]
 case h_7 hu=>subst h;simp only [VRel] at hx hy;obtain ⟨_,_,_,_,_,_,_,_,rfl | ⟨_,_,_,rfl⟩⟩:=hy <;> subst hx <;> simp [Op.equalIn,r_underlying hu]
 case h_8 hu=>subst h;simp only [VRel] at hx hy;obtain ⟨_,_,_,_,_,_,_,_,rfl | ⟨_,_,_,rfl⟩⟩:=hx <;> subst hy <;> simp [Op.equalIn,r_underlying hu]
 case h_9 hu=>subst h;simp only [VRel] at hx hy;subst hx hy;simp [Op.equalIn,r_underlying hu]
 case h_10 hu=>subst h;simp only [VRel] at hx hy;obtain ⟨_,_,_,_,rfl⟩:=hy;subst hx;simp [Op.equalIn,r_underlying hu]
 case h_11 hu=>subst h;simp only [VRel] at hx hy;obtain ⟨_,_,_,_,rfl⟩:=hx;subst hy;simp [Op.equalIn,r_underlying hu]
 case h_12 hu=>subst h;simp only [VRel] at hx hy;subst hx hy;simp [Op.equalIn,r_underlying hu]
 case h_13 hu=>subst h;simp only [VRel] at hx hy;obtain ⟨_,rfl,_⟩:=hy;subst hx;simp [Op.equalIn,r_underlying hu]
 case h_14 hu=>subst h;simp only [VRel] at hx hy;obtain ⟨_,rfl,_⟩:=hx;subst hy;simp [Op.equalIn,r_underlying hu]
 case h_15 hu=>split at h <;> simp only [Option.some.injEq,reduceCtorEq] at h;subst h;simp only [VRel] at hx hy;subst hx hy;simp [Op.equalIn,r_underlying hu]
 case h_16 hu=>subst h;simp only [VRel] at hx hy;obtain ⟨_,rfl,_⟩:=hy;subst hx;simp [Op.equalIn,r_underlying hu]
 case h_17 hu=>subst h;simp only [VRel] at hx hy;obtain ⟨_,rfl,_⟩:=hx;subst hy;simp [Op.equalIn,r_underlying hu]
 case h_18 fs a b hu=>
  split at h
  ·rename_i hc
   simp only [Bool.and_eq_true] at hc
   obtain ⟨xs,rfl,ha,_⟩:=hx
   obtain ⟨ys,rfl,hb,_⟩:=hy
   exact eqStruct_run (d:=d) hu hc.1 ha hb h
  ·simp at h
 case h_19=>simp at h
theorem eqlS_run {lit:Bool} {ty:TypeId} {x y:SV} {u v:Value} {r:Bool} (hs:Sim B ι g w) (h:eqlS P g lit ty x y=some r) (hx:VRel ι x u) (hy:VRel ι y v):(Op.equal ty u v).run P w=.ok r w:=
 eqlS_runD 9998 hs h hx hy
theorem guard_eq {lit:Bool} {op:BinOp} {ty:TypeId} {x y:SV} {ox oy:Operand} {u v:Value} {r:Bool} (hlit:lit=(isLit ox || isLit oy)) (h:eqlS P g lit ty x y=some r) (hx:VRel ι x u) (hy:VRel ι y v) :
  (eqGuard op ty ox oy u v).run P w=.ok () w:=by
 by_cases h1:u=.nilIface∧v=.nilIface
 ·obtain ⟨rfl,rfl⟩:=h1
  have hl:lit=true:=by
   have ex:x=.niliface:=by
    cases x <;> simp only [VRel,reduceCtorEq,exists_false,and_false,false_and,or_self] at hx <;> first | rfl | (obtain ⟨_,_,_,_,_,_,_,_,h | ⟨_,_,_,h⟩⟩:=hx <;> cases h) | (obtain ⟨_,_,_,_,h⟩:=hx;cases h) | (obtain ⟨_,h,_⟩:=hx;cases h) | simp at hx
   have ey:y=.niliface:=by
    cases y <;> simp only [VRel,reduceCtorEq,exists_false,and_false,false_and,or_self] at hy <;> first | rfl | (obtain ⟨_,_,_,_,_,_,_,_,h | ⟨_,_,_,h⟩⟩:=hy <;> cases h) | (obtain ⟨_,_,_,_,h⟩:=hy;cases h) | (obtain ⟨_,h,_⟩:=hy;cases h) | simp at hy
   subst ex ey
   unfold eqlS at h
   split at h <;> simp_all
  rw [hl] at hlit
  unfold eqGuard
  cases op <;> cases ox <;> cases oy <;> first | (simp;done) | (simp [isLit] at hlit;done)
 ·by_cases h2:∃ xs ys,u=.agg xs∧v=.agg ys
  ·obtain ⟨xs,ys,rfl,rfl⟩:=h2
   have hm:P.eqGuardType P.depth ty=false:=by
    have ex:∃ a,x=.agg a:=by
     cases x <;> simp only [VRel,reduceCtorEq,exists_false,and_false,false_and,or_self] at hx <;> first | exact ⟨_,rfl⟩ | (obtain ⟨_,_,_,_,_,_,_,_,h | ⟨_,_,_,h⟩⟩:=hx <;> cases h) | (obtain ⟨_,_,_,_,h⟩:=hx;cases h) | (obtain ⟨_,h,_⟩:=hx;cases h) | simp at hx
    have ey:∃ a,y=.agg a:=by
     cases y <;> simp only [VRel,reduceCtorEq,exists_false,and_false,false_and,or_self] at hy <;> first | exact ⟨_,rfl⟩ | (obtain ⟨_,_,_,_,_,_,_,_,h | ⟨_,_,_,h⟩⟩:=hy <;> cases h) | (obtain ⟨_,_,_,_,h⟩:=hy;cases h) | (obtain ⟨_,h,_⟩:=hy;cases h) | simp at hy
    obtain ⟨a,rfl⟩:=ex
    obtain ⟨b,rfl⟩:=ey
    unfold eqlS at h
    cases hu:P.underlying ty with
    | none=>simp [hu] at h
    | some d=>
     cases d with
     | struct fs=>
      simp only [hu] at h
      split at h
      ·rename_i hc;simp only [Bool.and_eq_true,Bool.not_eq_true'] at hc;exact hc.2
      ·simp at h
     | _=>simp [hu] at h
   exact run_eqGuard_agg w op ty ox oy xs ys hm
  ·exact guard_plain h1 (λ xs ys hh=>h2 ⟨xs,ys,hh⟩)
end
end Go.Sh
end
section
/- The shadow machine: operators, turnings, slices, look-ups; and all operations that turn nothing, in one. -/
namespace Go.Sh
section
variable {P:Program} {w:World} {ι:Inj} {B:Nat} {g:Nat→Option SObj} {t:T} {ρ:Operand→Value}
theorem binOp_eql {ty:TypeId} {x y:SV} {u v:Value} (hx:VRel ι x u) (hy:VRel ι y v) (h1:∀ k a k' b,¬(x=.int k a∧y=.int k' b)) (h2:∀ a b,¬(x=.str a∧y=.str b)) (h3:∀ k a,x≠.float k a) (h4:∀ k a b,x≠.cpx k a b) :
  binOp .eql ty u v=(do Pure.pure (.bool (← Op.equal ty u v)))∧binOp .neq ty u v=(do Pure.pure (.bool (!(← Op.equal ty u v)))):=by
 have hu:(∀ k n,u=.int k n→x=.int k n)∧(∀ s,u=.string s→∃ l,x=.str l)∧(∀ k a,u≠.float k a)∧(∀ k a b,u≠.complex k a b):=by
  cases x <;> simp only [VRel] at hx <;> first
   | (subst hx;simp;done)
   | (obtain ⟨_,_,_,_,rfl⟩:=hx;simp;done)
   | (obtain ⟨_,_,_,_,_,_,_,_,rfl | ⟨_,_,_,rfl⟩⟩:=hx <;> simp;done)
   | (obtain ⟨_,rfl,_⟩:=hx;simp;done)
   | exact absurd rfl (h3 _ _)
   | exact absurd rfl (h4 _ _ _)
 have hv:(∀ k n,v=.int k n→y=.int k n)∧(∀ s,v=.string s→∃ l,y=.str l):=by
  cases y <;> simp only [VRel] at hy <;> first
   | (subst hy;simp;done)
   | (obtain ⟨_,_,_,_,rfl⟩:=hy;simp;done)
   | (obtain ⟨_,_,_,_,_,_,_,_,rfl | ⟨_,_,_,rfl⟩⟩:=hy <;> simp;done)
   | (obtain ⟨_,rfl,_⟩:=hy;simp;done)
 obtain ⟨u1,u2,u3,u4⟩:=hu
 obtain ⟨v1,v2⟩:=hv
 cases u with
 | int k a=>cases v with
  | int k' b=>exact absurd ⟨u1 _ _ rfl,v1 _ _ rfl⟩ (h1 _ _ _ _)
  | _=>exact ⟨rfl,rfl⟩
 | string s=>cases v with
  | string s'=>
   obtain ⟨_,e1⟩:=u2 _ rfl
   obtain ⟨_,e2⟩:=v2 _ rfl
   exact absurd ⟨e1,e2⟩ (h2 _ _)
  | _=>exact ⟨rfl,rfl⟩
 | float k a=>exact absurd rfl (u3 _ _)
 | complex k a b=>exact absurd rfl (u4 _ _ _)
 | _=>cases v <;> exact ⟨rfl,rfl⟩
theorem n_bin {op:BinOp} {ty:TypeId} {x y:Operand} {r:NR} (hs:Sim B ι g w) (hρ:Ops ι t ρ [x,y]) (h:nBin P g (isLit x || isLit y) op ty (opd t x) (opd t y)=some r) :
  NOk ι w r ((do Pure.pure (Next.value (← (do eqGuard op ty x y (ρ x) (ρ y);binOp op ty (ρ x) (ρ y):Sem Value))):Sem Next).run P w):=by
 unfold nBin at h
 split at h
 ·rename_i a b hx hy
  obtain ⟨v,hv,rfl⟩:=nVal_some h
  have ha:=hρ x (by simp) _ hx
  have hb:=hρ y (by simp) _ hy
  unfold binS at hv
  split at hv
  ·rename_i k n k' m
   simp only [VRel] at ha hb
   cases hsn:shiftInt .shl k n m with
   | none=>simp [hsn] at hv
   | some q=>
    simp only [hsn,Option.map_some,Option.some.injEq] at hv;subst hv
    exact ⟨.int k q,by simp [ha,hb,guard_plain (P:=P) (w:=w) (op:=.shl) (ty:=ty) (x:=x) (y:=y) (a:=.int k n) (b:=.int k' m) (by simp) (by simp),bin_shift (P:=P) (w:=w) (ty:=ty) (k':=k') (.inl rfl) hsn],rfl⟩
  ·rename_i k n k' m
   simp only [VRel] at ha hb
   cases hsn:shiftInt .shr k n m with
   | none=>simp [hsn] at hv
   | some q=>
    simp only [hsn,Option.map_some,Option.some.injEq] at hv;subst hv
    exact ⟨.int k q,by simp [ha,hb,guard_plain (P:=P) (w:=w) (op:=.shr) (ty:=ty) (x:=x) (y:=y) (a:=.int k n) (b:=.int k' m) (by simp) (by simp),bin_shift (P:=P) (w:=w) (ty:=ty) (k':=k') (.inr rfl) hsn],rfl⟩
  ·rename_i op k n k' m _ _
   simp only [VRel] at ha hb
   split at hv
   ·rename_i hk
    subst hk
    obtain ⟨v',hr,hrel⟩:=bin_int (P:=P) (w:=w) (ι:=ι) (ty:=ty) hv
    exact ⟨v',by simp [ha,hb,guard_plain (P:=P) (w:=w) (ty:=ty) (x:=x) (y:=y) (a:=.int k n) (b:=.int k m) (by simp) (by simp),hr],hrel⟩
   ·simp at hv
  ·rename_i op s s'
   simp only [VRel] at ha hb
   obtain ⟨v',hr,hrel⟩:=strOp_run (P:=P) (w:=w) (ι:=ι) (ty:=ty) hv
   exact ⟨v',by simp [ha,hb,guard_plain (P:=P) (w:=w) (ty:=ty) (x:=x) (y:=y) (a:=.string ⟨⟨s⟩⟩) (b:=.string ⟨⟨s'⟩⟩) (by simp) (by simp),hr],hrel⟩
  ·rename_i x' y' h1 h2
   cases he:eqlS P g (isLit x || isLit y) ty a b with
   | none=>simp [he] at hv
   | some c=>
    simp only [he,Option.map_some,Option.some.injEq] at hv;subst hv
    have hg:=guard_eq (P:=P) (w:=w) (op:=.eql) rfl he ha hb
    have hq:=eqlS_run (P:=P) hs he ha hb
    have hbo:=(binOp_eql (ty:=ty) ha hb (by rintro k n k' m ⟨rfl,rfl⟩;exact h1 _ _ _ _ rfl rfl) (by rintro s s' ⟨rfl,rfl⟩;exact h2 _ _ rfl rfl) (by rintro k n rfl;unfold eqlS at he;split at he <;> simp at *) (by rintro k n m rfl;unfold eqlS at he;split at he <;> simp at *)).1
    exact ⟨.bool c,by simp [hg,hbo,hq],rfl⟩
  ·rename_i x' y' h1 h2
   cases he:eqlS P g (isLit x || isLit y) ty a b with
   | none=>simp [he] at hv
   | some c=>
    simp only [he,Option.map_some,Option.some.injEq] at hv;subst hv
    have hg:=guard_eq (P:=P) (w:=w) (op:=.neq) rfl he ha hb
    have hq:=eqlS_run (P:=P) hs he ha hb
    have hbo:=(binOp_eql (ty:=ty) ha hb (by rintro k n k' m ⟨rfl,rfl⟩;exact h1 _ _ _ _ rfl rfl) (by rintro s s' ⟨rfl,rfl⟩;exact h2 _ _ rfl rfl) (by rintro k n rfl;unfold eqlS at he;split at he <;> simp at *) (by rintro k n m rfl;unfold eqlS at he;split at he <;> simp at *)).2
    exact ⟨.bool (!c),by simp [hg,hbo,hq],rfl⟩
  ·simp at hv
 ·simp at h
theorem bytes_run {F:Value→ByteArray→Sem (ForInStep ByteArray)} (hF:∀ n s,F (.int .u8 n) s=Pure.pure (ForInStep.yield (s.push (UInt8.ofNat n.toNat)))):∀ {cs:List SV} {bs:List UInt8} {vs:List Value} (acc:ByteArray),bytesOf cs=some bs→LRel ι cs vs →
  (forIn vs acc F).run P w=.ok (acc++⟨⟨bs⟩⟩) w
 | [],_,_,acc,h,hl=>by
  simp only [bytesOf,Option.some.injEq] at h;subst h
  cases hl
  simp only [List.forIn_nil,Sem.run_pure]
  congr 1
  apply ByteArray.ext;rw [ByteArray.data_append];simp
 | c::cs,_,_,acc,h,⟨v,r,e,hx,hl⟩=>by
  subst e
  unfold bytesOf at h
  split at h
  ·simp at *
  ·rename_i n cs' heq
   cases heq
   cases hb:bytesOf cs with
   | none=>simp [hb] at h
   | some bs=>
    simp only [hb,Option.map_some,Option.some.injEq] at h
    subst h
    simp only [VRel] at hx
    subst hx
    simp only [List.forIn_cons,hF,Sem.run_bind,Sem.run_pure,Result.andThen_ok]
    rw [bytes_run hF _ hb hl]
    congr 1
    apply ByteArray.ext;rw [ByteArray.data_append,ByteArray.data_append,ByteArray.data_push]
    simp
  ·simp at h
theorem bytes_conv {el:TypeId} {b:List UInt8} (hl:b.length≤1099511627776) :
  ∃ v' w',(Conv.stringToBytes el ⟨⟨b⟩⟩).run P w=.ok v' w'∧New ι w w' (.cells (b.map λ c=>.int .u8 c.toNat) (.grown none)) (.slice · 0 b.length 1 none) v':=by
 obtain ⟨cap,hcap,hge⟩:∃ cap,(Question.appendCap b.length 0 el).cut (w.tape w.drawn (.appendCap b.length 0 el))=cap∧b.length≤cap:=⟨_,rfl,by simp [Question.cut]⟩
 let elems:Array Value:=(⟨b⟩:Array UInt8).map λ c=>.int .u8 c.toNat
 let row:Array Value:=elems++Array.replicate (cap - b.length) (.int .u8 0)
 have hrow:row.size=cap:=by simp [row,elems];omega
 let w1:World:={ w with drawn:=w.drawn+1,heap:=w.heap.push (.cells row el) }
 refine ⟨.slice (some ⟨w.heap.size,0,none⟩) b.length cap,w1.freeze { block:=w.heap.size,off:=cap } 1,?_,?_⟩
 ·have hsh:w1.shape? w.heap.size=some (el,cap):=by simp [World.shape?,w1,hrow]
  have hsz:(⟨⟨b⟩⟩:ByteArray).size=b.length:=rfl
  simp only [Conv.stringToBytes,Sem.run_bind,run_choose,hsz,Question.forced,Bool.false_eq_true,if_false,Result.andThen_ok,hcap,newRow,run_newObj,markStringish,Sem.run_pure]
  change (((Sem.run P (shape w.heap.size) w1).andThen _).andThen _)=_
  simp only [run_shape,hsh,Result.andThen_ok,run_freeze]
 ·have hh:(w1.freeze { block:=w.heap.size,off:=cap } 1).heap[w.heap.size]?=some (.cells row el (cap,cap+1)):=by
   show ((w.heap.push (.cells row el)).modify w.heap.size _)[w.heap.size]?=_
   rw [Array.getElem?_modify,if_pos rfl,Array.getElem?_push,if_pos rfl]
   simp
  refine ⟨?_,?_,?_,?_,λ k hk=>?_,by simp [SObj.isDead],by simp [SObj.isExt],(λ c m h=>by cases h;rfl),cap,λ id hi=>⟨⟨_,_,_,cap,upd_same,by simp,hge,by omega,.inl rfl⟩,.inr ?_⟩⟩
  ·simp [World.freeze,w1]
  ·simp [World.freeze,w1]
  ·simp [World.freeze,w1]
  ·simp [World.freeze,w1]
  ·show ((w.heap.push (.cells row el)).modify w.heap.size _)[k]?=_
   rw [Array.getElem?_modify,if_neg (by omega),Array.getElem?_push,if_neg (by omega)]
  ·refine ⟨row,el,(cap,cap+1),hh,hrow,by simp;omega,?_,?_,λ _ j hj=>by simp;omega,by simp⟩
   ·rw [List.drop_zero]
    have:row.toList.take (b.map λ c=>SV.int .u8 c.toNat).length=b.map λ c=>Value.int .u8 c.toNat:=by
     simp only [row,elems,List.length_map,Array.toList_append,Array.toList_map]
     rw [List.take_append_of_le_length (by simp),List.take_of_length_le (by simp)]
    rw [this]
    clear this hh hrow hge hcap hl
    induction b with
    | nil=>rfl
    | cons c b ih=>exact .cons rfl ih
   ·rw [List.all_eq_true];intro x hx;simp only [List.mem_map] at hx;obtain ⟨c,_,rfl⟩:=hx;rfl
theorem n_conv {s d:TypeId} {x:Operand} {r:NR} (hs:Sim B ι g w) (hρ:Ops ι t ρ [x]) (h:nConv P g s d (opd t x)=some r) :
  NOk ι w r ((do Pure.pure (Next.value (← convert s d (ρ x))):Sem Next).run P w):=by
 unfold nConv at h
 split at h
 ·rename_i b hx
  have hb:=hρ x (by simp) _ hx
  simp only [VRel] at hb
  split at h
  ·rename_i el hus hud
   unfold nBytes at h
   split at h
   ·rename_i hue
    split at h <;> simp only [Option.some.injEq,reduceCtorEq] at h
    rename_i hlen
    subst h
    obtain ⟨v',w',hr,hn⟩:=bytes_conv (P:=P) (w:=w) (ι:=ι) (el:=el) hlen
    exact ⟨v',w',by simp [convert,r_underlying hus,r_underlying hud,r_underlying hue,hb,hr],hn⟩
   ·simp at h
  ·rename_i d1 hus hud
   simp only [Option.some.injEq] at h;subst h
   exact ⟨.string ⟨⟨b⟩⟩,by simp [convert,r_underlying hus,r_underlying hud,hb],rfl⟩
  ·simp at h
 ·rename_i a hn hx
  obtain ⟨v,hv,rfl⟩:=nVal_some h
  have ha:=hρ x (by simp) _ hx
  unfold convS at hv
  split at hv
  ·rename_i d1 k kk n hus hud
   simp only [Option.some.injEq] at hv;subst hv
   simp only [VRel] at ha
   exact ⟨.int k (k.wrap n),by simp [convert,r_underlying hus,r_underlying hud,ha,Conv.intToInt],rfl⟩
  ·rename_i b hus hud
   exact absurd rfl (hn b)
  ·rename_i e hus hud
   split at hv <;> simp only [Option.some.injEq,reduceCtorEq] at hv
   rename_i hue
   subst hv
   simp only [VRel] at ha
   refine ⟨.string ⟨⟨[]⟩⟩,?_,rfl⟩
   simp [convert,r_underlying hus,r_underlying hud,r_underlying hue,ha,Conv.bytesToString]
   rfl
  ·rename_i e id off len es cap hus hud
   split at hv
   ·rename_i hue
    cases hr:rowCells g id with
    | none=>simp [hr] at hv
    | some cs=>
     simp only [hr,Option.bind_some] at hv
     cases hk:takeCells cs off len with
     | none=>simp [hk] at hv
     | some cs'=>
      simp only [hk,Option.bind_some] at hv
      cases hb:bytesOf cs' with
      | none=>simp [hb] at hv
      | some bs=>
       simp only [hb,Option.map_some,Option.some.injEq] at hv;subst hv
       obtain ⟨hle,rfl⟩:=takeCells_some hk
       obtain ⟨b,o,sz,c,hid,hc,hlc,hle2,e1⟩:=ha
       obtain ⟨vs,hl,hall,hle3,hcell⟩:=row_real hs hid hr
       have hlen:=hl.length
       refine ⟨.string ⟨⟨bs⟩⟩,?_,rfl⟩
       have hrun:∀ a:Addr,(len=0∨a=⟨b,o+off,none⟩)→(Conv.bytesToString (.slice (some a) len c)).run P w=.ok (.string ⟨⟨bs⟩⟩) w:=by
        intro a hh
        have hload:(loadCells a len).run P w=.ok ((vs.drop off).take len).toArray w:=by
         have hn:((vs.drop off).take len).length=len:=by simp;omega
         have:=run_loadCells_list (P:=P) (w:=w) a ((vs.drop off).take len) (λ j v hv=>by
          rw [List.getElem?_take] at hv
          split at hv
          ·rename_i hj
           rcases hh with hh | hh
           ·omega
           ·subst hh
            rw [List.getElem?_drop] at hv
            rw [add_spot]
            have:=hcell _ _ hv
            simpa [Nat.add_assoc] using this
          ·simp at hv)
         rw [hn] at this
         exact this
        have hee:ByteArray.empty++(⟨⟨bs⟩⟩:ByteArray)=⟨⟨bs⟩⟩:=by apply ByteArray.ext;rw [ByteArray.data_append];simp
        simp only [Conv.bytesToString,Sem.run_bind,hload,Result.andThen_ok,← Array.forIn_toList]
        rw [bytes_run (P:=P) (w:=w) (ι:=ι) (λ n s=>rfl) ByteArray.empty hb ((hl.drop off).take len),hee]
        rfl
       rcases e1 with e1 | ⟨h0,h1,a,e1⟩
       ·simp [convert,r_underlying hus,r_underlying hud,r_underlying hue,e1,hrun _ (.inr rfl)]
       ·subst h0 h1
        simp [convert,r_underlying hus,r_underlying hud,r_underlying hue,e1,hrun a (.inl rfl)]
   ·simp at hv
  ·simp at hv
 ·simp at h
end
end Go.Sh
end
section
/- The shadow machine: slices, look-ups; and all operations that turn nothing, in one. -/
namespace Go.Sh
section
variable {P:Program} {w:World} {ι:Inj} {B:Nat} {g:Nat→Option SObj} {t:T} {ρ:Operand→Value}
theorem bound_run {lo:Option Operand} {l:List SV} {d k:Nat} (hρ:∀ x,x ∈ lo.toList→∀ v,opd t x=some v→VRel ι v (ρ x)) (h:opds t lo.toList=some l) (hb:boundOf d l.head?=some k) :
  (lo=none∧k=d)∨(∃ a ik,lo=some a∧ρ a=.int ik (k:Int)):=by
 cases lo with
 | none=>
  simp only [Option.toList,opds,Option.some.injEq] at h
  subst h
  simp only [List.head?_nil,boundOf,Option.some.injEq] at hb
  exact .inl ⟨rfl,hb.symm⟩
 | some a=>
  simp only [Option.toList,opds] at h
  cases ha:opd t a with
  | none=>simp [ha] at h
  | some v=>
   simp only [ha,Option.some.injEq] at h
   subst h
   simp only [List.head?_cons,boundOf] at hb
   obtain ⟨ik,e⟩:=intNat_some hb (hρ a (by simp) v ha)
   exact .inr ⟨a,ik,rfl,e⟩
theorem r_bound {ik:IntKind} {k y:Nat} {code:BoundsCode} (h:k≤y):(Instr.sliceBound (.int ik (k:Int)) y code).run P w=.ok k w:=by
 simp [Instr.sliceBound,asIntOf,h]
theorem bounds_run {isSlice:Bool} {len cap l h:Nat} {lo hi:Option Operand} (hl:(lo=none∧l=0)∨(∃ a ik,lo=some a∧ρ a=.int ik (l:Int))) (hh:(hi=none∧h=len)∨(∃ a ik,hi=some a∧ρ a=.int ik (h:Int)))
  (hlh:l≤h) (hc:h≤cap):(Instr.sliceBounds isSlice len cap (lo.map ρ) (hi.map ρ) none).run P w=.ok (l,h,cap) w:=by
 rcases hl with ⟨rfl,rfl⟩ | ⟨a,ik,rfl,ea⟩ <;> rcases hh with ⟨rfl,rfl⟩ | ⟨b,ik',rfl,eb⟩
 ·simp [Instr.sliceBounds]
 ·simp [Instr.sliceBounds,eb,r_bound hc]
 ·simp [Instr.sliceBounds,ea,r_bound hlh]
 ·simp [Instr.sliceBounds,ea,eb,r_bound hc,r_bound hlh]
theorem n_slice {ty:TypeId} {x:Operand} {lo hi mx:Option Operand} {r:NR} (hs:Sim B ι g w) (hρ:Ops ι t ρ (#[x]++lo.toArray++hi.toArray++mx.toArray).toList)
  (h:nSlice P g ty (opd t x) (opds t lo.toList) (opds t hi.toList) (opds t mx.toList)=some r) :
  NOk ι w r ((do Pure.pure (Next.value (← Instr.sliceAt ty (ρ x) (lo.map ρ) (hi.map ρ) (mx.map ρ))):Sem Next).run P w):=by
 unfold nSlice at h
 split at h
 ·rename_i v l hh m hx hlo hhi hmx
  obtain ⟨r',hv,rfl⟩:=nVal_some h
  have hxr:=hρ x (by simp) _ hx
  have rlo:∀ y,y ∈ lo.toList→∀ v,opd t y=some v→VRel ι v (ρ y):=λ y hy=>hρ y (by simp at hy;simp [hy])
  have rhi:∀ y,y ∈ hi.toList→∀ v,opd t y=some v→VRel ι v (ρ y):=λ y hy=>hρ y (by simp at hy;simp [hy])
  have rmx:∀ y,y ∈ mx.toList→∀ v,opd t y=some v→VRel ι v (ρ y):=λ y hy=>hρ y (by simp at hy;simp [hy])
  have nomx:m.head?=none→mx=none:=by
   intro he
   cases mx with
   | none=>rfl
   | some a=>
    simp only [Option.toList,opds] at hmx
    cases ha:opd t a with
    | none=>simp [ha] at hmx
    | some q=>simp only [ha,Option.some.injEq] at hmx;subst hmx;simp at he
  unfold sliceS at hv
  split at hv
  ·rename_i s hu
   simp only [VRel] at hxr
   unfold sliceStr at hv
   split at hv
   ·simp at hv
   ·rename_i hm0
    cases nomx hm0
    split at hv
    ·rename_i a b ha hb
     split at hv <;> simp only [Option.some.injEq,reduceCtorEq] at hv
     rename_i hab
     subst hv
     have hbr:=bounds_run (P:=P) (w:=w) (isSlice:=false) (len:=s.length) (cap:=s.length) (bound_run rlo hlo ha) (bound_run rhi hhi hb) hab.1 hab.2
     refine ⟨.string ⟨⟨(s.take b).drop a⟩⟩,?_,rfl⟩
     have he:(⟨⟨s⟩⟩:ByteArray).extract a b=⟨⟨(s.take b).drop a⟩⟩:=by
      apply ByteArray.ext
      rw [ByteArray.data_extract]
      apply Array.ext'
      rw [Array.toList_extract]
      simp [List.extract,List.drop_take]
     simp [Instr.sliceAt,r_underlying hu,Instr.slice,hxr,size_mk,hbr,he]
    ·simp at hv
  ·rename_i e hu
   simp only [VRel] at hxr
   split at hv
   ·rename_i ie hie
    unfold sliceNil at hv
    split at hv
    ·rename_i hm0
     cases nomx hm0
     split at hv <;> simp only [Option.some.injEq,reduceCtorEq] at hv
     rename_i ha hb
     subst hv
     have hbr:=bounds_run (P:=P) (w:=w) (isSlice:=true) (len:=0) (cap:=0) (bound_run rlo hlo ha) (bound_run rhi hhi hb) (Nat.le_refl _) (Nat.le_refl _)
     exact ⟨.slice none 0 0,by simp [Instr.sliceAt,r_underlying hu,Instr.slice,hxr,hbr,r_size hie],rfl⟩
    ·rename_i m0 hm0
     split at hv <;> simp only [Option.some.injEq,reduceCtorEq] at hv
     rename_i ha hb hcm
     subst hv
     have b1:=bound_run rlo hlo ha
     have b3:=bound_run (d:=1) rmx hmx (by rw [hm0];exact hcm)
     have b2:∃ a ik,hi=some a∧ρ a=.int ik 0:=by
      cases hhd:hh.head? with
      | none=>simp [hhd] at hb
      | some q=>
       simp only [hhd,Option.bind_some] at hb
       rcases bound_run (d:=1) rhi hhi (by rw [hhd];exact hb) with ⟨_,h⟩ | ⟨a,ik,e1,e2⟩
       ·omega
       ·exact ⟨a,ik,e1,by simpa using e2⟩
     rcases b3 with ⟨_,h⟩ | ⟨cc,ik3,rfl,ec⟩
     ·omega
     ·obtain ⟨bb,ik2,rfl,eb⟩:=b2
      refine ⟨.slice none 0 0,?_,rfl⟩
      rcases b1 with ⟨rfl,_⟩ | ⟨a,ik1,rfl,ea⟩
      ·simp [Instr.sliceAt,r_underlying hu,Instr.slice,hxr,r_size hie,Instr.sliceBounds,ec,eb,Instr.sliceBound,asIntOf]
      ·simp [Instr.sliceAt,r_underlying hu,Instr.slice,hxr,r_size hie,Instr.sliceBounds,ec,eb,ea,Instr.sliceBound,asIntOf]
   ·simp at hv
  ·rename_i e id off len es cap hu
   split at hv
   ·rename_i ie hie
    split at hv
    ·rename_i hes
     obtain ⟨b,o,s,c,hid,hc,hlc,hle,hval⟩:=hxr
     unfold sliceRow at hv
     split at hv
     ·rename_i hm0
      cases nomx hm0
      split at hv
      ·rename_i l1 h1 ha hb
       split at hv
       ·rename_i hlh
        have b1:=bound_run rlo hlo ha
        have b2:=bound_run rhi hhi hb
        have hbr:=bounds_run (P:=P) (w:=w) (isSlice:=true) (len:=len) (cap:=c) b1 b2 hlh.1 (Nat.le_trans hlh.2 hlc)
        have real:∀ base:Addr,ρ x=.slice (some base) len c→((do Pure.pure (Next.value (← Instr.sliceAt ty (ρ x) (lo.map ρ) (hi.map ρ) ((none:Option Operand).map ρ))):Sem Next).run P w)=.ok (.value (.slice (if c=l1 then some base else some (base.add (l1 * es))) (h1 - l1) (c - l1))) w:=by
         intro base e
         simp [Instr.sliceAt,r_underlying hu,Instr.slice,e,hbr,r_size hie,hes]
        cases cap with
        | none=>
         simp only [Option.some.injEq] at hv;subst hv
         rcases hval with e | ⟨h0,h00,a,e⟩
         ·refine ⟨_,real _ e,b,o,s,c - l1,hid,by simp,by omega,?_,?_⟩
          ·have:(c - l1) * es+l1 * es=c * es:=by rw [← Nat.add_mul];congr 1;omega
           omega
          ·by_cases hcl:c=l1
           ·right;refine ⟨by omega,by omega,⟨b,o+off,none⟩,?_⟩
            rw [if_pos hcl];congr 1 <;> omega
           ·left;rw [if_neg hcl,add_spot];simp [Nat.add_assoc]
         ·subst h0 h00
          obtain rfl:l1=0:=by omega
          refine ⟨_,real a e,b,o,s,0,hid,by simp,by omega,by simpa using hle,.inr ⟨by omega,rfl,a,?_⟩⟩
          simp;omega
        | some c'=>
         have hcc:=hc c' rfl
         subst hcc
         simp only at hv
         split at hv
         ·rename_i hcl
          simp only [Option.some.injEq] at hv;subst hv
          rcases hval with e | ⟨h0,h00,a,e⟩
          ·refine ⟨_,real _ e,b,o,s,0,hid,by simp,by omega,by omega,.inl ?_⟩
           rw [if_pos hcl];congr 1 <;> omega
          ·refine ⟨_,real a (by rw [e];congr 1 <;> omega),b,o,s,0,hid,by simp,by omega,by omega,.inr ⟨rfl,rfl,a,?_⟩⟩
           rw [if_pos hcl];congr 1 <;> omega
         ·rename_i hcl
          simp only [Option.some.injEq] at hv;subst hv
          rcases hval with e | ⟨h0,h00,a,e⟩
          ·refine ⟨_,real _ e,b,o,s,c - l1,hid,by simp,by omega,?_,.inl ?_⟩
           ·have:(c - l1) * es+l1 * es=c * es:=by rw [← Nat.add_mul];congr 1;omega
            omega
           ·rw [if_neg hcl,add_spot];simp [Nat.add_assoc]
          ·omega
       ·simp at hv
      ·simp at hv
     ·rename_i m0 hm0
      split at hv <;> simp only [Option.some.injEq,reduceCtorEq] at hv
      rename_i ha hb hcm
      subst hv
      have b1:=bound_run rlo hlo ha
      have b3:=bound_run (d:=1) rmx hmx (by rw [hm0];exact hcm)
      have b2:∃ a ik,hi=some a∧ρ a=.int ik 0:=by
       cases hhd:hh.head? with
       | none=>simp [hhd] at hb
       | some q=>
        simp only [hhd,Option.bind_some] at hb
        rcases bound_run (d:=1) rhi hhi (by rw [hhd];exact hb) with ⟨_,h⟩ | ⟨a,ik,e1,e2⟩
        ·omega
        ·exact ⟨a,ik,e1,by simpa using e2⟩
      rcases b3 with ⟨_,h⟩ | ⟨cc,ik3,rfl,ec⟩
      ·omega
      ·obtain ⟨bb,ik2,rfl,eb⟩:=b2
       simp only [Int.ofNat_zero,Int.natCast_zero] at ec
       have real:∀ base:Addr,ρ x=.slice (some base) len c→((do Pure.pure (Next.value (← Instr.sliceAt ty (ρ x) (lo.map ρ) ((some bb).map ρ) ((some cc).map ρ))):Sem Next).run P w)=.ok (.value (.slice (some base) 0 0)) w:=by
        intro base e
        rcases b1 with ⟨rfl,_⟩ | ⟨a,ik1,rfl,ea⟩
        ·simp [Instr.sliceAt,r_underlying hu,Instr.slice,e,r_size hie,Instr.sliceBounds,ec,eb,Instr.sliceBound,asIntOf]
        ·simp [Instr.sliceAt,r_underlying hu,Instr.slice,e,r_size hie,Instr.sliceBounds,ec,eb,ea,Instr.sliceBound,asIntOf]
       rcases hval with e | ⟨h0,h00,a,e⟩
       ·exact ⟨_,real _ e,b,o,s,0,hid,by simp,by omega,by omega,.inl rfl⟩
       ·exact ⟨_,real a (by rw [e];congr 1 <;> omega),b,o,s,0,hid,by simp,by omega,by omega,.inr ⟨rfl,rfl,a,rfl⟩⟩
    ·simp at hv
   ·simp at hv
  ·rename_i n e id off hu
   split at hv
   ·rename_i ie hie
    unfold sliceArr at hv
    split at hv
    ·simp at hv
    ·rename_i hm0
     cases nomx hm0
     split at hv
     ·rename_i l1 h1 cs ha hb hcs
      split at hv <;> simp only [Option.some.injEq,reduceCtorEq] at hv
      rename_i hlh
      obtain ⟨k1,k2,k3,k4⟩:=hlh
      subst hv
      have b1:=bound_run rlo hlo ha
      have b2:=bound_run rhi hhi hb
      have hbr:=bounds_run (P:=P) (w:=w) (isSlice:=false) (len:=n) (cap:=n) b1 b2 k1 k2
      obtain ⟨b,o,s,hid,e⟩:=hxr
      obtain ⟨vs,hl,_,hle,_⟩:=row_real hs hid hcs
      have hne:¬(n=l1):=by omega
      refine ⟨.slice (some ⟨b,o+(off+l1 * ie.size),none⟩) (h1 - l1) (n - l1),?_,b,o,s,n - l1,hid,by simp,by omega,?_,.inl rfl⟩
      ·simp [Instr.sliceAt,r_underlying hu,Instr.sureAddr,e,hbr,r_size hie,hne,add_spot,Nat.add_assoc]
      ·have:(n - l1) * ie.size+l1 * ie.size=n * ie.size:=by rw [← Nat.add_mul];congr 1;omega
       omega
     ·simp at hv
   ·simp at hv
  ·simp at hv
 ·simp at h
end
end Go.Sh
end
section
/- The shadow machine: look-ups; and all operations that turn nothing, in one. -/
namespace Go.Sh
section
variable {P:Program} {w:World} {ι:Inj} {B:Nat} {g:Nat→Option SObj} {t:T} {ρ:Operand→Value}
def Found (ι:Inj) (es:List (SV × SV × Nat)) (ys:List MapEntry) (i:Nat):Option (Nat × SV × Nat)→Option (Nat × Value)→Prop
 | none,r=>r=none
 | some (j,v,b),r=>∃ e k',r=some (j,e.val)∧i≤j∧ys[j - i]?=some e∧es[j - i]?=some (k',v,b)∧e.born=b∧VRel ι v e.val
theorem Found.step {x:SV × SV × Nat} {y:MapEntry} {es:List (SV × SV × Nat)} {ys:List MapEntry} {i:Nat} {r:Option (Nat × SV × Nat)} {r':Option (Nat × Value)} (h:Found ι es ys (i+1) r r'):Found ι (x::es) (y::ys) i r r':=by
 cases r with
 | none=>exact h
 | some q=>
  obtain ⟨j,v,b⟩:=q
  obtain ⟨e,k',h1,h2,h3,h4,h5,h6⟩:=h
  refine ⟨e,k',h1,by omega,?_,?_,h5,h6⟩
  ·rw [show j - i=(j - (i+1))+1 from by omega];exact h3
  ·rw [show j - i=(j - (i+1))+1 from by omega];exact h4
theorem eqTyped_now {d:TypeDesc} {x y:SV} {u v:Value} {r:Bool} (h:eqTyped (some d) x y=some r) (hx:VRel ι x u) (hy:VRel ι y v):Instr.sameNow d u v=some r:=by
 unfold eqTyped at h
 split at h
 ·rename_i a b hd
  cases hd
  simp only [Option.some.injEq] at h;subst h
  simp only [VRel] at hx hy;subst hx hy;rfl
 ·rename_i k a k' b hd
  cases hd
  split at h <;> simp only [Option.some.injEq,reduceCtorEq] at h
  rename_i hk;subst hk;subst h
  simp only [VRel] at hx hy;subst hx hy
  simp only [Instr.sameNow,if_true];rfl
 ·rename_i a b hd
  cases hd
  simp only [Option.some.injEq] at h;subst h
  simp only [VRel] at hx hy;subst hx hy
  simp only [Instr.sameNow,eqBytes_eq]
  congr 1
  rw [beq_toListBytes,toList_mk,toList_mk]
 ·simp at h
theorem find_now {kt:TypeId} {d:TypeDesc} {k:SV} {u:Value} (hu:P.underlying kt=some d) (hd:aggD d=false) (hk:VRel ι k u):∀ (es:List (SV × SV × Nat)) (ys:List MapEntry) (i:Nat) (r:Option (Nat × SV × Nat)),ERel ι es ys→findEntry P kt k es i=some r →
  ∃ r',Instr.findNow d u ys i=some r'∧Found ι es ys i r r'
 | [],ys,i,r,he,h=>by
  cases he
  simp only [findEntry,Option.some.injEq] at h;subst h
  exact ⟨none,rfl,rfl⟩
 | (k',v,b)::es,ys,i,r,he,h=>by
  obtain ⟨e,q,rfl,hkk,hv,hb,he⟩:=he
  simp only [findEntry] at h
  have heq:eqKey P kt k k'=eqTyped (some d) k k':=by
   unfold eqKey;rw [hu];cases d <;> first | rfl | simp [aggD] at hd
  rw [heq] at h
  cases hc:eqTyped (some d) k k' with
  | none=>simp [hc] at h
  | some c=>
   have hn:=eqTyped_now hc hk hkk
   cases c with
   | true=>
    simp only [hc,Option.some.injEq] at h;subst h
    exact ⟨some (i,e.val),by simp [Instr.findNow,hn],e,k',rfl,Nat.le_refl _,by simp,by simp,hb,hv⟩
   | false=>
    simp only [hc] at h
    obtain ⟨r',h1,h2⟩:=find_now hu hd hk es q (i+1) r he h
    exact ⟨r',by simp [Instr.findNow,hn,h1],h2.step⟩
theorem find_asking {kt:TypeId} {fs:Array Field} {a:List SV} {us:Array Value} (hu:P.underlying kt=some (.struct fs)) (hp:plainStruct P kt=true) (hk:VRel ι (.agg a) (.agg us)):∀ (es:List (SV × SV × Nat)) (ys:List MapEntry) (i:Nat) (r:Option (Nat × SV × Nat)),ERel ι es ys→findEntry P kt (.agg a) es i=some r →
  ∃ r',(Instr.findAsking kt (.agg us) ys i).run P w=.ok r' w∧Found ι es ys i r r'
 | [],ys,i,r,he,h=>by
  cases he
  simp only [findEntry,Option.some.injEq] at h;subst h
  exact ⟨none,rfl,rfl⟩
 | (k',v,b)::es,ys,i,r,he,h=>by
  obtain ⟨e,q,rfl,hkk,hv,hb,he⟩:=he
  simp only [findEntry] at h
  obtain ⟨xs,hxs,hxl,_⟩:=hk
  cases hxs
  cases k' with
  | agg a'=>
   have heq:eqKey P kt (.agg a) (.agg a')=eqFieldsS P fs.toList a a':=by unfold eqKey;rw [hu]
   rw [heq] at h
   obtain ⟨ys',hys,hyl,_⟩:=hkk
   cases hc:eqFieldsS P fs.toList a a' with
   | none=>simp [hc] at h
   | some c=>
    have hn:=eqStruct_run (P:=P) (w:=w) (d:=9998) hu hp hxl hyl hc
    have hn':(Op.equal kt (.agg us) e.key).run P w=.ok c w:=by rw [hys];exact hn
    cases c with
    | true=>
     simp only [hc,Option.some.injEq] at h;subst h
     exact ⟨some (i,e.val),by simp [Instr.findAsking,hn'],e,.agg a',rfl,Nat.le_refl _,by simp,by simp,hb,hv⟩
    | false=>
     simp only [hc] at h
     obtain ⟨r',h1,h2⟩:=find_asking hu hp ⟨us,rfl,hxl,by assumption⟩ es q (i+1) r he h
     exact ⟨r',by simp [Instr.findAsking,hn',h1],h2.step⟩
  | _=>simp [eqKey,hu,eqTyped] at h
theorem plain_now {fs:Array Field} {u:Value}:∀ (ys:List MapEntry) (i:Nat),ys≠[]→Instr.findNow (.struct fs) u ys i=none
 | [],_,h=>absurd rfl h
 | e::ys,i,_=>by simp [Instr.findNow,Instr.sameNow]
theorem findKey_run {kt:TypeId} {k:SV} {u:Value} {es:List (SV × SV × Nat)} {ys:List MapEntry} {r:Option (Nat × SV × Nat)} (hk:keyOk P kt k=true) (hku:VRel ι k u) (he:ERel ι es ys) (h:findEntry P kt k es 0=some r) :
  ∃ r',(Instr.findKey kt u ys).run P w=.ok r' w∧Found ι es ys 0 r r':=by
 have scalar:∀ d,P.underlying kt=some d→aggD d=false→∃ r',(Instr.findKey kt u ys).run P w=.ok r' w∧Found ι es ys 0 r r':=by
  intro d hd ha
  obtain ⟨r',h1,h2⟩:=find_now (P:=P) hd ha hku es ys 0 r he h
  exact ⟨r',by simp [Instr.findKey,r_underlying hd,h1],h2⟩
 unfold keyOk at hk
 split at hk
 ·rename_i fs cs hu
  simp only [Bool.and_eq_true] at hk
  obtain ⟨us,rfl,hl,hc⟩:=hku
  cases ys with
  | nil=>
   cases es with
   | nil=>
    simp only [findEntry,Option.some.injEq] at h;subst h
    exact ⟨none,by simp [Instr.findKey,r_underlying hu,Instr.findNow],rfl⟩
   | cons x es=>obtain ⟨k',v,b⟩:=x;obtain ⟨_,_,h,_⟩:=he;simp at h
  | cons y ys=>
   obtain ⟨r',h1,h2⟩:=find_asking (P:=P) (w:=w) hu hk.1 ⟨us,rfl,hl,hc⟩ es (y::ys) 0 r he h
   exact ⟨r',by simp [Instr.findKey,r_underlying hu,plain_now (y::ys) 0 (by simp),h1],h2⟩
 ·rename_i hu;exact scalar _ hu rfl
 ·rename_i hu;exact scalar _ hu rfl
 ·rename_i hu;exact scalar _ hu rfl
 ·simp at hk
theorem plainCell_some {ty:TypeId} (h:plainCell P ty=true):∃ d,P.underlying ty=some d∧aggD d=false∧(d=.bool∨(∃ k,d=.int k)∨d=.string):=by
 unfold plainCell at h
 split at h
 ·rename_i hu;exact ⟨_,hu,rfl,.inl rfl⟩
 ·rename_i k hu;exact ⟨_,hu,rfl,.inr (.inl ⟨k,rfl⟩)⟩
 ·rename_i hu;exact ⟨_,hu,rfl,.inr (.inr rfl)⟩
 ·simp at h
theorem check_plain {e:Bool} {ty:TypeId} {v:Value} (h:plainCell P ty=true):∀ n,(Instr.checkKey e (n+1) ty v).run P w=.ok () w:=by
 intro n
 obtain ⟨d,hu,_,hd⟩:=plainCell_some h
 rcases hd with rfl | ⟨k,rfl⟩ | rfl <;> simp only [Instr.checkKey,Sem.run_bind,r_underlying hu,Result.andThen_ok] <;> cases v <;> simp
theorem check_fields {e:Bool} {n:Nat} {us:Array Value}:∀ (fs:List Field) (i:Nat),plainFields P fs i=true→i+fs.length≤us.size →
  ((forIn fs PUnit.unit λ f (_:PUnit)=>(do
    if f.name ≠ "_" then Instr.checkKey e (n + 1) f.type (← part f.type us f.offset)
    Pure.pure (ForInStep.yield PUnit.unit):Sem (ForInStep PUnit))):Sem PUnit).run P w=.ok () w
 | [],i,_,_=>by simp
 | f::fs,i,hp,hl=>by
  simp only [plainFields,Bool.and_eq_true,bne_iff_ne,ne_eq] at hp
  obtain ⟨⟨⟨⟨hn,ho⟩,hpc⟩,hc⟩,hrest⟩:=hp
  have ho:=Nat.eq_of_beq_eq_true ho
  simp only [List.length_cons] at hl
  obtain ⟨d,hu,ha,_⟩:=plainCell_some hpc
  have hi:i < us.size:=by omega
  have e1:us[i]?=some us[i]:=Array.getElem?_eq_getElem hi
  have p1:(part f.type us f.offset).run P w=.ok us[i] w:=by
   rw [ho];simp only [part,Sem.run_bind,r_isAgg hu,ha,Result.andThen_ok,e1,Bool.false_eq_true,if_false,Sem.run_ite,Sem.run_pure]
  have ih:=check_fields (e:=e) (n:=n) (us:=us) fs (i+1) hrest (by omega)
  simp only [List.forIn_cons,Sem.run_bind,Sem.run_ite,hn,ne_eq,not_false_iff,if_true,p1,Result.andThen_ok,check_plain hpc,Sem.run_pure]
  exact ih
theorem check_any {e:Bool} {kt:TypeId} {k:SV} {u:Value} (hk:keyOk P kt k=true) (hku:VRel ι k u):∀ n,(Instr.checkKey e (n+2) kt u).run P w=.ok () w:=by
 intro n
 unfold keyOk at hk
 split at hk
 ·rename_i fs cs hu
  simp only [Bool.and_eq_true] at hk
  obtain ⟨us,rfl,hl,hc⟩:=hku
  have hlen:=hl.length
  obtain ⟨hp,hle⟩:=hk
  unfold plainStruct at hp
  simp only [hu,Bool.and_eq_true,Bool.not_eq_true'] at hp
  have hle':fs.toList.length≤cs.length:=Nat.le_of_ble_eq_true hle
  have:=check_fields (P:=P) (w:=w) (e:=e) (n:=n) (us:=us) fs.toList 0 hp.2 (by simp at hlen hle' ⊢;omega)
  rw [Instr.checkKey]
  simp only [Sem.run_bind,r_underlying hu,Result.andThen_ok,← Array.forIn_toList]
  simp only [Sem.run_bind] at this
  rw [this]
  rfl
 ·rename_i hu;exact check_plain (by simp [plainCell,hu]) (n+1)
 ·rename_i hu;exact check_plain (by simp [plainCell,hu]) (n+1)
 ·rename_i hu;exact check_plain (by simp [plainCell,hu]) (n+1)
 ·simp at hk
theorem check_run {e:Bool} {kt:TypeId} {k:SV} {u:Value} (hk:keyOk P kt k=true) (hku:VRel ι k u):(Instr.checkKey e 10000 kt u).run P w=.ok () w:=
 check_any hk hku 9998
theorem map_real {id b o s c:Nat} {es:List (SV × SV × Nat)} (hs:Sim B ι g w) (hi:ι id=some (b,o,s)) (hg:g id=some (.map es c)):∃ es',w.heap[b]?=some (.map es' c)∧ERel ι es es'.toList:=by
 obtain ⟨ob,hg',ho,_,_⟩:=hs.obj id b o s hi
 rw [hg] at hg';cases hg'
 rcases ho with hd | h
 ·exact absurd hd (by simp [SObj.isDead])
 ·exact h
def Shows (w:World) (m:Value) (ys:Array MapEntry):Prop:=m=.map none∧ys=#[]∨∃ b c,m=.map (some b)∧w.heap[b]?=some (.map ys c)
theorem map_shows {m:SV} {u:Value} {es:List (SV × SV × Nat)} (hs:Sim B ι g w) (hm:VRel ι m u) (h:mapOf g m=some es):∃ ys,Shows w u ys∧ERel ι es ys.toList:=by
 unfold mapOf at h
 split at h
 ·simp only [Option.some.injEq] at h;subst h
  simp only [VRel] at hm
  exact ⟨#[],.inl ⟨hm,rfl⟩,rfl⟩
 ·rename_i id
  split at h
  ·rename_i es' c hg
   simp only [Option.some.injEq] at h;subst h
   obtain ⟨b,o,s,hid,e⟩:=hm
   obtain ⟨ys,hh,her⟩:=map_real hs hid hg
   exact ⟨ys,.inr ⟨b,c,e,hh⟩,her⟩
  ·simp at h
 ·simp at h
theorem lookup_hit {ty kt et:TypeId} {m k v:Value} {ok:Bool} {ys:Array MapEntry} {j:Nat} (hu:P.underlying ty=some (.map kt et)) (hm:Shows w m ys)
  (hck:∀ e,(Instr.checkKey e 10000 kt k).run P w=.ok () w) (hrun:(Instr.findKey kt k ys.toList).run P w=.ok (some (j,v)) w) :
  (Instr.lookup ty m k ok).run P w=.ok (if ok then .tuple #[v,.bool true] else v) w:=by
 rcases hm with ⟨rfl,rfl⟩ | ⟨b,c,rfl,hh⟩
 ·simp only [Instr.lookup,Sem.run_bind,r_underlying hu,Result.andThen_ok,Sem.run_pure,hck,hrun]
 ·have hg:(getObj b).run P w=.ok (.map ys c) w:=by simp [getObj,Sem.run,hh]
  simp only [Instr.lookup,Sem.run_bind,r_underlying hu,Result.andThen_ok,Sem.run_pure,hg,hck,hrun]
theorem lookup_miss {ty kt et:TypeId} {m k zv:Value} {ok:Bool} {ys:Array MapEntry} (hu:P.underlying ty=some (.map kt et)) (hm:Shows w m ys)
  (hck:∀ e,(Instr.checkKey e 10000 kt k).run P w=.ok () w) (hrun:(Instr.findKey kt k ys.toList).run P w=.ok none w) (hz:(zeroValue et).run P w=.ok zv w) :
  (Instr.lookup ty m k ok).run P w=.ok (if ok then .tuple #[zv,.bool false] else zv) w:=by
 rcases hm with ⟨rfl,rfl⟩ | ⟨b,c,rfl,hh⟩
 ·simp only [Instr.lookup,Sem.run_bind,r_underlying hu,Result.andThen_ok,Sem.run_pure,hck,hrun,hz]
 ·have hg:(getObj b).run P w=.ok (.map ys c) w:=by simp [getObj,Sem.run,hh]
  simp only [Instr.lookup,Sem.run_bind,r_underlying hu,Result.andThen_ok,Sem.run_pure,hg,hck,hrun,hz]
theorem n_lookup {ty:TypeId} {x i:Operand} {ok:Bool} {r:NR} (hs:Sim B ι g w) (hρ:Ops ι t ρ [x,i]) (h:nLookup P g ty ok (opd t x) (opd t i)=some r) :
  NOk ι w r ((do Pure.pure (Next.value (← Instr.lookup ty (ρ x) (ρ i) ok)):Sem Next).run P w):=by
 unfold nLookup at h
 split at h
 ·rename_i m k hx hi
  obtain ⟨r',hv,rfl⟩:=nVal_some h
  have hm:=hρ x (by simp) _ hx
  have hk:=hρ i (by simp) _ hi
  unfold lookupS at hv
  split at hv
  ·rename_i kt et hu
   split at hv
   ·rename_i hko
    cases hmo:mapOf g m with
    | none=>simp [hmo] at hv
    | some es=>
     simp only [hmo] at hv
     obtain ⟨ys,hys,her⟩:=map_shows hs hm hmo
     have hck:∀ e,(Instr.checkKey e 10000 kt (ρ i)).run P w=.ok () w:=λ e=>check_run hko hk
     cases hf:findEntry P kt k es 0 with
     | none=>simp [hf] at hv
     | some fr=>
      obtain ⟨fr',hrun,hfound⟩:=findKey_run (P:=P) (w:=w) hko hk her hf
      cases fr with
      | some q=>
       obtain ⟨j,v,b⟩:=q
       simp only [hf,Option.some.injEq] at hv
       obtain ⟨e,k',rfl,_,_,_,_,hvr⟩:=hfound
       subst hv
       refine ⟨if ok then .tuple #[e.val,.bool true] else e.val,?_,?_⟩
       ·simp [lookup_hit hu hys hck hrun]
       ·cases ok
        ·simpa using hvr
        ·exact ⟨_,rfl,.cons hvr (.cons rfl .nil)⟩
      | none=>
       simp only [hf] at hv
       cases hz:zeroOf P et with
       | none=>simp [hz] at hv
       | some z=>
        simp only [hz,Option.some.injEq] at hv
        obtain ⟨ie,zv,hie,hzv,hzr⟩:=zeroOf_some (ι:=ι) hz
        cases hfound
        subst hv
        refine ⟨if ok then .tuple #[zv,.bool false] else zv,?_,?_⟩
        ·simp [lookup_miss hu hys hck hrun (r_zero hie hzv)]
        ·cases ok
         ·simpa using hzr
         ·exact ⟨_,rfl,.cons hzr (.cons rfl .nil)⟩
   ·simp at hv
  ·simp at hv
 ·simp at h
end
end Go.Sh
end
section
/- The shadow machine: an operation that turns nothing, whichever it is. -/
namespace Go.Sh
section
variable {P:Program} {w:World} {ι:Inj} {B:Nat} {g:Nat→Option SObj} {t:T} {ρ:Operand→Value}
theorem ERel.length:∀ {es:List (SV × SV × Nat)} {ys:List MapEntry},ERel ι es ys→ys.length=es.length
 | [],_,e=>by cases e;rfl
 | (_,_,_)::es,_,⟨_,r,e,_,_,_,l⟩=>by subst e;simp [ERel.length (es:=es) l]
theorem len_run {ty gty:TypeId} {tys:Array TypeId} {x:SV} {u:Value} {us:Array Value} {n:Nat} (hs:Sim B ι g w) (ht:tys[0]?=some ty) (hx:us[0]?=some u) (hr:VRel ι x u) (h:lenS P g ty x=some n) :
  (Builtin.len_ tys gty us).run P w=.ok (.int .i64 n) w:=by
 unfold lenS at h
 simp only [Builtin.len_,ht,hx,Sem.run_bind]
 split at h
 ·rename_i hu;simp only [Option.some.injEq] at h;subst h;simp only [VRel] at hr;subst hr
  simp [r_underlying hu,goInt,size_mk]
 ·rename_i hu;simp only [Option.some.injEq] at h;subst h
  obtain ⟨b,o,s,c,hi,_,_,_,hv⟩:=hr
  rcases hv with rfl | ⟨rfl,rfl,a,rfl⟩ <;> simp [r_underlying hu,goInt]
 ·rename_i hu;simp only [Option.some.injEq] at h;subst h;simp only [VRel] at hr;subst hr
  simp [r_underlying hu,goInt]
 ·rename_i hu;simp only [Option.some.injEq] at h;subst h;simp only [VRel] at hr;subst hr
  simp [r_underlying hu,goInt]
 ·rename_i id hu
  split at h <;> simp only [Option.some.injEq,reduceCtorEq] at h
  rename_i es c hg
  subst h
  obtain ⟨b,o,s,hi,rfl⟩:=hr
  obtain ⟨ys,hh,her⟩:=map_real hs hi hg
  have hl:=her.length
  simp only [Array.length_toList] at hl
  have hg':(getObj b).run P w=.ok (.map ys c) w:=by simp [getObj,Sem.run,hh]
  simp [r_underlying hu,goInt,hg',hl]
 ·rename_i hu;simp only [Option.some.injEq] at h;subst h
  simp [r_underlying hu,goInt]
 ·simp at h
theorem max_run {big:Bool} {f:Value→Value→Sem Value} (hf:∀ k a k' b,f (.int k a) (.int k' b)=Pure.pure (.int k (if big then (if b > a then b else a) else (if b < a then b else a)))) :
  ∀ (l:List SV) (us:List Value) (x r:SV) (u:Value),VRel ι x u→LRel ι l us→maxS big x l=some r→∃ u',(us.foldlM f u).run P w=.ok u' w∧VRel ι r u'
 | [],us,x,r,u,hx,hl,h=>by
  cases hl
  cases x <;> (simp only [maxS,Option.some.injEq] at h;subst h;exact ⟨u,by simp,hx⟩)
 | y::l,us,x,r,u,hx,hl,h=>by
  obtain ⟨v,us',rfl,hy,hl'⟩:=hl
  cases x with
  | int k a=>
   cases y with
   | int k' b=>
    simp only [maxS] at h
    split at h
    ·simp only [VRel] at hx hy
     subst hx;subst hy
     obtain ⟨u',h1,h2⟩:=max_run hf l us' (.int k (if big then (if b > a then b else a) else (if b < a then b else a))) r (.int k (if big then (if b > a then b else a) else (if b < a then b else a))) rfl hl' h
     refine ⟨u',?_,h2⟩
     simp only [List.foldlM_cons,hf,Sem.run_bind,Sem.run_pure,Result.andThen_ok]
     exact h1
    ·simp at h
   | _=>simp [maxS] at h
  | _=>simp [maxS] at h
theorem LRel.head {x:SV} {xs:List SV} {us:Array Value} (h:LRel ι (x::xs) us.toList):∃ u,us[0]?=some u∧VRel ι x u:=by
 obtain ⟨u,r,e,hx,_⟩:=h
 exact ⟨u,by rw [← Array.getElem?_toList,e];rfl,hx⟩
theorem n_call {c:Call} {ty:TypeId} {r:NR} (hs:Sim B ι g w) (hρ:Ops ι t ρ c.operands.toList) (h:nCall P g t c=some r) :
  NOk ι w r ((do let d ← resolve ρ c ty;invoke d.target d.args:Sem Next).run P w):=by
 obtain ⟨callee,args,argTypes⟩:=c
 have hargs:∀ x,x ∈ args.toList→x ∈ (Call.operands ⟨callee,args,argTypes⟩).toList:=by
  intro x hx;cases callee <;> simp [Call.operands] <;> first | exact .inr (by simpa using hx) | (right;simpa using hx) | simpa using hx
 unfold nCall at h
 dsimp only at h
 split at h
 ·-- len
  unfold nLen at h
  split at h
  ·rename_i x ty' l hx htys
   split at h <;> simp only [Option.some.injEq,reduceCtorEq] at h
   rename_i n hn
   subst h
   have hl:=Ops.list hρ hargs hx
   have ht:argTypes[0]?=some ty':=by rw [← Array.getElem?_toList,htys];rfl
   obtain ⟨u,hu,hr⟩:=LRel.head (us:=args.map ρ) (by simpa using hl)
   refine ⟨_,?_,rfl⟩
   simp [resolve,invoke,builtin,len_run hs ht hu hr hn]
  ·simp at h
 ·unfold nMax at h
  split at h
  ·rename_i x l hx
   obtain ⟨v,hv,rfl⟩:=nVal_some h
   have hl:=Ops.list hρ hargs hx
   obtain ⟨u,us,e,hxu,hlu⟩:=hl
   obtain ⟨u',h1,h2⟩:=max_run (P:=P) (w:=w) (big:=true) (f:=Builtin.max2) (λ k a k' b=>rfl) l us x v u hxu hlu hv
   refine ⟨u',?_,h2⟩
   simp [resolve,invoke,builtin,Builtin.max_,e,h1]
  ·simp at h
 ·unfold nMax at h
  split at h
  ·rename_i x l hx
   obtain ⟨v,hv,rfl⟩:=nVal_some h
   have hl:=Ops.list hρ hargs hx
   obtain ⟨u,us,e,hxu,hlu⟩:=hl
   obtain ⟨u',h1,h2⟩:=max_run (P:=P) (w:=w) (big:=false) (f:=Builtin.min2) (λ k a k' b=>rfl) l us x v u hxu hlu hv
   refine ⟨u',?_,h2⟩
   simp [resolve,invoke,builtin,Builtin.min_,e,h1]
  ·simp at h
 ·simp at h
def Kept (ob:SObj) (x:Option SObj):Prop:=ob.isDead∨match ob with
 | .cells cs m=>∃ m',x=some (.cells cs m')∧m'≠.dead∧(m=.fixed→m'=.fixed)
 | .map es c=>x=some (.map es c)
def Keeps (g g':Nat→Option SObj):Prop:=∀ id ob,g id=some ob→Kept ob (g' id)
theorem Kept.same {ob:SObj} {x:Option SObj} (h:x=some ob):Kept ob x:=by
 subst h
 cases ob with
 | cells cs m=>
  by_cases hm:m=.dead
  ·subst hm;exact .inl trivial
  ·exact .inr ⟨m,rfl,hm,λ h=>h⟩
 | map es c=>exact .inr rfl
theorem Kept.trans {ob:SObj} {x y:Option SObj} (h:Kept ob x) (k:∀ o,x=some o→Kept o y):Kept ob y:=by
 rcases h with hd | h
 ·exact .inl hd
 ·cases ob with
  | cells cs m=>
   obtain ⟨m',e,hm,hf⟩:=h
   rcases k _ e with hd | ⟨m2,e2,hm2,hf2⟩
   ·cases m' <;> simp [SObj.isDead] at hd hm
   ·exact .inr ⟨m2,e2,hm2,λ e=>hf2 (hf e)⟩
  | map es c=>
   rcases k _ h with hd | h2
   ·simp [SObj.isDead] at hd
   ·exact .inr h2
theorem Keeps.of_eq {g g':Nat→Option SObj} (h:∀ id ob,g id=some ob→g' id=some ob):Keeps g g':=λ id ob e=>.same (h id ob e)
section
variable {g':Nat→Option SObj}
theorem Keeps.row (k:Keeps g g') {id:Nat} {cs:List SV} (h:rowCells g id=some cs):rowCells g' id=some cs:=by
 obtain ⟨m,hg,hm⟩:=rowCells_some h
 rcases k id _ hg with hd | ⟨m',h',hm',_⟩
 ·cases m <;> simp [SObj.isDead] at hd hm
 ·unfold rowCells;rw [h'];cases m' <;> simp at hm' ⊢
theorem Keeps.fixed (k:Keeps g g') {id off:Nat} (h:fixedAt g id off=true):fixedAt g' id off=true:=by
 obtain ⟨cs,hg,hl⟩:=fixedAt_some h
 rcases k id _ hg with hd | ⟨m',h',_,hm⟩
 ·simp [SObj.isDead] at hd
 ·rw [hm rfl] at h'
  unfold fixedAt;rw [h']
  exact Nat.ble_eq_true_of_le hl
theorem Keeps.map (k:Keeps g g') {id c:Nat} {es:List (SV × SV × Nat)} (h:g id=some (.map es c)):g' id=some (.map es c):=by
 rcases k id _ h with hd | h'
 ·simp [SObj.isDead] at hd
 ·exact h'
theorem Keeps.mapOf (k:Keeps g g') {m:SV} {es:List (SV × SV × Nat)} (h:mapOf g m=some es):mapOf g' m=some es:=by
 unfold Sh.mapOf at h ⊢
 split at h
 ·exact h
 ·split at h
  ·rename_i hg;simp only [k.map hg];exact h
  ·simp at h
 ·simp at h
theorem Keeps.len (k:Keeps g g') {ty:TypeId} {x:SV} {n:Nat} (h:lenS P g ty x=some n):lenS P g' ty x=some n:=by
 unfold lenS at h ⊢
 split at h <;> rename_i hu <;> (try simp only [hu]) <;> try exact h
 split at h
 ·rename_i hg;simp only [k.map hg];exact h
 ·simp at h
theorem Keeps.lookup (k:Keeps g g') {ty:TypeId} {m i v:SV} {ok:Bool} (h:lookupS P g ty m i ok=some v):lookupS P g' ty m i ok=some v:=by
 unfold lookupS at h ⊢
 split at h
 ·rename_i hu
  try simp only [hu]
  split at h
  ·rename_i hk
   rw [if_pos hk]
   split at h
   ·rename_i hm
    simp only [k.mapOf hm]
    exact h
   ·simp at h
  ·simp at h
 ·simp at h
theorem Keeps.eql (k:Keeps g g') {lit:Bool} {ty:TypeId} {x y:SV} {r:Bool} (h:eqlS P g lit ty x y=some r):eqlS P g' lit ty x y=some r:=by
 unfold eqlS at h ⊢
 split at h <;> rename_i hu <;> (try simp only [hu]) <;> try exact h
 split at h
 ·rename_i hc
  simp only [Bool.and_eq_true] at hc
  rw [if_pos (by simp only [Bool.and_eq_true];exact ⟨⟨k.fixed hc.1.1,k.fixed hc.1.2⟩,hc.2⟩)]
  exact h
 ·simp at h
theorem Keeps.bin (k:Keeps g g') {lit:Bool} {op:BinOp} {ty:TypeId} {x y v:SV} (h:binS P g lit op ty x y=some v):binS P g' lit op ty x y=some v:=by
 unfold binS at h ⊢
 split at h <;> try exact h
 ·simp only [Option.map_eq_some_iff] at h ⊢
  obtain ⟨r,h,e⟩:=h
  exact ⟨r,k.eql h,e⟩
 ·simp only [Option.map_eq_some_iff] at h ⊢
  obtain ⟨r,h,e⟩:=h
  exact ⟨r,k.eql h,e⟩
theorem Keeps.conv (k:Keeps g g') {s d:TypeId} {x v:SV} (h:convS P g s d x=some v):convS P g' s d x=some v:=by
 unfold convS at h ⊢
 split at h <;> rename_i h1 h2 <;> (try simp only [h1,h2]) <;> try exact h
 split at h
 ·rename_i he
  simp only [Option.map_eq_some_iff,Option.bind_eq_some_iff] at h ⊢
  obtain ⟨r,⟨cs,hc,l⟩,e⟩:=h
  exact ⟨r,⟨cs,k.row hc,l⟩,e⟩
 ·simp at h
theorem nVal_imp {x y:Option SV} {r:NR} (h:nVal x=some r) (k:∀ v,x=some v→y=some v):nVal y=some r:=by
 obtain ⟨v,hv,rfl⟩:=nVal_some h
 rw [k v hv];rfl
theorem Keeps.opN (k:Keeps g g') {o:Op} {r:NR} (h:opN P g t o=some r):opN P g' t o=some r:=by
 cases o <;> simp only [Sh.opN,reduceCtorEq] at h ⊢ <;> try exact h
 case load ty x=>
  unfold nLoad at h ⊢
  split at h
  ·rename_i hx
   try simp only [hx]
   split at h
   ·rename_i hc;simp only [k.row hc];exact h
   ·simp at h
  ·simp at h
 case binOp op ty x y b=>
  unfold nBin at h ⊢
  split at h
  ·rename_i hx hy
   try simp only [hx,hy]
   exact nVal_imp h λ v hv=>k.bin hv
  ·simp at h
 case convert s d x=>
  unfold nConv at h ⊢
  split at h
  ·exact h
  ·rename_i hn hx
   exact nVal_imp h λ v hv=>k.conv hv
  ·simp at h
 case slice ty x lo hi mx=>
  unfold nSlice at h ⊢
  split at h
  ·rename_i h1 h2 h3 h4
   try simp only [h1,h2,h3,h4]
   refine nVal_imp h λ v hv=>?_
   unfold sliceS at hv ⊢
   split at hv <;> try exact hv
   split at hv <;> try exact hv
   unfold sliceArr at hv ⊢
   split at hv <;> try exact hv
   split at hv
   ·rename_i h1 h2 hc
    simp only [h1,h2,k.row hc]
    exact hv
   ·simp at hv
  ·simp at h
 case lookup ty x i ok=>
  unfold nLookup at h ⊢
  split at h
  ·rename_i hx hi
   exact nVal_imp h λ v hv=>k.lookup hv
  ·simp at h
 case call c=>
  unfold nCall at h ⊢
  split at h <;> rename_i hc <;> (try simp only [hc]) <;> try exact h
  unfold nLen at h ⊢
  split at h
  ·rename_i hx hy
   try simp only [hx,hy]
   split at h
   ·rename_i hl;simp only [k.len hl];exact h
   ·simp at h
  ·simp at h
end
theorem opN_sound {o:Oper} {r:NR} (hs:Sim B ι g w) (hρ:Ops ι t ρ o.op.operands.toList) (h:opN P g t o.op=some r):NOk ι w r ((execOp ρ o).run P w):=by
 obtain ⟨dst,op,ty,pos,after,guard⟩:=o
 cases op <;> simp only [opN,reduceCtorEq] at h
 case move x=>exact n_move hρ h
 case assign x=>exact n_move hρ h
 case pick c a b=>exact n_pick hρ h
 case alloc el=>exact n_alloc h
 case box el x=>exact n_box hρ h
 case build t ps=>exact n_build (by simpa [Op.operands] using hρ) h
 case buildSlice t n ps=>exact n_buildSlice (by simpa [Op.operands] using hρ) h
 case load t x=>exact n_load hs hρ h
 case nilCheck x=>exact n_nil hρ h
 case binOp op ty x y b=>exact n_bin hs hρ h
 case unOp op ty x=>exact n_un (ty:=ty) hρ h
 case convert s d x=>exact n_conv hs hρ h
 case makeInterface ty x=>exact n_iface hρ h
 case makeFunc fn first captured=>exact n_func hρ h
 case makeMap t m=>exact n_map h
 case makeSlice t l c=>exact n_makeSlice hρ h
 case slice t x lo hi mx=>exact n_slice hs hρ h
 case fieldAddr t x f=>exact n_fieldAddr hρ h
 case field t x f=>exact n_field hρ h
 case indexAddr t x i=>exact n_indexAddr hρ h
 case index t x i=>exact n_index hρ h
 case lookup t x i ok=>exact n_lookup hs hρ h
 case extract x i=>exact n_extract hρ h
 case call c=>exact n_call hs hρ h
end
end Go.Sh
end
section
/- The shadow machine: how a turn of the heap keeps it like the model's. -/
namespace Go.Sh
section
variable {P:Program} {w:World} {ι:Inj} {B:Nat} {g g':Nat→Option SObj}
def putBlk (w:World) (b:Nat) (ob:Obj):World:={ w with heap:=w.heap.setIfInBounds b ob }
theorem putBlk_same {b:Nat} {ob:Obj} (h:b < w.heap.size):(putBlk w b ob).heap[b]?=some ob:=by simp [putBlk,h]
theorem putBlk_other {b k:Nat} {ob:Obj} (h:k≠b):(putBlk w b ob).heap[k]?=w.heap[k]?:=by simp [putBlk,Array.getElem?_setIfInBounds,Ne.symm h]
theorem putBlk_twice {b:Nat} {x y:Obj}:putBlk (putBlk w b x) b y=putBlk w b y:=by simp [putBlk]
theorem putBlk_size {b:Nat} {ob:Obj}:(putBlk w b ob).heap.size=w.heap.size:=by simp [putBlk]
def lay (rc:List Value) (k:Nat) (us:List Value):List Value:=rc.take k++(us++rc.drop (k+us.length))
theorem lay_cons {rc us:List Value} {k:Nat} {v:Value} (h:k < rc.length):lay (rc.set k v) (k+1) us=lay rc k (v::us):=by
 unfold lay
 have e1:(rc.set k v).take (k+1)=rc.take k++[v]:=by
  rw [List.take_add_one,List.take_set_of_le (Nat.le_refl k)]
  simp [h]
 rw [e1,List.drop_set_of_lt (by omega)]
 simp only [List.append_assoc,List.cons_append,List.nil_append,List.length_cons]
 congr 3
 congr 1
 omega
theorem length_lay {rc us:List Value} {k:Nat} (h:k+us.length≤rc.length):(lay rc k us).length=rc.length:=by
 simp [lay];omega
theorem get_lay {rc us:List Value} {k j:Nat} (h:k+us.length≤rc.length):(lay rc k us)[j]?=if j < k then rc[j]? else if j < k+us.length then us[j - k]? else rc[j]?:=by
 unfold lay
 by_cases h1:j < k
 ·rw [if_pos h1,List.getElem?_append_left (by simp;omega),List.getElem?_take_of_lt h1]
 ·rw [if_neg h1,List.getElem?_append_right (by simp;omega)]
  have e:(rc.take k).length=k:=by simp;omega
  rw [e]
  by_cases h2:j < k+us.length
  ·rw [if_pos h2,List.getElem?_append_left (by omega)]
  ·rw [if_neg h2,List.getElem?_append_right (by omega),List.getElem?_drop]
   congr 1;omega
theorem store_list {b:Nat} {el:TypeId} {fz:Nat × Nat}:∀ (us:List Value) (o i:Nat) (rc:Array Value) (w:World),w.heap[b]?=some (.cells rc el fz)→o+i+us.length≤rc.size →
  (∀ v ∈ us,v.oneCell'=true)→(∀ j,j < rc.size→¬(fz.1≤j∧j < fz.2)) →
  (storeCells ⟨b,o,none⟩ us i).run P w=.ok () (putBlk w b (.cells (lay rc.toList (o+i) us).toArray el fz))
 | [],o,i,rc,w,hh,_,_,_=>by
  have:lay rc.toList (o+i) []=rc.toList:=by simp [lay]
  rw [this]
  simp only [storeCells,Sem.run_pure]
  congr 1
  obtain ⟨hp,tp,dr,os,ou⟩:=w
  simp only [putBlk]
  congr 1
  apply Array.ext_getElem?
  intro j
  rw [Array.getElem?_setIfInBounds]
  split
  ·rename_i e;subst e;split
   ·exact hh
   ·exact Array.getElem?_eq_none (by omega)
  ·rfl
 | v::us,o,i,rc,w,hh,hl,h1,hf=>by
  simp only [List.length_cons] at hl
  have ha:(⟨b,o,none⟩:Addr).add i=⟨b,o+i,none⟩:=add_spot
  have hc:w.cell? ⟨b,o+i,none⟩=some rc[o+i]:=by simp [World.cell?,hh]
  have hfz:w.frozen? ⟨b,o+i,none⟩=false:=by
   simp only [World.frozen?,hh]
   have:=hf (o+i) (by omega)
   simp only [Bool.and_eq_false_imp,decide_eq_true_eq,decide_eq_false_iff_not]
   omega
  have hb:b < w.heap.size:=(Array.getElem?_eq_some_iff.1 hh).1
  have hset:w.setCell ⟨b,o+i,none⟩ v=putBlk w b (.cells (rc.setIfInBounds (o+i) v) el fz):=by
   unfold World.setCell putBlk
   congr 1
   apply Array.ext_getElem?
   intro j
   rw [Array.getElem?_modify,Array.getElem?_setIfInBounds]
   by_cases e:b=j
   ·subst e;rw [if_pos rfl,if_pos rfl,if_pos hb,hh];rfl
   ·simp [e]
  have hst:(store ⟨b,o+i,none⟩ v).run P w=.ok () (putBlk w b (.cells (rc.setIfInBounds (o+i) v) el fz)):=by
   rw [run_store P w _ v .plain (h1 v (by simp)),hc]
   simp only [hfz,Bool.false_eq_true,if_false]
   rw [hset]
  have ih:=store_list us o (i+1) (rc.setIfInBounds (o+i) v) (putBlk w b (.cells (rc.setIfInBounds (o+i) v) el fz)) (putBlk_same hb) (by simp;omega)
   (λ u hu=>h1 u (by simp [hu])) (by simpa using hf)
  simp only [storeCells,Sem.run_bind,ha,hst,Result.andThen_ok]
  rw [ih,putBlk_twice]
  congr 4
  rw [Array.toList_setIfInBounds,← lay_cons (by simpa using by omega)]
  rfl
theorem oneCell_rel {x:SV} {v:Value} (h:VRel ι x v) (hc:x.isCell=true):v.oneCell'=true:=by
 cases x <;> simp only [SV.isCell,Bool.false_eq_true] at hc <;> simp only [VRel] at h
 all_goals first
  | (subst h;rfl)
  | (obtain ⟨_,_,_,_,rfl⟩:=h;rfl)
  | (obtain ⟨_,_,_,_,_,_,_,_,h | ⟨_,_,_,h⟩⟩:=h <;> subst h <;> rfl)
  | (obtain ⟨_,rfl,_⟩:=h;rfl)
theorem oneCells_rel:∀ {xs:List SV} {us:List Value},LRel ι xs us→xs.all SV.isCell=true→∀ v ∈ us,v.oneCell'=true
 | [],_,e,_,v,hv=>by cases e;simp at hv
 | x::xs,_,⟨y,r,e,hx,l⟩,hc,v,hv=>by
  subst e
  simp only [List.all_cons,Bool.and_eq_true] at hc
  rcases List.mem_cons.1 hv with rfl | hv
  ·exact oneCell_rel hx hc.1
  ·exact oneCells_rel l hc.2 v hv
theorem Anc.trans {i j k:Nat} (h:Anc g i j) (h':Anc g j k):Anc g i k:=by
 induction h with
 | one a b c=>exact .more a b c h'
 | more a b c _ ih=>exact .more a b c (ih h')
theorem Anc.stale {i j:Nat} (h:Anc g i j):∃ cs q,g j=some (.cells cs (.stale q)):=by
 induction h with
 | one _ _ c=>exact ⟨_,_,c⟩
 | more _ _ _ _ ih=>exact ih
theorem Anc.from {i j:Nat} (h:Anc g i j):∃ cs m p,g i=some (.cells cs m)∧m.par=some p:=by
 cases h with
 | one a b c=>exact ⟨_,_,_,a,b⟩
 | more a b c _=>exact ⟨_,_,_,a,b⟩
theorem Anc.keep {i j:Nat} (h:Anc g i j) (hi:∀ cs m p,g i=some (.cells cs m)→m.par=some p→∃ cs' m',g' i=some (.cells cs' m')∧m'.par=some p)
  (hp:∀ p cs q,Anc g i p→(p=j∨Anc g p j)→g p=some (.cells cs (.stale q))→g' p=g p):Anc g' i j:=by
 induction h with
 | one a b c=>
  obtain ⟨cs',m',a',b'⟩:=hi _ _ _ a b
  exact .one a' b' (by rw [hp _ _ _ (.one a b c) (.inl rfl) c];exact c)
 | more a b c k ih=>
  obtain ⟨cs',m',a',b'⟩:=hi _ _ _ a b
  have e:=hp _ _ _ (.one a b c) (.inr k) c
  exact .more a' b' (by rw [e];exact c) (ih (λ cs m p h1 h2=>⟨cs,m,by rw [e];exact h1,h2⟩) λ p cs q h1=>hp p cs q (.more a b c h1))
def Tied (g:Nat→Option SObj) (D:Nat→Prop):Prop:=∀ i cs m p,D i→g i=some (.cells cs m)→m.par=some p→p < i∧D p
theorem Anc.tied {D:Nat→Prop} (hD:Tied g D) {i j:Nat} (h:Anc g i j):D i→j < i∧D j:=by
 induction h with
 | one a b c=>intro hi;exact hD _ _ _ _ hi a b
 | more a b c k ih=>
  intro hi
  obtain ⟨h1,h2⟩:=hD _ _ _ _ hi a b
  obtain ⟨h3,h4⟩:=ih h2
  exact ⟨by omega,h4⟩
theorem Sim.tied (hs:Sim B ι g w):Tied g (λ i=>ι i≠none):=by
 intro i cs m p hi hg hp
 cases e:ι i with
 | none=>exact absurd e hi
 | some x=>exact (hs.par _ _ _ _ _ e hg hp).symm
theorem ORel.mono {ι':Inj} {w':World} {ob:SObj} {b o s:Nat} (h:ORel ι ob b o s w) (hl:ι.le ι') (hh:w'.heap[b]?=w.heap[b]?):ORel ι' ob b o s w':=by
 rcases h with hd | h
 ·exact .inl hd
 ·refine .inr ?_
  cases ob with
  | cells cs m=>
   obtain ⟨rc,el,fz,h1,h2,h3,h4,h5⟩:=h
   exact ⟨rc,el,fz,by rw [hh];exact h1,h2,h3,h4.mono hl,h5⟩
  | map es c=>
   obtain ⟨es',h1,h2⟩:=h
   exact ⟨es',by rw [hh];exact h1,h2.mono hl⟩
end
end Go.Sh
end
section
/- The shadow machine: how a turn of the heap keeps it like the model's: rows and maps written. -/
namespace Go.Sh
section
variable {P:Program} {w:World} {ι:Inj} {B:Nat} {g g':Nat→Option SObj}
def Like (x y:Option SObj):Prop:=x=y∨∃ cs m m',x=some (.cells cs m)∧y=some (.cells cs m')∧m≠.dead∧m'≠.dead∧m≠.fixed∧m'≠.fixed
theorem Like.refl {x:Option SObj}:Like x x:=.inl rfl
theorem Like.symm {x y:Option SObj} (h:Like x y):Like y x:=by
 rcases h with rfl | ⟨cs,m,m',a,b,c,d,e,f⟩
 ·exact .inl rfl
 ·exact .inr ⟨cs,m',m,b,a,d,c,f,e⟩
theorem Like.trans {x y z:Option SObj} (h:Like x y) (k:Like y z):Like x z:=by
 rcases h with rfl | ⟨cs,m,m',a,b,c,d,e,f⟩
 ·exact k
 ·rcases k with rfl | ⟨cs2,m2,m2',a2,b2,c2,d2,e2,f2⟩
  ·exact .inr ⟨cs,m,m',a,b,c,d,e,f⟩
  ·rw [b] at a2;cases a2
   exact .inr ⟨cs,m,m2',a,b2,c,d2,e,f2⟩
theorem Like.kept {x y:Option SObj} (h:Like x y) {ob:SObj} (e:x=some ob):Kept ob y:=by
 rcases h with rfl | ⟨cs,m,m',a,b,c,d,_,_⟩
 ·exact .same e
 ·rw [a] at e;cases e
  exact .inr ⟨m',b,d,λ h=>by contradiction⟩
structure Low (h h':H):Prop where
 low:h'.low≤h.low
 next:h.next≤h'.next
 keeps:∀ id,id < h'.low→id < h.next→Like (h.get id) (h'.get id)
theorem Low.refl {h:H}:Low h h:=⟨Nat.le_refl _,Nat.le_refl _,λ _ _ _=>.refl⟩
theorem Low.trans {a b c:H} (h:Low a b) (k:Low b c):Low a c:=
 ⟨Nat.le_trans k.low h.low,Nat.le_trans h.next k.next,λ id h1 h2=>(h.keeps id (Nat.lt_of_lt_of_le h1 k.low) h2).trans (k.keeps id h1 (Nat.lt_of_lt_of_le h2 h.next))⟩
def Reach (g:Nat→Option SObj) (p:Option Nat) (k:Nat):Prop:=∃ p0,p=some p0∧(∃ cs q,g p0=some (.cells cs (.stale q)))∧(k=p0∨Anc g p0 k)
theorem anc_reach {i k:Nat} {cs:List SV} {m:Mode} (hg:g i=some (.cells cs m)):Anc g i k ↔ Reach g m.par k:=by
 constructor
 ·intro h
  cases h with
  | one a b c=>rw [hg] at a;cases a;exact ⟨_,b,⟨_,_,c⟩,.inl rfl⟩
  | more a b c d=>rw [hg] at a;cases a;exact ⟨_,b,⟨_,_,c⟩,.inr d⟩
 ·rintro ⟨p0,hp,⟨cs',q,h0⟩,rfl | h⟩
  ·exact .one hg hp h0
  ·exact .more hg hp h0 h
theorem Tied.put {h:H} {D:Nat→Prop} {id:Nat} {ob:SObj} (hD:Tied h.get D) (hid:id < h.next) (ho:∀ cs m,ob=.cells cs m→m.par=none):Tied (h.put id ob).get D:=by
 intro i cs m p hi hg hp
 rw [H.get_put _ _ _ _ hid] at hg
 split at hg
 ·cases hg
  rw [ho _ _ rfl] at hp
  simp at hp
 ·exact hD _ _ _ _ hi hg hp
theorem killUp_spec {D:Nat→Prop}:∀ (f:Nat) (h:H) (p:Option Nat) (h':H),killUp f h p=some h'→Tied h.get D→(∀ p0,p=some p0→D p0) →
  h'.next=h.next∧h'.low≤h.low∧∀ k,(Reach h.get p k→h'.get k=some (.cells [] .dead)∧h'.low≤k)∧(¬Reach h.get p k→h'.get k=h.get k)
 | f,h,none,h',e,_,_=>by
  have e:h=h':=by cases f <;> simpa [killUp] using e
  subst e
  exact ⟨rfl,Nat.le_refl _,λ k=>⟨λ⟨p0,hp,_⟩=>by simp at hp,λ _=>rfl⟩⟩
 | 0,h,some id,h',e,_,_=>by simp [killUp] at e
 | f+1,h,some id,h',e,hD,hp=>by
  simp only [killUp] at e
  split at e
  ·rename_i cs par hg
   have hid:=H.get_lt hg
   have hDi:=hp id rfl
   have hsame:∀ k,k≠id→(h.put id (.cells [] .dead)).get k=h.get k:=λ k hk=>by rw [H.get_put _ _ _ _ hid,if_neg hk]
   have hpar:∀ p0,par=some p0→p0 < id∧D p0:=λ p0 h0=>hD _ _ _ _ hDi hg h0
   obtain ⟨h1,h2,h3⟩:=killUp_spec f (h.put id (.cells [] .dead)) par h' e (hD.put hid λ _ _ h=>by cases h;rfl) λ p0 h0=>(hpar p0 h0).2
   have hreach:∀ k,Reach (h.put id (.cells [] .dead)).get par k ↔ Anc h.get id k:=by
    intro k
    rw [anc_reach hg]
    constructor
    ·rintro ⟨p0,h0,⟨cs',q,hp0⟩,hk⟩
     obtain ⟨hlt,hDp⟩:=hpar p0 h0
     refine ⟨p0,h0,⟨cs',q,by rw [← hsame p0 (by omega)];exact hp0⟩,hk.imp_right λ ha=>?_⟩
     have hT:=hD.put (id:=id) (ob:=.cells [] .dead) hid λ _ _ h=>by cases h;rfl
     refine ha.keep (λ cs m p h1 h2=>⟨cs,m,by rw [← hsame p0 (by omega)];exact h1,h2⟩) λ p cs q hA _ hg=>(hsame p ?_).symm
     have:=(hA.tied hT hDp).1
     omega
    ·rintro ⟨p0,h0,⟨cs',q,hp0⟩,hk⟩
     obtain ⟨hlt,hDp⟩:=hpar p0 h0
     refine ⟨p0,h0,⟨cs',q,by rw [hsame p0 (by omega)];exact hp0⟩,hk.imp_right λ ha=>?_⟩
     refine ha.keep (λ cs m p h1 h2=>⟨cs,m,by rw [hsame p0 (by omega)];exact h1,h2⟩) λ p cs q hA _ hg=>hsame p ?_
     have:=(hA.tied hD hDp).1
     omega
   have hlow:h'.low≤min h.low id:=h2
   refine ⟨h1,Nat.le_trans hlow (Nat.min_le_left _ _),λ k=>⟨?_,?_⟩⟩
   ·rintro ⟨p0,h0,hst,hk⟩
    cases h0
    rcases hk with rfl | hk
    ·have hn:¬Reach (h.put k (.cells [] .dead)).get par k:=λ hr=>by
      have:=((hreach k).1 hr).tied hD hDi
      omega
     exact ⟨by rw [(h3 k).2 hn,H.get_put _ _ _ _ hid,if_pos rfl],by omega⟩
    ·exact (h3 k).1 ((hreach k).2 hk)
   ·intro hn
    have hk:k≠id:=λ e=>hn ⟨id,rfl,⟨_,_,hg⟩,.inl e⟩
    rw [(h3 k).2 (λ hr=>hn ⟨id,rfl,⟨_,_,hg⟩,.inr ((hreach k).1 hr)⟩),hsame k hk]
  ·rename_i cs hg
   simp only [Option.some.injEq] at e
   subst e
   refine ⟨rfl,Nat.le_refl _,λ k=>⟨?_,λ _=>rfl⟩⟩
   rintro ⟨p0,h0,⟨cs',q,hst⟩,_⟩
   cases h0
   rw [hg] at hst
   simp at hst
  ·simp at e
structure Wrote (g g':Nat→Option SObj) (id:Nat) (cs cs':List SV):Prop where
 here:∃ m m',g id=some (.cells cs m)∧g' id=some (.cells cs' m')∧(m=.fixed∧m'=.fixed∨(∃ p,m=.grown p)∧m'=.grown none)
 killed:∀ k,Anc g id k→g' k=some (.cells [] .dead)
 other:∀ k,k≠id→¬Anc g id k→g' k=g k
theorem storeCells_wrote {h h':H} {id off b o s:Nat} {vs:List SV} (hs:Sim B ι h.get w) (hi:ι id=some (b,o,s)) (h0:storeCellsS h id off vs=some h') :
  ∃ cs,off+vs.length≤cs.length∧Wrote h.get h'.get id cs (cs.take off++(vs++cs.drop (off+vs.length)))∧h'.next=h.next∧Low h h':=by
 unfold storeCellsS at h0
 split at h0
 ·rename_i cs m hg
  split at h0
  ·rename_i hl
   refine ⟨cs,hl,?_⟩
   have hid:=H.get_lt hg
   split at h0
   ·simp only [Option.some.injEq] at h0
    subst h0
    have hp:∀ ob k,(h.put id ob).get k=if k=id then some ob else h.get k:=λ ob k=>H.get_put _ _ _ _ hid
    refine ⟨⟨⟨_,_,hg,by rw [hp,if_pos rfl],.inl ⟨rfl,rfl⟩⟩,λ k ha=>absurd ha (not_anc_fixed hg),λ k hk _=>by rw [hp,if_neg hk]⟩,rfl,Nat.min_le_left _ _,Nat.le_refl _,λ k hlt _=>?_⟩
    have hlt:k < min h.low id:=hlt
    rw [hp,if_neg (by omega)]
    exact .refl
   ·rename_i par
    split at h0
    ·rename_i h1 hk
     simp only [Option.some.injEq] at h0
     subst h0
     obtain ⟨hn,hlow,hkk⟩:=killUp_spec (D:=λ i=>ι i≠none) _ _ _ _ hk hs.tied (λ p0 e=>by
      subst e
      exact (hs.par _ _ _ _ _ hi hg rfl).1)
     have hanc:∀ k,Anc h.get id k ↔ Reach h.get par k:=λ k=>anc_reach hg
     have hid1:id < h1.next:=by omega
     have hp:∀ ob k,(h1.put id ob).get k=if k=id then some ob else h1.get k:=λ ob k=>H.get_put _ _ _ _ hid1
     have hne:∀ k,Anc h.get id k→k≠id:=λ k ha e=>by
      have:=(ha.tied hs.tied (by rw [hi];simp)).1
      omega
     refine ⟨⟨⟨_,_,hg,by rw [hp,if_pos rfl],.inr ⟨⟨_,rfl⟩,rfl⟩⟩,λ k ha=>?_,λ k hk' ha=>?_⟩,hn,?_,?_,λ k hlt _=>?_⟩
     ·rw [hp,if_neg (hne k ha)]
      exact ((hkk k).1 ((hanc k).1 ha)).1
     ·rw [hp,if_neg hk']
      exact (hkk k).2 λ hr=>ha ((hanc k).2 hr)
     ·exact Nat.le_trans (Nat.min_le_left _ _) hlow
     ·show h.next≤h1.next
      omega
     ·have hlt:k < min h1.low id:=hlt
      rw [hp,if_neg (by omega)]
      by_cases hr:Reach h.get par k
      ·have:=((hkk k).1 hr).2
       omega
      ·rw [(hkk k).2 hr];exact .refl
    ·simp at h0
   ·simp at h0
  ·simp at h0
 ·simp at h0
theorem cells_real {id b o s:Nat} {cs:List SV} {m:Mode} (hs:Sim B ι g w) (hi:ι id=some (b,o,s)) (hg:g id=some (.cells cs m)) (hm:m≠.dead):CRel ι cs m b o s w:=by
 obtain ⟨ob,hg',ho,_,_⟩:=hs.obj id b o s hi
 rw [hg] at hg';cases hg'
 rcases ho with hd | h
 ·cases m <;> simp [SObj.isDead] at hd hm
 ·exact h
theorem Sim.alone (hs:Sim B ι g w) {id k b o s ok sk:Nat} {cs:List SV} {m:Mode} {ob:SObj} (hi:ι id=some (b,o,s)) (hg:g id=some (.cells cs m)) (hm:m=.fixed∨∃ p,m=.grown p)
  (hne:k≠id) (hk:ι k=some (b,ok,sk)) (hgk:g k=some ob) (hd:¬ob.isDead):Anc g id k∧ok+lenOf (g k)≤o+cs.length:=by
 have hnd:¬(SObj.cells cs m).isDead:=by rcases hm with rfl | ⟨p,rfl⟩ <;> simp [SObj.isDead]
 rcases hs.sep id k o ok b b s sk _ _ (Ne.symm hne) hi hk rfl hg hgk hnd hd with ⟨he,_⟩ | ⟨h,hl⟩ | ⟨h,_⟩
 ·rcases hm with rfl | ⟨p,rfl⟩ <;> simp [SObj.isExt] at he
 ·exact ⟨h,by rw [hg] at hl;exact hl⟩
 ·obtain ⟨cs',q,h'⟩:=h.stale
  rw [hg] at h'
  rcases hm with rfl | ⟨p,rfl⟩ <;> simp at h'
theorem Sim.write (hs:Sim B ι g w) {id b o s:Nat} {cs cs':List SV} {rc rc':Array Value} {el:TypeId} {fz:Nat × Nat} (hi:ι id=some (b,o,s)) (hw:Wrote g g' id cs cs') (hl:cs'.length=cs.length)
  (hh:w.heap[b]?=some (.cells rc el fz)) (hsz:rc'.size=rc.size) (hr:LRel ι cs' ((rc'.toList.drop o).take cs'.length)) (ha:cs'.all SV.isCell=true):Sim B ι g' (putBlk w b (.cells rc' el fz)):=by
 obtain ⟨m,m',hg,hg',hmm⟩:=hw.here
 have hm:m=.fixed∨∃ p,m=.grown p:=hmm.imp (·.1) (·.1)
 have hm':m'=.fixed∨∃ p,m'=.grown p:=hmm.imp (·.2) λ h=>⟨none,h.2⟩
 have hmd:m≠.dead:=by rcases hm with rfl | ⟨p,rfl⟩ <;> simp
 have hmp:m'.par=none:=by rcases hmm with ⟨_,rfl⟩ | ⟨_,rfl⟩ <;> rfl
 have hb:b < w.heap.size:=(Array.getElem?_eq_some_iff.1 hh).1
 obtain ⟨rc0,el0,fz0,h1,h2,h3,h4,h5,h6,h7⟩:=cells_real hs hi hg hmd
 rw [hh] at h1;cases h1
 have split_k:∀ k,k≠id→(Anc g id k∧g' k=some (.cells [] .dead))∨(¬Anc g id k∧g' k=g k):=λ k hk=>by
  by_cases hA:Anc g id k
  ·exact .inl ⟨hA,hw.killed k hA⟩
  ·exact .inr ⟨hA,hw.other k hk hA⟩
 refine ⟨λ k bk ok sk hk=>?_,λ k x p ck mk hk hgk hp=>?_,λ i j oi oj bi bj si sj obi obj hne hi' hj' hb' hgi hgj hdi hdj=>?_⟩
 ·by_cases hkid:k=id
  ·subst hkid
   rw [hi] at hk;cases hk
   refine ⟨_,hg',.inr ⟨rc',el,fz,putBlk_same hb,by omega,by omega,hr,ha,?_,?_⟩,by rw [putBlk_size];exact hb,λ _=>?_⟩
   ·intro _
    exact h6 (by rcases hm with rfl | ⟨p,rfl⟩ <;> simp)
   ·intro hf
    rcases hmm with ⟨rfl,_⟩ | ⟨_,rfl⟩
    ·obtain ⟨a1,a2,a3⟩:=h7 rfl
     exact ⟨a1,by omega,a3⟩
    ·simp at hf
   ·obtain ⟨ob,hgo,_,_,hB⟩:=hs.obj _ _ _ _ hi
    rw [hg] at hgo;cases hgo
    exact hB (by rcases hm with rfl | ⟨p,rfl⟩ <;> simp [SObj.isExt])
  ·obtain ⟨ob,hgo,hor,hbk,hB⟩:=hs.obj _ _ _ _ hk
   rcases split_k k hkid with ⟨hA,hgk⟩ | ⟨hA,hgk⟩
   ·refine ⟨_,hgk,.inl trivial,by rw [putBlk_size];exact hbk,λ _=>hB ?_⟩
    obtain ⟨cs1,q,hst⟩:=hA.stale
    rw [hgo] at hst;cases hst
    simp [SObj.isExt]
   ·refine ⟨ob,hgk.trans hgo,?_,by rw [putBlk_size];exact hbk,hB⟩
    by_cases hd:ob.isDead
    ·exact .inl hd
    ·have hbb:bk≠b:=λ e=>by
      subst e
      exact hA (hs.alone hi hg hm hkid hk hgo hd).1
     exact hor.mono (Inj.le_refl _) (putBlk_other hbb)
 ·by_cases hkid:k=id
  ·subst hkid
   rw [hg'] at hgk;cases hgk
   rw [hmp] at hp;simp at hp
  ·rcases split_k k hkid with ⟨hA,hgk'⟩ | ⟨hA,hgk'⟩
   ·rw [hgk'] at hgk;cases hgk;simp [Mode.par] at hp
   ·rw [hgk'] at hgk
    exact hs.par _ _ _ _ _ hk hgk hp
 ·-- two that share
  have dead_of:∀ k ob,k≠id→g' k=some ob→¬ob.isDead→¬Anc g id k∧g' k=g k:=λ k ob hk hgk hd=>by
   rcases split_k k hk with ⟨hA,h⟩ | h
   ·rw [h] at hgk;cases hgk;exact absurd trivial hd
   ·exact h
  by_cases e1:i=id
  ·subst e1
   rw [hi] at hi';cases hi'
   obtain ⟨hA,hgj'⟩:=dead_of j obj (Ne.symm hne) hgj hdj
   subst hb'
   exact absurd (hs.alone hi hg hm (Ne.symm hne) hj' (hgj' ▸ hgj) hdj).1 hA
  ·by_cases e2:j=id
   ·subst e2
    rw [hi] at hj';cases hj'
    obtain ⟨hA,hgi'⟩:=dead_of i obi hne hgi hdi
    subst hb'
    exact absurd (hs.alone hi hg hm hne hi' (hgi' ▸ hgi) hdi).1 hA
   ·obtain ⟨hAi,hgi'⟩:=dead_of i obi e1 hgi hdi
    obtain ⟨hAj,hgj'⟩:=dead_of j obj e2 hgj hdj
    have up:∀ i j,g' i=g i→g' j=g j→¬Anc g id j→∀ a b,Above g i j a b→Above g' i j a b:=λ i j h1 h2 hj a b ⟨hA,hL⟩=>by
     refine ⟨hA.keep (λ cs m p h h'=>⟨cs,m,h1.trans h,h'⟩) λ p cs q hip hpj hst=>?_,by rw [h1,h2];exact hL⟩
     refine hw.other p (λ e=>?_) λ hAp=>hj ?_
     ·subst e;rw [hg] at hst;rcases hm with rfl | ⟨p,rfl⟩ <;> simp at hst
     ·rcases hpj with rfl | hpj
      ·exact hAp
      ·exact hAp.trans hpj
    rcases hs.sep i j oi oj bi bj si sj obi obj hne hi' hj' hb' (hgi' ▸ hgi) (hgj' ▸ hgj) hdi hdj with h | h | h
    ·exact .inl h
    ·exact .inr (.inl (up i j hgi' hgj' hAj _ _ h))
    ·exact .inr (.inr (up j i hgj' hgi' hAi _ _ h))
theorem Wrote.ext (hs:Sim B ι g w) {n id b o s:Nat} {cs cs':List SV} {ob:Obj} (hi:ι id=some (b,o,s)) (hw:Wrote g g' id cs cs'):Ext ι g n w ι g' n (putBlk w b ob):=by
 obtain ⟨m,m',hg,hg',hmm⟩:=hw.here
 have hm:m=.fixed∨∃ p,m=.grown p:=hmm.imp (·.1) (·.1)
 have hnx:¬(SObj.cells cs m).isExt:=by rcases hm with rfl | ⟨p,rfl⟩ <;> simp [SObj.isExt]
 refine ⟨Inj.le_refl _,Nat.le_refl _,λ _ _ h=>.inl h,λ _ _ _=>by omega,rfl,rfl,rfl,by rw [putBlk_size];exact Nat.le_refl _,λ k hk hx=>?_,λ _ _ h h'=>by rw [h] at h';simp at h',
  λ k x ob ob' hk hgk hgk'=>?_,λ k hk hn=>?_⟩
 ·refine putBlk_other λ e=>?_
  subst e
  exact hnx (hx id _ _ hi rfl hg)
 ·by_cases e:k=id
  ·subst e
   rw [hg] at hgk;cases hgk
   rw [hg'] at hgk';cases hgk'
   rcases hmm with ⟨rfl,rfl⟩ | ⟨⟨p,rfl⟩,rfl⟩ <;> simp [SObj.isExt]
  ·by_cases hA:Anc g id k
   ·obtain ⟨cs1,q,hst⟩:=hA.stale
    rw [hgk] at hst;cases hst
    rw [hw.killed k hA] at hgk';cases hgk'
    simp [SObj.isExt]
   ·rw [hw.other k e hA,hgk] at hgk'
    cases hgk';exact Iff.rfl
 ·have e:k≠id:=λ e=>by subst e;rw [hi] at hn;simp at hn
  refine hw.other k e λ hA=>?_
  have:=(hA.tied hs.tied (by rw [hi];simp)).2
  exact this hn
theorem slice_lay {rc us:List Value} {o off n:Nat} (h:o+n≤rc.length) (h':off+us.length≤n) :
  ((lay rc (o+off) us).drop o).take n=(((rc.drop o).take n).take off)++(us++((rc.drop o).take n).drop (off+us.length)):=by
 apply List.ext_getElem?
 intro j
 have hR:((rc.drop o).take n).length=n:=by simp;omega
 have:=get_lay (rc:=(rc.drop o).take n) (us:=us) (k:=off) (j:=j) (by omega)
 unfold lay at this
 rw [this]
 by_cases hj:j < n
 ·rw [List.getElem?_take_of_lt hj,List.getElem?_drop,get_lay (by omega)]
  have e:((rc.drop o).take n)[j]?=rc[o+j]?:=by rw [List.getElem?_take_of_lt hj,List.getElem?_drop]
  rw [e]
  by_cases h1:j < off
  ·rw [if_pos (by omega),if_pos h1]
  ·rw [if_neg (by omega),if_neg h1]
   by_cases h2:j < off+us.length
   ·rw [if_pos (by omega),if_pos h2];congr 1;omega
   ·rw [if_neg (by omega),if_neg h2]
 ·rw [List.getElem?_eq_none (by simp;omega),if_neg (by omega),if_neg (by omega),List.getElem?_eq_none (by omega)]
theorem store_sim {h h':H} {id off b o s:Nat} {vs:List SV} {us:List Value} (hs:Sim B ι h.get w) (hi:ι id=some (b,o,s)) (h0:storeCellsS h id off vs=some h') (hv:LRel ι vs us) (ha:vs.all SV.isCell=true) :
  ∃ w',(storeCells ⟨b,o+off,none⟩ us).run P w=.ok () w'∧Sim B ι h'.get w'∧Ext ι h.get h.next w ι h'.get h'.next w'∧Low h h'∧h'.next=h.next:=by
 obtain ⟨cs,hl,hw,hn,hlow⟩:=storeCells_wrote hs hi h0
 obtain ⟨m,m',hg,hg',hmm⟩:=hw.here
 have hm:m=.fixed∨∃ p,m=.grown p:=hmm.imp (·.1) (·.1)
 obtain ⟨rc,el,fz,h1,h2,h3,h4,h5,h6,h7⟩:=cells_real hs hi hg (by rcases hm with rfl | ⟨p,rfl⟩ <;> simp)
 have hul:us.length=vs.length:=hv.length
 have hrun:=store_list (P:=P) us (o+off) 0 rc w h1 (by omega) (oneCells_rel hv ha) (by rw [h2];exact h6 (by rcases hm with rfl | ⟨p,rfl⟩ <;> simp))
 have hlen:(cs.take off++(vs++cs.drop (off+vs.length))).length=cs.length:=by simp;omega
 refine ⟨_,hrun,hs.write hi hw hlen h1 (by rw [List.size_toArray,Nat.add_zero,length_lay (by simp;omega)];simp) ?_ ?_,by rw [hn];exact hw.ext hs hi,hlow,hn⟩
 ·rw [hlen,Nat.add_zero]
  show LRel ι _ (((lay rc.toList (o+off) us).drop o).take cs.length)
  rw [slice_lay (by simp;omega) (by omega),hul]
  exact (h4.take off).append (hv.append (h4.drop _))
 ·simp only [List.all_append,Bool.and_eq_true]
  exact ⟨all_take h5,ha,all_drop h5⟩
end
end Go.Sh
end
section
/- The shadow machine: new things, maps written, rows grown. -/
namespace Go.Sh
section
variable {P:Program} {w:World} {ι:Inj} {B:Nat} {g g':Nat→Option SObj}
theorem Sim.size (hs:Sim B ι g w) {id b o s:Nat} (hi:ι id=some (b,o,s)):b < w.heap.size:=by
 obtain ⟨_,_,_,h,_⟩:=hs.obj _ _ _ _ hi
 exact h
theorem Sim.new (hs:Sim B ι g w) {w':World} {id s:Nat} {ob:SObj} (hB:B≤w.heap.size) (hold:∀ k,k < w.heap.size→w'.heap[k]?=w.heap[k]?) (hsz:w'.heap.size=w.heap.size+1)
  (hi:ι id=none) (hg':g' id=some ob) (hother:∀ k,k≠id→g' k=g k) (hst:∀ cs q,g id≠some (.cells cs (.stale q)))
  (hpar:∀ cs m p,ob=.cells cs m→m.par=some p→ι p≠none∧p < id) (hor:ORel (upd ι id (w.heap.size,0,s)) ob w.heap.size 0 s w'):Sim B (upd ι id (w.heap.size,0,s)) g' w':=by
 have hle:ι.le (upd ι id (w.heap.size,0,s)):=upd_le hi
 have old:∀ k x,k≠id→upd ι id (w.heap.size,0,s) k=some x→ι k=some x:=λ k x hk h=>by simpa [upd,hk] using h
 have here:∀ x,upd ι id (w.heap.size,0,s) id=some x→x=(w.heap.size,0,s):=λ x h=>by simpa using h.symm
 refine ⟨λ k b o s' hk=>?_,λ k x p cs m hk hgk hp=>?_,λ i j oi oj bi bj si sj obi obj hne hi' hj' hb' hgi hgj hdi hdj=>?_⟩
 ·by_cases e:k=id
  ·subst e
   have:=here _ hk;cases this
   exact ⟨ob,hg',hor,by omega,λ _=>hB⟩
  ·have hk':=old k _ e hk
   obtain ⟨ob1,h1,h2,h3,h4⟩:=hs.obj _ _ _ _ hk'
   exact ⟨ob1,(hother k e).trans h1,h2.mono hle (hold b h3),by omega,h4⟩
 ·by_cases e:k=id
  ·subst e
   rw [hg'] at hgk;cases hgk
   obtain ⟨h1,h2⟩:=hpar _ _ _ rfl hp
   exact ⟨λ h=>h1 (by
    have:p≠k:=by omega
    simpa [upd,this] using h),h2⟩
  ·have hk':=old k _ e hk
   rw [hother k e] at hgk
   obtain ⟨h1,h2⟩:=hs.par _ _ _ _ _ hk' hgk hp
   refine ⟨λ h=>?_,h2⟩
   cases e':ι p with
   | none=>exact h1 e'
   | some y=>rw [hle _ _ e'] at h;simp at h
 ·by_cases e1:i=id
  ·subst e1
   have:=here _ hi';cases this
   have hj:=old j _ (Ne.symm hne) hj'
   have:=hs.size hj
   omega
  ·by_cases e2:j=id
   ·subst e2
    have:=here _ hj';cases this
    have hj:=old i _ hne hi'
    have:=hs.size hj
    omega
   ·have hi0:=old i _ e1 hi'
    have hj0:=old j _ e2 hj'
    rw [hother i e1] at hgi
    rw [hother j e2] at hgj
    have up:∀ i j a b,i≠id→j≠id→Above g i j a b→Above g' i j a b:=λ i j a b h1 h2 ⟨hA,hL⟩=>by
     refine ⟨hA.keep (λ cs m p h h'=>⟨cs,m,(hother i h1).trans h,h'⟩) λ p cs q _ _ hg=>hother p λ e=>?_,by rw [hother i h1,hother j h2];exact hL⟩
     subst e;exact hst _ _ hg
    rcases hs.sep i j oi oj bi bj si sj obi obj hne hi0 hj0 hb' hgi hgj hdi hdj with h | h | h
    ·exact .inl h
    ·exact .inr (.inl (up i j _ _ e1 e2 h))
    ·exact .inr (.inr (up j i _ _ e2 e1 h))
theorem new_ext (hs:Sim B ι g w) {w':World} {id s:Nat} {ob:SObj} (hi:ι id=none) (hf:Fresh ι id) (hold:∀ k,k < w.heap.size→w'.heap[k]?=w.heap[k]?) (hsz:w'.heap.size=w.heap.size+1)
  (ho:w'.os=w.os) (ht:w'.tape=w.tape) (hu:w'.output=w.output) (hext:∀ k ob ob',k≠id→g k=some ob→g' k=some ob'→(ob.isExt ↔ ob'.isExt)) (hgh:∀ k,k < id→ι k=none→g' k=g k) :
  Ext ι g id w (upd ι id (w.heap.size,0,s)) g' (id+1) w':=by
 refine ⟨upd_le hi,by omega,λ k x h=>?_,λ k h1 h2=>?_,ho,ht,hu,by omega,λ k hk _=>hold k hk,λ k x h h'=>?_,λ k x ob ob' hk h h'=>?_,hgh⟩
 ·by_cases e:k=id
  ·exact .inr (by omega)
  ·exact .inl (by simpa [upd,e] using h)
 ·have e:k=id:=by omega
  subst e;simp
 ·by_cases e:k=id
  ·subst e;simp at h';subst h';exact .inl (Nat.le_refl _)
  ·rw [show upd ι id (w.heap.size,0,s) k=ι k by simp [upd,e],h] at h';simp at h'
 ·have e:k≠id:=λ e=>by subst e;rw [hi] at hk;simp at hk
  exact hext k ob ob' e h h'
theorem Sim.mapPut (hs:Sim B ι g w) {id b o s c c':Nat} {es es':List (SV × SV × Nat)} {ys ys':Array MapEntry} (hi:ι id=some (b,o,s)) (hg:g id=some (.map es c)) (hg':g' id=some (.map es' c'))
  (hother:∀ k,k≠id→g' k=g k) (hh:w.heap[b]?=some (.map ys c)) (hr:ERel ι es' ys'.toList):Sim B ι g' (putBlk w b (.map ys' c')):=by
 have hb:b < w.heap.size:=(Array.getElem?_eq_some_iff.1 hh).1
 have noanc:∀ k,¬Anc g id k:=λ k h=>by obtain ⟨_,_,_,h,_⟩:=h.from;rw [hg] at h;simp at h
 have noanc':∀ k,¬Anc g k id:=λ k h=>by obtain ⟨_,_,h⟩:=h.stale;rw [hg] at h;simp at h
 refine ⟨λ k bk ok sk hk=>?_,λ k x p cs m hk hgk hp=>?_,λ i j oi oj bi bj si sj obi obj hne hi' hj' hb' hgi hgj hdi hdj=>?_⟩
 ·by_cases e:k=id
  ·subst e
   rw [hi] at hk;cases hk
   obtain ⟨ob,h1,_,_,h4⟩:=hs.obj _ _ _ _ hi
   rw [hg] at h1;cases h1
   exact ⟨_,hg',.inr ⟨ys',putBlk_same hb,hr⟩,by rw [putBlk_size];exact hb,λ _=>h4 (by simp [SObj.isExt])⟩
  ·obtain ⟨ob,h1,h2,h3,h4⟩:=hs.obj _ _ _ _ hk
   refine ⟨ob,(hother k e).trans h1,?_,by rw [putBlk_size];exact h3,h4⟩
   by_cases hd:ob.isDead
   ·exact .inl hd
   ·refine h2.mono (Inj.le_refl _) (putBlk_other λ eb=>?_)
    subst eb
    rcases hs.sep id k o ok bk bk s sk _ _ (Ne.symm e) hi hk rfl hg h1 (by simp [SObj.isDead]) hd with ⟨he,_⟩ | h | h
    ·simp [SObj.isExt] at he
    ·exact noanc _ h.1
    ·exact noanc' _ h.1
 ·by_cases e:k=id
  ·subst e;rw [hg'] at hgk;simp at hgk
  ·rw [hother k e] at hgk;exact hs.par _ _ _ _ _ hk hgk hp
 ·have ob_of:∀ k ob,g' k=some ob→¬ob.isDead→∃ ob0,g k=some ob0∧¬ob0.isDead∧(ob0.isExt ↔ ob.isExt):=λ k ob h hd=>by
   by_cases e:k=id
   ·subst e;rw [hg'] at h;cases h;exact ⟨_,hg,by simp [SObj.isDead],by simp [SObj.isExt]⟩
   ·rw [hother k e] at h;exact ⟨ob,h,hd,Iff.rfl⟩
  have up:∀ i j a b,Above g i j a b→Above g' i j a b:=λ i j a b ⟨hA,hL⟩=>by
   have h1:i≠id:=λ e=>by subst e;exact noanc _ hA
   have h2:j≠id:=λ e=>by subst e;exact noanc' _ hA
   refine ⟨hA.keep (λ cs m p h h'=>⟨cs,m,(hother i h1).trans h,h'⟩) λ p cs q _ _ hgp=>hother p λ e=>?_,by rw [hother i h1,hother j h2];exact hL⟩
   subst e;rw [hg] at hgp;simp at hgp
  obtain ⟨o1,a1,a2,a3⟩:=ob_of i obi hgi hdi
  obtain ⟨o2,b1,b2,b3⟩:=ob_of j obj hgj hdj
  rcases hs.sep i j oi oj bi bj si sj o1 o2 hne hi' hj' hb' a1 b1 a2 b2 with h | h | h
  ·exact .inl ⟨a3.1 h.1,b3.1 h.2⟩
  ·exact .inr (.inl (up _ _ _ _ h))
  ·exact .inr (.inr (up _ _ _ _ h))
theorem map_sim {h:H} {id b o s c c':Nat} {es es':List (SV × SV × Nat)} {ys ys':Array MapEntry} (hs:Sim B ι h.get w) (hi:ι id=some (b,o,s)) (hg:h.get id=some (.map es c)) (hh:w.heap[b]?=some (.map ys c)) (hr:ERel ι es' ys'.toList) :
  Sim B ι (h.put id (.map es' c')).get (putBlk w b (.map ys' c'))∧Ext ι h.get h.next w ι (h.put id (.map es' c')).get (h.put id (.map es' c')).next (putBlk w b (.map ys' c'))∧Low h (h.put id (.map es' c')):=by
 have hid:=H.get_lt hg
 have hp:∀ k,(h.put id (.map es' c')).get k=if k=id then some (.map es' c') else h.get k:=λ k=>H.get_put _ _ _ _ hid
 refine ⟨hs.mapPut hi hg (by rw [hp,if_pos rfl]) (λ k hk=>by rw [hp,if_neg hk]) hh hr,?_,Nat.min_le_left _ _,Nat.le_refl _,λ k hlt _=>?_⟩
 ·refine ⟨Inj.le_refl _,Nat.le_refl _,λ _ _ h=>.inl h,λ _ _ _=>by simp at *;omega,rfl,rfl,rfl,by rw [putBlk_size];exact Nat.le_refl _,λ k hk hx=>putBlk_other λ e=>?_,λ _ _ h h'=>by rw [h] at h';simp at h',
   λ k x ob ob' hk hgk hgk'=>?_,λ k hk hn=>?_⟩
  ·subst e;have:=hx id _ _ hi rfl hg;simp [SObj.isExt] at this
  ·rw [hp] at hgk'
   by_cases e:k=id
   ·subst e;rw [hg] at hgk;cases hgk;rw [if_pos rfl] at hgk';cases hgk';simp [SObj.isExt]
   ·rw [if_neg e,hgk] at hgk';cases hgk';exact Iff.rfl
  ·rw [hp,if_neg];intro e;subst e;rw [hi] at hn;simp at hn
 ·have hlt:k < min h.low id:=hlt
  rw [hp,if_neg (by omega)]
  exact .refl
end
end Go.Sh
end
section
/- The shadow machine: maps and cells written, and what the operations that do so give. -/
namespace Go.Sh
section
class Held where
 I:World→Prop
 nb:Nat
 keep:∀ w w':World,(∀ b,b < nb→w'.heap[b]?=w.heap[b]?)→I w→I w'
def HeldAt [Held] (B:Nat) (w:World):Prop:=Held.nb≤B∧Held.I w
variable [Held] {P:Program} {w:World} {ι:Inj} {B:Nat} {h h':H} {t:T} {ρ:Operand→Value}
structure St (B:Nat) (ι:Inj) (h:H) (w:World):Prop where
 sim:Sim B ι h.get w
 fresh:Fresh ι h.next
 base:B≤w.heap.size
 held:HeldAt B w
structure Moves (B:Nat) (ι:Inj) (h:H) (w:World) (ι':Inj) (h':H) (w':World):Prop where
 st:St B ι' h' w'
 ext:Ext ι h.get h.next w ι' h'.get h'.next w'
 low:Low h h'
theorem St.heldBy (hs:St B ι h w) {w':World} (hf:∀ b,b < w.heap.size→(∀ id x ob,ι id=some x→x.1=b→h.get id=some ob→ob.isExt)→w'.heap[b]?=w.heap[b]?):HeldAt B w':=
 ⟨hs.held.1,Held.keep _ _ (λ b hb=>hf b (Nat.lt_of_lt_of_le hb (Nat.le_trans hs.held.1 hs.base)) λ id x ob hi hx hg=>by
  obtain ⟨b',o,s⟩:=x
  obtain ⟨ob',h1,_,_,h4⟩:=hs.sim.obj _ _ _ _ hi
  rw [hg] at h1;cases h1
  cases ob with
  | cells cs m=>
   cases m <;> first
    | trivial
    | (have h5:=h4 (by simp [SObj.isExt]);have h6:b'=b:=hx;have h7:=hs.held.1;omega)
  | map es c=>have h5:=h4 (by simp [SObj.isExt]);have h6:b'=b:=hx;have h7:=hs.held.1;omega) hs.held.2⟩
theorem Moves.of (hs:St B ι h w) {ι':Inj} {w':World} (sim:Sim B ι' h'.get w') (fresh:Fresh ι' h'.next) (base:B≤w'.heap.size) (ext:Ext ι h.get h.next w ι' h'.get h'.next w') (low:Low h h'):Moves B ι h w ι' h' w':=
 ⟨⟨sim,fresh,base,hs.heldBy ext.frame⟩,ext,low⟩
def MOk (B:Nat) (ι:Inj) (h:H) (w:World) (v:SV) (h':H) (res:Result Next):Prop:=
 ∃ n v' w' ι',res=.ok n w'∧(n=.value v'∨n=.skip∧v'=undef)∧VRel ι' v v'∧Moves B ι h w ι' h' w'
theorem mVal_some {x:Option H} {v:SV} {h':H} (e:mVal x=some (.val v h')):x=some h'∧v=.tuple []:=by
 cases x with
 | none=>simp [mVal] at e
 | some y=>simp only [mVal,Option.some.injEq,MR.val.injEq] at e;exact ⟨by rw [e.2],e.1.symm⟩
theorem mPair_some {x:Option (SV × H)} {v:SV} {h':H} (e:mPair x=some (.val v h')):x=some (v,h'):=by
 cases x with
 | none=>simp [mPair] at e
 | some y=>obtain ⟨a,b⟩:=y;simp only [mPair,Option.some.injEq,MR.val.injEq] at e;rw [e.1,e.2]
theorem undef_rel:VRel ι (.tuple []) undef:=⟨#[],rfl,rfl⟩
theorem St.store (hs:St B ι h w) {id off b o s:Nat} {vs:List SV} {us:List Value} (hi:ι id=some (b,o,s)) (h0:storeCellsS h id off vs=some h') (hv:LRel ι vs us) (ha:vs.all SV.isCell=true) :
  ∃ w',(storeCells ⟨b,o+off,none⟩ us).run P w=.ok () w'∧Moves B ι h w ι h' w':=by
 obtain ⟨w',h1,h2,h3,h4,h5⟩:=store_sim (P:=P) hs.sim hi h0 hv ha
 exact ⟨w',h1,.of hs h2 (by rw [h5];exact hs.fresh) (Nat.le_trans hs.base h3.size) h3 h4⟩
theorem m_store {ty:TypeId} {a x:Operand} {v:SV} (hs:St B ι h w) (hρ:Ops ι t ρ [a,x]) (e:mStore P h ty (opd t a) (opd t x)=some (.val v h')) :
  MOk B ι h w v h' ((do Instr.storeAt ty (ρ a) (ρ x);Pure.pure Next.skip:Sem Next).run P w):=by
 unfold mStore at e
 split at e
 ·rename_i id off y ha hx
  split at e
  ·rename_i vs i hc hi
   split at e
   ·rename_i hl
    obtain ⟨h0,rfl⟩:=mVal_some e
    obtain ⟨b,o,s,hid,ea⟩:=hρ a (by simp) _ ha
    obtain ⟨hvl,hva⟩:=cells_rel (hρ x (by simp) _ hx) hc
    obtain ⟨w',h1,h2⟩:=hs.store (P:=P) hid h0 hvl hva
    refine ⟨.skip,undef,w',ι,?_,.inr ⟨rfl,rfl⟩,undef_rel,h2⟩
    have hsz:(ρ x).cells.size=i.size:=by have:=hvl.length;simp only [Array.length_toList] at this;omega
    simp [Instr.storeAt,Instr.sureAddr,ea,storeVar,r_size hi,hsz,h1]
   ·simp at e
  ·simp at e
 ·simp at e
theorem sameBits_typed {d:Option TypeDesc} {x y:SV} {u v:Value} (e:eqTyped d x y=some true) (hx:VRel ι x u) (hy:VRel ι y v) (n:Nat):Instr.sameBits n v u=true:=by
 unfold eqTyped at e
 split at e
 ·simp only [Option.some.injEq] at e
  simp only [VRel] at hx hy;subst hx hy
  have:=eq_of_beq e;subst this
  cases n <;> simp [Instr.sameBits]
 ·split at e <;> simp only [Option.some.injEq,reduceCtorEq,decide_eq_true_eq] at e
  rename_i hk
  subst hk;subst e
  simp only [VRel] at hx hy;subst hx hy
  cases n <;> simp [Instr.sameBits]
 ·simp only [Option.some.injEq] at e
  simp only [VRel] at hx hy;subst hx hy
  rw [eqBytes_eq] at e
  have:=eq_of_beq e;subst this
  cases n <;> simp only [Instr.sameBits,beq_toListBytes] <;> simp
 ·simp at e
theorem sameBits_fields (n:Nat):∀ (fs:List Field) (a b:List SV) (us vs:List Value),eqFieldsS P fs a b=some true→LRel ι a us→LRel ι b vs →
  vs.length=us.length∧(vs.zip us).all (λ (x,y)=>Instr.sameBits n x y)=true
 | [],a,b,us,vs,e,ha,hb=>by
  cases a <;> cases b <;> simp only [eqFieldsS,reduceCtorEq] at e
  cases ha;cases hb;simp
 | f::fs,a,b,us,vs,e,ha,hb=>by
  cases a with
  | nil=>simp [eqFieldsS] at e
  | cons x a=>
   cases b with
   | nil=>simp [eqFieldsS] at e
   | cons y b=>
    simp only [eqFieldsS] at e
    obtain ⟨u,us',rfl,hxu,hau⟩:=ha
    obtain ⟨v,vs',rfl,hyv,hbv⟩:=hb
    cases hc:eqTyped (P.underlying f.type) x y with
    | none=>simp [hc] at e
    | some c=>
     cases c with
     | false=>simp [hc] at e
     | true=>
      simp only [hc] at e
      obtain ⟨h1,h2⟩:=sameBits_fields n fs a b us' vs' e hau hbv
      exact ⟨by simp [h1],by simp only [List.zip_cons_cons,List.all_cons,h2,Bool.and_true];exact sameBits_typed hc hxu hyv n⟩
theorem sameBits_key {kt:TypeId} {k k':SV} {u u':Value} (e:eqKey P kt k k'=some true) (hk:VRel ι k u) (hk':VRel ι k' u') (n:Nat):Instr.sameBits (n+1) u' u=true:=by
 unfold eqKey at e
 split at e
 ·rename_i fs a b hu
  obtain ⟨us,rfl,hl,_⟩:=hk
  obtain ⟨vs,rfl,hl',_⟩:=hk'
  obtain ⟨h1,h2⟩:=sameBits_fields (P:=P) n _ _ _ _ _ e hl hl'
  simp only [Array.length_toList] at h1
  simp only [Instr.sameBits,Bool.and_eq_true,beq_iff_eq]
  exact ⟨h1,h2⟩
 ·exact sameBits_typed e hk hk' _
theorem stays_run {kt:TypeId} {k k':SV} {u u':Value} (e:eqKey P kt k k'=some true) (hk:VRel ι k u) (hk':VRel ι k' u'):(Instr.keyThatStays u' u).run P w=.ok u w:=by
 have h:Instr.sameBits 10000 u' u=true:=sameBits_key e hk hk' 9999
 unfold Instr.keyThatStays
 rw [if_pos h]
 rfl
theorem findEntry_key {kt:TypeId} {k v:SV} {j b:Nat}:∀ (es:List (SV × SV × Nat)) (i:Nat),findEntry P kt k es i=some (some (j,v,b))→i≤j∧∃ k',es[j - i]?=some (k',v,b)∧eqKey P kt k k'=some true
 | [],i,e=>by simp [findEntry] at e
 | (k',v',b')::es,i,e=>by
  simp only [findEntry] at e
  cases hc:eqKey P kt k k' with
  | none=>simp [hc] at e
  | some c=>
   cases c with
   | true=>
    simp only [hc,Option.some.injEq,Prod.mk.injEq] at e
    obtain ⟨rfl,rfl,rfl⟩:=e
    exact ⟨Nat.le_refl _,k',by simp,hc⟩
   | false=>
    simp only [hc] at e
    obtain ⟨h1,k2,h2,h3⟩:=findEntry_key es (i+1) e
    refine ⟨by omega,k2,?_,h3⟩
    rw [show j - i=(j - (i+1))+1 from by omega]
    exact h2
theorem ERel.get:∀ {es:List (SV × SV × Nat)} {ys:List MapEntry} {j b:Nat} {k v:SV},ERel ι es ys→es[j]?=some (k,v,b)→∃ y,ys[j]?=some y∧VRel ι k y.key∧VRel ι v y.val∧y.born=b
 | [],_,j,_,_,_,_,h=>by simp at h
 | (_,_,_)::es,_,0,_,_,_,⟨y,r,e,hk,hv,hb,_⟩,h=>by
  subst e
  simp only [List.getElem?_cons_zero,Option.some.injEq,Prod.mk.injEq] at h
  obtain ⟨rfl,rfl,rfl⟩:=h
  exact ⟨y,rfl,hk,hv,hb⟩
 | (_,_,_)::es,_,j+1,_,_,_,⟨y,r,e,_,_,_,l⟩,h=>by
  subst e
  simp only [List.getElem?_cons_succ] at h ⊢
  exact ERel.get l h
theorem ERel.set:∀ {es:List (SV × SV × Nat)} {ys:List MapEntry} (j:Nat) {b:Nat} {k v:SV} {y:MapEntry},ERel ι es ys→VRel ι k y.key→VRel ι v y.val→y.born=b→ERel ι (es.set j (k,v,b)) (ys.set j y)
 | [],_,j,_,_,_,_,h,_,_,_=>by cases h;simp [ERel]
 | (_,_,_)::es,_,0,_,_,_,y,⟨_,r,e,_,_,_,l⟩,hk,hv,hb=>by
  subst e
  exact ⟨y,r,rfl,hk,hv,hb,l⟩
 | (_,_,_)::es,_,j+1,_,_,_,y,⟨y0,r,e,hk0,hv0,hb0,l⟩,hk,hv,hb=>by
  subst e
  exact ⟨y0,r.set j y,by simp,hk0,hv0,hb0,ERel.set j l hk hv hb⟩
theorem ERel.snoc:∀ {es:List (SV × SV × Nat)} {ys:List MapEntry} {b:Nat} {k v:SV} {y:MapEntry},ERel ι es ys→VRel ι k y.key→VRel ι v y.val→y.born=b→ERel ι (es++[(k,v,b)]) (ys++[y])
 | [],_,_,_,_,y,h,hk,hv,hb=>by cases h;exact ⟨y,[],rfl,hk,hv,hb,rfl⟩
 | (_,_,_)::es,_,_,_,_,y,⟨y0,r,e,hk0,hv0,hb0,l⟩,hk,hv,hb=>by
  subst e
  exact ⟨y0,r++[y],rfl,hk0,hv0,hb0,ERel.snoc l hk hv hb⟩
theorem r_getMap {b c:Nat} {ys:Array MapEntry} (e:w.heap[b]?=some (.map ys c)):(getObj b).run P w=.ok (.map ys c) w:=by simp [getObj,Sem.run,e]
theorem r_setMap {b c:Nat} {ob:Obj} {ys:Array MapEntry} (e:w.heap[b]?=some (.map ys c)):(setObj b ob).run P w=.ok () (putBlk w b ob):=by
 simp only [setObj,Sem.run,e,putBlk]
noncomputable def putEnt (h:H) (id:Nat) (es:List (SV × SV × Nat)) (c:Nat) (k v:SV):Option (Nat × SV × Nat)→H
 | some (i,_,b)=>h.put id (.map (es.set i (k,v,b)) c)
 | none=>h.put id (.map (es++[(k,v,c)]) (Nat.succ c))
noncomputable def entEnt (P:Program) (h:H) (id:Nat) (et:TypeId) (es:List (SV × SV × Nat)) (c:Nat) (k:SV):Option (Nat × SV × Nat)→Option (SV × H)
 | some (i,v,b)=>some (.tuple [v,.int .i64 b],h.put id (.map (es.set i (k,v,b)) c))
 | none=>match zeroOf P et with
  | some z=>some (.tuple [z,.int .i64 c],h.put id (.map (es++[(k,z,c)]) (Nat.succ c)))
  | none=>none
theorem mapPut_run {ty kt et:TypeId} {id:Nat} {k v:SV} {m u x:Value} {es:List (SV × SV × Nat)} {c:Nat} (hs:St B ι h w) (hu:P.underlying ty=some (.map kt et)) (hm:VRel ι (.map id) m) (hk:VRel ι k u) (hv:VRel ι v x)
  (hko:keyOk P kt k=true) (hg:h.get id=some (.map es c)) {fr:Option (Nat × SV × Nat)} (hf:findEntry P kt k es 0=some fr)
  (e:h'=putEnt h id es c k v fr) :
  ∃ w',(Instr.mapUpdate ty m u x).run P w=.ok () w'∧Moves B ι h w ι h' w':=by
 obtain ⟨b,o,s,hid,rfl⟩:=hm
 obtain ⟨ys,hh,her⟩:=map_real hs.sim hid hg
 obtain ⟨r',hrun,hfound⟩:=findKey_run (P:=P) (w:=w) hko hk her hf
 have hck:=check_run (P:=P) (w:=w) (e:=false) hko hk
 have mv:∀ es' c' ys',ERel ι es' ys'.toList→h'=h.put id (.map es' c')→Moves B ι h w ι h' (putBlk w b (.map ys' c')):=λ es' c' ys' hr e=>by
  subst e
  obtain ⟨h1,h2,h3⟩:=map_sim (c':=c') hs.sim hid hg hh hr
  exact .of hs h1 hs.fresh (Nat.le_trans hs.base h2.size) h2 h3
 cases fr with
 | none=>
  cases hfound
  refine ⟨_,?_,mv _ _ (ys.push { key:=u,val:=x,born:=c }) ?_ e⟩
  ·simp only [Instr.mapUpdate,Sem.run_bind,r_underlying hu,Result.andThen_ok,r_getMap hh,hck,hrun,r_setMap hh]
  ·rw [Array.toList_push];exact her.snoc hk hv rfl
 | some q=>
  obtain ⟨i,v0,b0⟩:=q
  obtain ⟨en,k',rfl,_,hy,hes,hb0,_⟩:=hfound
  simp only [Nat.sub_zero] at hy hes
  obtain ⟨_,k2,h2,h3⟩:=findEntry_key es 0 hf
  rw [Nat.sub_zero,hes] at h2
  simp only [Option.some.injEq,Prod.mk.injEq,and_true] at h2
  subst h2
  obtain ⟨y,hy',hky,_,hby⟩:=her.get hes
  rw [hy] at hy';cases hy'
  have hy2:ys[i]?=some en:=by rw [← Array.getElem?_toList];exact hy
  have hst:=stays_run (P:=P) (w:=w) h3 hk hky
  refine ⟨_,?_,mv _ _ (ys.modify i λ e=>{ e with key:=u,val:=x }) ?_ e⟩
  ·simp only [Instr.mapUpdate,Sem.run_bind,r_underlying hu,Result.andThen_ok,r_getMap hh,hck,hrun,hy2,Option.map_some,Option.getD_some,hst,r_setMap hh]
  ·have hi:i < ys.size:=(Array.getElem?_eq_some_iff.1 hy2).1
   have:(ys.modify i λ e=>{ e with key:=u,val:=x }).toList=ys.toList.set i { en with key:=u,val:=x }:=by
    apply List.ext_getElem?
    intro j
    rw [Array.getElem?_toList,Array.getElem?_modify,List.getElem?_set]
    by_cases e:i=j
    ·subst e;rw [if_pos rfl,if_pos rfl,if_pos (by simpa using hi),hy2];rfl
    ·simp [e]
   rw [this]
   exact her.set i hk hv hby
theorem m_mapPut {ty:TypeId} {m k x:Operand} {v:SV} (hs:St B ι h w) (hρ:Ops ι t ρ [m,k,x]) (e:mMapPut P h ty (opd t m) (opd t k) (opd t x)=some (.val v h')) :
  MOk B ι h w v h' ((do Instr.mapUpdate ty (ρ m) (ρ k) (ρ x);Pure.pure Next.skip:Sem Next).run P w):=by
 unfold mMapPut at e
 split at e
 ·rename_i m' k' x' em0 ek0 ex0
  obtain ⟨h0,rfl⟩:=mVal_some e
  have hm:=hρ m (by simp) _ em0
  have hk:=hρ k (by simp) _ ek0
  have hx:=hρ x (by simp) _ ex0
  unfold mapPutS at h0
  split at h0
  ·rename_i kt et id hu
   split at h0
   ·rename_i hko
    split at h0
    ·rename_i es c hg
     have fin:∀ fr,findEntry P kt k' es 0=some fr→h'=putEnt h id es c k' x' fr →
       MOk B ι h w (.tuple []) h' ((do Instr.mapUpdate ty (ρ m) (ρ k) (ρ x);Pure.pure Next.skip:Sem Next).run P w):=λ fr hf e=>by
      obtain ⟨w',h1,h2⟩:=mapPut_run hs hu hm hk hx hko hg hf e
      exact ⟨.skip,undef,w',ι,by simp [h1],.inr ⟨rfl,rfl⟩,undef_rel,h2⟩
     split at h0
     ·rename_i hf
      simp only [Option.some.injEq] at h0
      exact fin _ hf h0.symm
     ·rename_i hf
      simp only [Option.some.injEq] at h0
      exact fin _ hf h0.symm
     ·simp at h0
    ·simp at h0
   ·simp at h0
  ·simp at h0
 ·simp at e
theorem mapEntry_run {ty kt et:TypeId} {id:Nat} {k v:SV} {m u:Value} {es:List (SV × SV × Nat)} {c:Nat} (hs:St B ι h w) (hu:P.underlying ty=some (.map kt et)) (hm:VRel ι (.map id) m) (hk:VRel ι k u)
  (hko:keyOk P kt k=true) (hg:h.get id=some (.map es c)) {fr:Option (Nat × SV × Nat)} (hf:findEntry P kt k es 0=some fr)
  (e:entEnt P h id et es c k fr=some (v,h')) :
  ∃ v' w',(Instr.mapEntry ty m u).run P w=.ok v' w'∧VRel ι v v'∧Moves B ι h w ι h' w':=by
 obtain ⟨b,o,s,hid,rfl⟩:=hm
 obtain ⟨ys,hh,her⟩:=map_real hs.sim hid hg
 obtain ⟨r',hrun,hfound⟩:=findKey_run (P:=P) (w:=w) hko hk her hf
 have hck:=check_run (P:=P) (w:=w) (e:=false) hko hk
 have mv:∀ es' c' ys',ERel ι es' ys'.toList→h'=h.put id (.map es' c')→Moves B ι h w ι h' (putBlk w b (.map ys' c')):=λ es' c' ys' hr e=>by
  subst e
  obtain ⟨h1,h2,h3⟩:=map_sim (c':=c') hs.sim hid hg hh hr
  exact .of hs h1 hs.fresh (Nat.le_trans hs.base h2.size) h2 h3
 cases fr with
 | none=>
  cases hfound
  simp only [entEnt] at e
  cases hz:zeroOf P et with
  | none=>simp [hz] at e
  | some z=>
   simp only [hz,Option.some.injEq,Prod.mk.injEq] at e
   obtain ⟨rfl,e⟩:=e
   obtain ⟨ie,zv,hie,hzv,hzr⟩:=zeroOf_some (ι:=ι) hz
   refine ⟨.tuple #[zv,goInt c],_,?_,⟨_,rfl,.cons hzr (.cons rfl .nil)⟩,mv _ _ (ys.push { key:=u,val:=zv,born:=c }) ?_ e.symm⟩
   ·simp only [Instr.mapEntry,Sem.run_bind,r_underlying hu,Result.andThen_ok,r_getMap hh,hck,hrun,r_setMap hh,r_zero hie hzv]
    rfl
   ·rw [Array.toList_push];exact her.snoc hk hzr rfl
 | some q=>
  obtain ⟨i,v0,b0⟩:=q
  simp only [entEnt,Option.some.injEq,Prod.mk.injEq] at e
  obtain ⟨rfl,e⟩:=e
  obtain ⟨en,k',rfl,_,hy,hes,hb0,hvr⟩:=hfound
  simp only [Nat.sub_zero] at hy hes
  obtain ⟨_,k2,h2,h3⟩:=findEntry_key es 0 hf
  rw [Nat.sub_zero,hes] at h2
  simp only [Option.some.injEq,Prod.mk.injEq,and_true] at h2
  subst h2
  obtain ⟨y,hy',hky,_,hby⟩:=her.get hes
  rw [hy] at hy';cases hy'
  have hy2:ys[i]?=some en:=by rw [← Array.getElem?_toList];exact hy
  have hst:=stays_run (P:=P) (w:=w) h3 hk hky
  refine ⟨.tuple #[en.val,goInt en.born],_,?_,⟨_,rfl,.cons hvr (.cons (by simp only [VRel,goInt,hby]) .nil)⟩,mv _ _ (ys.modify i λ e=>{ e with key:=u }) ?_ e.symm⟩
  ·simp only [Instr.mapEntry,Sem.run_bind,r_underlying hu,Result.andThen_ok,r_getMap hh,hck,hrun,hy2,Option.map_some,Option.getD_some,hst,r_setMap hh]
   rfl
  ·have hi:i < ys.size:=(Array.getElem?_eq_some_iff.1 hy2).1
   have:(ys.modify i λ e=>{ e with key:=u }).toList=ys.toList.set i { en with key:=u }:=by
    apply List.ext_getElem?
    intro j
    rw [Array.getElem?_toList,Array.getElem?_modify,List.getElem?_set]
    by_cases e:i=j
    ·subst e;rw [if_pos rfl,if_pos rfl,if_pos (by simpa using hi),hy2];rfl
    ·simp [e]
   rw [this]
   exact her.set i hk hvr hby
theorem m_mapEntry {ty:TypeId} {m k:Operand} {v:SV} (hs:St B ι h w) (hρ:Ops ι t ρ [m,k]) (e:mMapEntry P h ty (opd t m) (opd t k)=some (.val v h')) :
  MOk B ι h w v h' ((do Pure.pure (Next.value (← Instr.mapEntry ty (ρ m) (ρ k))):Sem Next).run P w):=by
 unfold mMapEntry at e
 split at e
 ·rename_i m' k' em0 ek0
  have h0:=mPair_some e
  have hm:=hρ m (by simp) _ em0
  have hk:=hρ k (by simp) _ ek0
  unfold mapEntryS at h0
  split at h0
  ·rename_i kt et id hu
   split at h0
   ·rename_i hko
    split at h0
    ·rename_i es c hg
     have fin:∀ fr,findEntry P kt k' es 0=some fr→entEnt P h id et es c k' fr=some (v,h') →
       MOk B ι h w v h' ((do Pure.pure (Next.value (← Instr.mapEntry ty (ρ m) (ρ k))):Sem Next).run P w):=λ fr hf e=>by
      obtain ⟨v',w',h1,h2,h3⟩:=mapEntry_run hs hu hm hk hko hg hf e
      exact ⟨.value v',v',w',ι,by simp [h1],.inl rfl,h2,h3⟩
     split at h0
     ·rename_i hf;exact fin _ hf h0
     ·rename_i hf;exact fin _ hf h0
     ·simp at h0
    ·simp at h0
   ·simp at h0
  ·simp at h0
 ·simp at e
theorem setBorn_run {b:Int} {v:SV} {x:Value} (hx:VRel ι v x):∀ (es:List (SV × SV × Nat)) (ys:List MapEntry) (r:List (SV × SV × Nat)),ERel ι es ys→setBorn b v es=some r →
  ∃ i y,ys.findIdx? (λ e=>(e.born:Int) == b)=some i∧ys[i]?=some y∧ERel ι r (ys.set i { y with val:=x })
 | [],_,_,_,e=>by simp [setBorn] at e
 | (k,v0,c)::es,ys,r,her,e=>by
  obtain ⟨y,q,rfl,hk,hv,hb,l⟩:=her
  simp only [setBorn] at e
  split at e
  ·rename_i hc
   simp only [Option.some.injEq] at e;subst e
   refine ⟨0,y,?_,by simp,?_⟩
   ·rw [List.findIdx?_cons,if_pos (by rw [hb,hc];simp)]
   ·exact ⟨_,_,rfl,hk,hx,hb,l⟩
  ·rename_i hc
   split at e
   ·rename_i r' hr
    simp only [Option.some.injEq] at e;subst e
    obtain ⟨i,y',h1,h2,h3⟩:=setBorn_run hx es q r' l hr
    refine ⟨i+1,y',?_,by simpa using h2,⟨y,q.set i { y' with val:=x },by simp,hk,hv,hb,h3⟩⟩
    rw [List.findIdx?_cons,if_neg (by rw [hb];simpa using hc),h1]
    rfl
   ·simp at e
theorem m_entryStore {ty:TypeId} {m s x:Operand} {v:SV} (hs:St B ι h w) (hρ:Ops ι t ρ [m,s,x]) (e:mEntryStore h (opd t m) (opd t s) (opd t x)=some (.val v h')) :
  MOk B ι h w v h' ((do Instr.entryStore ty (ρ m) (ρ s) (ρ x);Pure.pure Next.skip:Sem Next).run P w):=by
 unfold mEntryStore at e
 split at e
 ·rename_i m' s' x' em0 ek0 ex0
  obtain ⟨h0,rfl⟩:=mVal_some e
  have hm:=hρ m (by simp) _ em0
  have hk:=hρ s (by simp) _ ek0
  have hx:=hρ x (by simp) _ ex0
  unfold entryStoreS at h0
  split at h0
  ·rename_i id ik bn
   split at h0
   ·rename_i es c hg
    split at h0
    ·rename_i es' hes
     simp only [Option.some.injEq] at h0
     obtain ⟨b,o,sz,hid,em⟩:=hm
     obtain ⟨ys,hh,her⟩:=map_real hs.sim hid hg
     obtain ⟨i,y,h1,h2,h3⟩:=setBorn_run hx _ _ _ her hes
     have h1':ys.findIdx? (λ e=>(e.born:Int) == bn)=some i:=by have:=h1;rw [← List.findIdx?_toArray] at this;simpa using this
     have hy2:ys[i]?=some y:=by rw [← Array.getElem?_toList];exact h2
     have hi:i < ys.size:=(Array.getElem?_eq_some_iff.1 hy2).1
     have hset:(ys.modify i λ e=>{ e with val:=ρ x }).toList=ys.toList.set i { y with val:=ρ x }:=by
      apply List.ext_getElem?
      intro j
      rw [Array.getElem?_toList,Array.getElem?_modify,List.getElem?_set]
      by_cases e:i=j
      ·subst e;rw [if_pos rfl,if_pos rfl,if_pos (by simpa using hi),hy2];rfl
      ·simp [e]
     obtain ⟨a1,a2,a3⟩:=map_sim (c':=c) (ys':=ys.modify i λ e=>{ e with val:=ρ x }) hs.sim hid hg hh (by rw [hset];exact h3)
     simp only [VRel] at hk
     refine ⟨.skip,undef,_,ι,?_,.inr ⟨rfl,rfl⟩,undef_rel,.of hs (h0 ▸ a1) (by rw [← h0];exact hs.fresh) (Nat.le_trans hs.base a2.size) (h0 ▸ a2) (h0 ▸ a3)⟩
     simp only [Instr.entryStore,em,Sem.run_bind,r_getMap hh,Result.andThen_ok,hk,asInt,asIntOf,Sem.run_pure,h1',r_setMap hh]
    ·simp at h0
   ·simp at h0
  ·simp at h0
 ·simp at e
end
end Go.Sh
end
