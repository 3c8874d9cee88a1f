/- General laws of the proof: a shadow machine of the form, its soundness, and a compiled form of it. -/
import Derived.Test.YtpjpiigachahkaaGreatDoorSh15
set_option linter.unusedVariables false
set_option linter.unusedSimpArgs false
set_option linter.unusedSectionVars false
section
/- What was given, as slices that are read. -/
namespace Go.Sh
open Go.ChangeShapes Go.RowKit
theorem rep_list {α β:Type} {f:α→List SV} {ok:α→Prop} {es:Nat}:∀ (ds:List β) (cells:List SV),cells.length=ds.length * es→(∀ (i:Nat) d,ds[i]?=some d→∃ a,ok a∧(cells.drop (i * es)).take es=f a) →
  ∃ l:List α,l.length=ds.length∧(∀ a ∈ l,ok a)∧cells=l.flatMap f
 | [],cells,hl,_=>⟨[],rfl,λ _ h=>by simp at h,by
  have:cells=[]:=List.eq_nil_of_length_eq_zero (by simpa using hl)
  simp [this]⟩
 | d::ds,cells,hl,he=>by
  obtain ⟨a,h1,h2⟩:=he 0 d rfl
  rw [List.length_cons,Nat.succ_mul] at hl
  obtain ⟨l,k1,k2,k3⟩:=rep_list (f:=f) (ok:=ok) (es:=es) ds (cells.drop es) (by rw [List.length_drop];omega) λ i d' hd=>by
   obtain ⟨b,h3,h4⟩:=he (i+1) d' (by simpa using hd)
   refine ⟨b,h3,?_⟩
   rw [List.drop_drop,← h4,show es+i * es=(i+1) * es by rw [Nat.succ_mul];omega]
  refine ⟨a::l,by simp [k1],λ b hb=>by
   rcases List.mem_cons.1 hb with rfl | hb
   ·exact h1
   ·exact k2 b hb,?_⟩
  rw [List.flatMap_cons,← k3,← h2,Nat.zero_mul,List.drop_zero,List.take_append_drop]
theorem Rep.rows {Hd:Type} {P:Program} {h:H} {t e:TypeId} {es:Nat} {α:Type} {f:α→List SV} {ok:α→Prop} (hu:P.underlying t=some (.slice e)) (hes:P.cellsOf e=es)
  (hok:∀ (d:DataW Hd) cs,Rep P h.get e d cs→∃ a,ok a∧cs=f a) {d:DataW Hd} {x:SV} (r:Rep P h.get t d [x]) :
  ∃ l:List α,View h es x l.length (l.flatMap f)∧l.length≤maxLen∧(∀ a ∈ l,ok a)∧(∀ q,isRow x q→q < h.next):=by
 generalize hx:[x]=xs at r
 cases r with
 | bool ht=>rw [hu] at ht;cases ht
 | int ht _=>rw [hu] at ht;cases ht
 | str ht _=>rw [hu] at ht;cases ht
 | struct ht _ _ _=>rw [hu] at ht;cases ht
 | nil ht=>cases hx;exact ⟨[],⟨by simp,.inl ⟨rfl,rfl⟩⟩,Nat.zero_le _,λ _ h=>by simp at h,λ q hq=>hq.elim⟩
 | @slice _ e' id ds sp cells ht hg hl hm he=>
  rw [hu] at ht;cases ht
  rw [hes] at hl he hx
  cases hx
  obtain ⟨l,k1,k2,k3⟩:=rep_list (f:=f) (ok:=ok) ds cells hl λ i d hd=>hok d _ (he i d hd)
  refine ⟨l,⟨by rw [← k3,hl,k1],.inr ⟨id,0,none,cells,by rw [k1],by unfold rowCells;rw [hg],?_,λ c q=>by cases q⟩⟩,by rw [k1];exact hm,k2,λ q hq=>by rw [show q=id from hq];exact H.get_lt hg⟩
  unfold takeCells
  rw [k1,← hl,if_pos (by omega),List.drop_zero,List.take_length,← k3]
theorem Rep.oneInt {Hd:Type} {P:Program} {g:Nat→Option SObj} {t:TypeId} {k:IntKind} (hu:P.underlying t=some (.int k)) (d:DataW Hd) (cs:List SV) (r:Rep P g t d cs):∃ z:Int,(Lit.int k z).wf=true∧cs=[.int k z]:=by
 cases r with
 | bool ht=>rw [hu] at ht;cases ht
 | int ht hw=>rw [hu] at ht;cases ht;exact ⟨_,hw,rfl⟩
 | str ht _=>rw [hu] at ht;cases ht
 | struct ht _ _ _=>rw [hu] at ht;cases ht
 | nil ht=>rw [hu] at ht;cases ht
 | slice ht _ _ _ _=>rw [hu] at ht;cases ht
theorem Rep.oneBool {Hd:Type} {P:Program} {g:Nat→Option SObj} {t:TypeId} (hu:P.underlying t=some .bool) (d:DataW Hd) (cs:List SV) (r:Rep P g t d cs):∃ z:Bool,cs=[.bool z]:=by
 cases r with
 | bool ht=>exact ⟨_,rfl⟩
 | int ht hw=>rw [hu] at ht;cases ht
 | str ht _=>rw [hu] at ht;cases ht
 | struct ht _ _ _=>rw [hu] at ht;cases ht
 | nil ht=>rw [hu] at ht;cases ht
 | slice ht _ _ _ _=>rw [hu] at ht;cases ht
theorem Rep.oneStr {Hd:Type} {P:Program} {g:Nat→Option SObj} {t:TypeId} (hu:P.underlying t=some .string) (d:DataW Hd) (cs:List SV) (r:Rep P g t d cs):∃ s:List UInt8,s.length≤maxLen∧cs=[.str s]:=by
 cases r with
 | bool ht=>rw [hu] at ht;cases ht
 | int ht hw=>rw [hu] at ht;cases ht
 | str ht hs=>exact ⟨_,hs,rfl⟩
 | struct ht _ _ _=>rw [hu] at ht;cases ht
 | nil ht=>rw [hu] at ht;cases ht
 | slice ht _ _ _ _=>rw [hu] at ht;cases ht
theorem Rep.fields {Hd:Type} {P:Program} {g:Nat→Option SObj} {t:TypeId} {fs:Array Field} (hu:P.underlying t=some (.struct fs)) (d:DataW Hd) (cs:List SV) (r:Rep P g t d cs):cs.length=P.cellsOf t∧∀ (i:Nat) (f:Field),fs[i]?=some f→∃ d:DataW Hd,Rep P g f.type d ((cs.drop f.offset).take (P.cellsOf f.type)):=by
 cases r with
 | bool ht=>rw [hu] at ht;cases ht
 | int ht hw=>rw [hu] at ht;cases ht
 | str ht hs=>rw [hu] at ht;cases ht
 | struct ht hl hn hf=>
  rw [hu] at ht;cases ht
  refine ⟨hl,λ i f hi=>?_⟩
  have hlt:i < fs.size:=(Array.getElem?_eq_some_iff.1 hi).1
  exact ⟨_,hf i f _ hi (List.getElem?_eq_getElem (by omega))⟩
 | nil ht=>rw [hu] at ht;cases ht
 | slice ht _ _ _ _=>rw [hu] at ht;cases ht
theorem argsRep_cons {Hd:Type} {P:Program} {g:Nat→Option SObj} {t:TypeId} {ts:List TypeId} {ds:List (DataW Hd)} {xs:List SV} (r:ArgsRep P g (t::ts) ds xs):∃ d ds' x xs' cs,ds=d::ds'∧xs=x::xs'∧Rep P g t d cs∧ArgIs P t cs x∧ArgsRep P g ts ds' xs':=by
 cases ds with
 | nil=>exact r.elim
 | cons d ds=>cases xs with
  | nil=>exact r.elim
  | cons x xs=>
   obtain ⟨⟨cs,h1,h2⟩,h3⟩:=r
   exact ⟨d,ds,x,xs,cs,rfl,rfl,h1,h2,h3⟩
theorem argsRep_nil {Hd:Type} {P:Program} {g:Nat→Option SObj} {ds:List (DataW Hd)} {xs:List SV} (r:ArgsRep P g [] ds xs):ds=[]∧xs=[]:=by
 cases ds with
 | nil=>cases xs with
  | nil=>exact ⟨rfl,rfl⟩
  | cons x xs=>exact r.elim
 | cons d ds=>exact r.elim
theorem argIs_slice {P:Program} {cs:List SV} {x:SV} {t e:TypeId} (hu:P.underlying t=some (.slice e)) (a:ArgIs P t cs x):cs=[x]:=by
 unfold ArgIs at a;rw [hu] at a;exact a
theorem argIs_int {P:Program} {cs:List SV} {x:SV} {t:TypeId} {k:IntKind} (hu:P.underlying t=some (.int k)) (a:ArgIs P t cs x):cs=[x]:=by
 unfold ArgIs at a;rw [hu] at a;exact a
end Go.Sh
end
