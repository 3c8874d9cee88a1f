/- General laws of the proof: a shadow machine of the form, its soundness, and a compiled form of it. -/
import Derived.Test.YtpjpiigachahkaaGreatDoorSh11
set_option linter.unusedVariables false
set_option linter.unusedSimpArgs false
set_option linter.unusedSectionVars false
section
/- The compiled machine: rules for reckoning with what is not known. -/
namespace Go.Sh
section
variable {α β:Type}
@[congr] theorem bO_congr {x y:Option α} (h:x=y) (k:α→Option β):bO x k=bO y k:=by rw [h]
@[congr] theorem bB_congr {c d:Bool} (h:c=d) (a b:β):bB c a b=bB d a b:=by rw [h]
@[congr] theorem knext_congr {r s:FR} (h:r=s) (k:T→H→FR):knext r k=knext s k:=by rw [h]
@[congr] theorem kleave_congr {id:Nat} {r s:FR} (h:r=s):kleave id r=kleave id s:=by rw [h]
@[congr] theorem kbranch_congr {c d:Option SV} (h:c=d) (a b:FR):kbranch c a b=kbranch d a b:=by rw [h]
@[congr] theorem on2_congr {r s:Option (SV × H)} (h:r=s) (k:SV→H→FR):on2 r k=on2 s k:=by rw [h]
theorem getP_set (a b:Nat) (v:SV) (t:T):getP (way a) (setP (way b) v t)=if a=b then some v else getP (way a) t:=by
 rw [getP_way,setP_way,Tr.get_set,getP_way]
theorem getP_leaf (a:Nat):getP (way a) (.leaf:T)=none:=by rw [getP_way];exact Tr.get_leaf a
theorem kr :
  (∀ n t,xW n t=getP (way n) t)∧(∀ v t,xC v t=some v) ∧
  (∀ a b v t,getP (way a) (setP (way b) v t)=if a=b then some v else getP (way a) t)∧(∀ a,getP (way a) (.leaf:T)=none) ∧
  (∀ a b n c t h,cSeq a b n c t h=knext (a n c t h) (b n c))∧(∀ o n c t h,cOps o n c t h=o c h.next t h λ t h=>some (.normal,t,h)) ∧
  (∀ n c t h,cSkip n c t h=some (.normal,t,h))∧(∀ n c t h,cRet n c t h=some (.ret,t,h))∧(∀ i n c t h,cExit i n c t h=some (.exit i,t,h))∧(∀ i n c t h,cGoto i n c t h=some (.goto i,t,h)) ∧
  (∀ x a b n c t h,cCond x a b n c t h=kbranch (x t) (a n c t h) (b n c t h))∧(∀ i a n c t h,cBlock i a n c t h=kleave i (a n c t h)) ∧
  (∀ t h k,knext (some (.normal,t,h)) k=k t h)∧(∀ t h k,knext (some (.ret,t,h)) k=some (.ret,t,h))∧(∀ i t h k,knext (some (.exit i,t,h)) k=some (.exit i,t,h))∧(∀ i t h k,knext (some (.goto i,t,h)) k=some (.goto i,t,h)) ∧
  (∀ i t h,kleave i (some (.normal,t,h))=some (.normal,t,h))∧(∀ i t h,kleave i (some (.ret,t,h))=some (.ret,t,h))∧(∀ i j t h,kleave i (some (.exit j,t,h))=if j=i then some (.normal,t,h) else some (.exit j,t,h))∧(∀ i j t h,kleave i (some (.goto j,t,h))=some (.goto j,t,h)) ∧
  (∀ q a b,kbranch (some (.bool q)) a b=if q=true then a else b) ∧
  (∀ d s r c m t h k,oSet d s r c m t h k=s c m t h λ v h=>r v c m (setP (way d) v t) h k)∧(∀ s r c m t h k,oLet s r c m t h k=s c m t h λ v h=>r v c m t h k)∧(∀ s r c m t h k,oDo s r c m t h k=s c m t h λ _ h=>r c m t h k)∧(∀ c m t h k,oEnd c m t h k=k t h) ∧
  (∀ f c m t h k,sV f c m t h k=bO (f t) λ v=>k v h)∧(∀ f c m t h k,sL f c m t h k=bO (f h.get t) λ v=>k v h)∧(∀ f c m t h k,sLs f c m t h k=bO (f (getTo h m) t) λ v=>k v h) ∧
  (∀ f c m t h k,sM f c m t h k=on2 (f h t) k)∧(∀ f xs c m t h k,sC f xs c m t h k=bO (xL xs t) λ vs=>on2 (c f vs h) k) ∧
  (∀ x w s c m t h k,sG x w s c m t h k=bO (x t) λ b=>if isB w b=true then s c m t h k else k (.tuple []) h) ∧
  (∀ v h k,on2 (some (v,h)) k=k v h) ∧
  (∀ (v:SV) (k:SV→FR),bO (some v) k=k v)∧(∀ (v:SV) (k:SV→Option SV),bO (some v) k=k v)∧(∀ (v:List SV) (k:List SV→FR),bO (some v) k=k v)∧(∀ (v:List SV) (k:List SV→Option (List SV)),bO (some v) k=k v)∧(∀ (v:SV) (k:SV→Option (List SV)),bO (some v) k=k v) ∧
  (∀ t,xL [] t=some [])∧(∀ x l t,xL (x::l) t=bO (x t) λ v=>bO (xL l t) λ vs=>some (v::vs)) ∧
  (∀ w b,isB w (.bool b)=(b == w)):=by
 refine ⟨λ _ _=>rfl,λ _ _=>rfl,getP_set,getP_leaf,λ _ _ _ _ _ _=>rfl,λ _ _ _ _ _=>rfl,λ _ _ _ _=>rfl,λ _ _ _ _=>rfl,λ _ _ _ _ _=>rfl,λ _ _ _ _ _=>rfl,λ _ _ _ _ _ _ _=>rfl,λ _ _ _ _ _ _=>rfl,
  λ _ _ _=>rfl,λ _ _ _=>rfl,λ _ _ _ _=>rfl,λ _ _ _ _=>rfl,λ _ _ _=>rfl,λ _ _ _=>rfl,λ i j t h=>?_,λ _ _ _ _=>rfl,λ q a b=>by cases q <;> rfl,
  λ _ _ _ _ _ _ _ _=>rfl,λ _ _ _ _ _ _ _=>rfl,λ _ _ _ _ _ _ _=>rfl,λ _ _ _ _ _=>rfl,λ _ _ _ _ _ _=>rfl,λ _ _ _ _ _ _=>rfl,λ _ _ _ _ _ _=>rfl,λ _ _ _ _ _ _=>rfl,λ _ _ _ _ _ _ _=>rfl,
  λ x w s c m t h k=>?_,λ _ _ _=>rfl,λ _ _=>rfl,λ _ _=>rfl,λ _ _=>rfl,λ _ _=>rfl,λ _ _=>rfl,λ _=>rfl,λ _ _ _=>rfl,λ _ _=>rfl⟩
 ·show bB (Nat.beq j i) _ _=_
  cases hb:Nat.beq j i
  ·rw [if_neg (λ e=>by rw [e] at hb;simp at hb)];rfl
  ·rw [if_pos (Nat.eq_of_beq_eq_true hb)];rfl
 ·show bO (x t) _=bO (x t) _
  congr 1
  funext b
  cases isB w b <;> rfl
end
end Go.Sh
end
