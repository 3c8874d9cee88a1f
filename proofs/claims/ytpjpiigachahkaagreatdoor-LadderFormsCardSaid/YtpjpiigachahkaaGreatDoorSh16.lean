/- General laws of the proof: a shadow machine of the form, its soundness, and a compiled form of it. -/
import Derived.Test.YtpjpiigachahkaaGreatDoorSh15
set_option linter.unusedVariables false
set_option linter.unusedSimpArgs false
set_option linter.unusedSectionVars false
section
/- The compiled machine: rules for reckoning, without conditionals of propositions. -/
namespace Go.Sh
section
theorem getP_setB (a b:Nat) (v:SV) (t:T):getP (way a) (setP (way b) v t)=bB (a == b) (some v) (getP (way a) t):=by
 rw [getP_set]
 by_cases h:a=b
 ·rw [if_pos h,show (a == b)=true by simpa using h];rfl
 ·rw [if_neg h,show (a == b)=false by simpa using h];rfl
theorem kq :
  (∀ n t,xW n t=getP (way n) t)∧(∀ v t,xC v t=some v) ∧
  (∀ a b v t,getP (way a) (setP (way b) v t)=bB (a == b) (some v) (getP (way a) t))∧(∀ a,getP (way a) (.leaf:T)=none) ∧
  (∀ a b n c t h,cSeq a b n c t h=knext (a n c t h) (b n c))∧(∀ o n c t h,cOps o n c t h=o c h.next t h λ t h=>some (.normal,t,h)) ∧
  (∀ n c t h,cSkip n c t h=some (.normal,t,h))∧(∀ n c t h,cRet n c t h=some (.ret,t,h))∧(∀ i n c t h,cExit i n c t h=some (.exit i,t,h))∧(∀ i n c t h,cGoto i n c t h=some (.goto i,t,h)) ∧
  (∀ x a b n c t h,cCond x a b n c t h=kbranch (x t) (a n c t h) (b n c t h))∧(∀ i a n c t h,cBlock i a n c t h=kleave i (a n c t h)) ∧
  (∀ t h k,knext (some (.normal,t,h)) k=k t h)∧(∀ t h k,knext (some (.ret,t,h)) k=some (.ret,t,h))∧(∀ i t h k,knext (some (.exit i,t,h)) k=some (.exit i,t,h))∧(∀ i t h k,knext (some (.goto i,t,h)) k=some (.goto i,t,h)) ∧
  (∀ i t h,kleave i (some (.normal,t,h))=some (.normal,t,h))∧(∀ i t h,kleave i (some (.ret,t,h))=some (.ret,t,h))∧(∀ i j t h,kleave i (some (.exit j,t,h))=if j=i then some (.normal,t,h) else some (.exit j,t,h))∧(∀ i j t h,kleave i (some (.goto j,t,h))=some (.goto j,t,h)) ∧
  (∀ q a b,kbranch (some (.bool q)) a b=bB q a b) ∧
  (∀ d s r c m t h k,oSet d s r c m t h k=s c m t h λ v h=>r v c m (setP (way d) v t) h k)∧(∀ s r c m t h k,oLet s r c m t h k=s c m t h λ v h=>r v c m t h k)∧(∀ s r c m t h k,oDo s r c m t h k=s c m t h λ _ h=>r c m t h k)∧(∀ c m t h k,oEnd c m t h k=k t h) ∧
  (∀ f c m t h k,sV f c m t h k=bO (f t) λ v=>k v h)∧(∀ f c m t h k,sL f c m t h k=bO (f h.get t) λ v=>k v h)∧(∀ f c m t h k,sLs f c m t h k=bO (f (getTo h m) t) λ v=>k v h) ∧
  (∀ f c m t h k,sM f c m t h k=on2 (f h t) k)∧(∀ f xs c m t h k,sC f xs c m t h k=bO (xL xs t) λ vs=>on2 (c f vs h) k) ∧
  (∀ x w s c m t h k,sG x w s c m t h k=bO (x t) λ b=>bB (isB w b) (s c m t h k) (k (.tuple []) h)) ∧
  (∀ v h k,on2 (some (v,h)) k=k v h) ∧
  (∀ (v:SV) (k:SV→FR),bO (some v) k=k v)∧(∀ (v:SV) (k:SV→Option SV),bO (some v) k=k v)∧(∀ (v:List SV) (k:List SV→FR),bO (some v) k=k v)∧(∀ (v:List SV) (k:List SV→Option (List SV)),bO (some v) k=k v)∧(∀ (v:SV) (k:SV→Option (List SV)),bO (some v) k=k v) ∧
  (∀ t,xL [] t=some [])∧(∀ x l t,xL (x::l) t=bO (x t) λ v=>bO (xL l t) λ vs=>some (v::vs)) ∧
  (∀ w b,isB w (.bool b)=(b == w))∧(∀ (a b:FR),bB true a b=a)∧(∀ (a b:FR),bB false a b=b)∧(∀ (a b:Option SV),bB true a b=a)∧(∀ (a b:Option SV),bB false a b=b):=by
 refine ⟨λ _ _=>rfl,λ _ _=>rfl,getP_setB,getP_leaf,λ _ _ _ _ _ _=>rfl,λ _ _ _ _ _=>rfl,λ _ _ _ _=>rfl,λ _ _ _ _=>rfl,λ _ _ _ _ _=>rfl,λ _ _ _ _ _=>rfl,λ _ _ _ _ _ _ _=>rfl,λ _ _ _ _ _ _=>rfl,
  λ _ _ _=>rfl,λ _ _ _=>rfl,λ _ _ _ _=>rfl,λ _ _ _ _=>rfl,λ _ _ _=>rfl,λ _ _ _=>rfl,λ i j t h=>?_,λ _ _ _ _=>rfl,λ q a b=>rfl,
  λ _ _ _ _ _ _ _ _=>rfl,λ _ _ _ _ _ _ _=>rfl,λ _ _ _ _ _ _ _=>rfl,λ _ _ _ _ _=>rfl,λ _ _ _ _ _ _=>rfl,λ _ _ _ _ _ _=>rfl,λ _ _ _ _ _ _=>rfl,λ _ _ _ _ _ _=>rfl,λ _ _ _ _ _ _ _=>rfl,
  λ x w s c m t h k=>rfl,λ _ _ _=>rfl,λ _ _=>rfl,λ _ _=>rfl,λ _ _=>rfl,λ _ _=>rfl,λ _ _=>rfl,λ _=>rfl,λ _ _ _=>rfl,λ _ _=>rfl,λ _ _=>rfl,λ _ _=>rfl,λ _ _=>rfl,λ _ _=>rfl⟩
 ·show bB (Nat.beq j i) _ _=_
  cases hb:Nat.beq j i
  ·rw [if_neg (λ e=>by rw [e] at hb;simp at hb)];rfl
  ·rw [if_pos (Nat.eq_of_beq_eq_true hb)];rfl
theorem ko:(∀ r c m t h k,oCap r c m t h k=r h c m t h k)∧(∀ gs fr f c m t h k,sLo gs fr f c m t h k=bO (f h.get t) λ v=>bB (sameV f h fr t v gs) (k v h) none)∧(∀ f h fr t v,sameV f h fr t v []=true) ∧
  (∀ f h fr t v g l,sameV f h fr t v (g::l)=match f (mixTo g h fr) t with | some u=>eqSV u v&&sameV f h fr t v l | none=>false):=by
 refine ⟨λ _ _ _ _ _ _=>rfl,λ _ _ _ _ _ _ _ _=>rfl,λ _ _ _ _ _=>rfl,λ _ _ _ _ _ _ _=>rfl⟩
theorem eqI_self (a:Int):eqI a a=true:=by rw [eqI_eq];simp
theorem eqB_self (a:List UInt8):eqB a a=true:=by rw [eqB_eq,eqBytes_eq];simp
theorem eqS1_int (k:IntKind) (a:Int):eqSV (.int k a) (.int k a)=true:=by
 show (sameK k k&&eqI a a)=true
 rw [sameK_self,eqI_self];rfl
theorem eqS1_str (a:List UInt8):eqSV (.str a) (.str a)=true:=eqB_self a
theorem eqS1_bool (a:Bool):eqSV (.bool a) (.bool a)=true:=by
 show (a == a)=true
 cases a <;> rfl
theorem mixTo_old {g h:H} {fr q:Nat} (hq:q < g.next):mixTo g h fr q=g.get q:=by unfold mixTo;rw [if_pos hq]
theorem rowCells_mix {g h:H} {fr q:Nat} (hq:q < g.next):rowCells (mixTo g h fr) q=rowCells g.get q:=by unfold rowCells;rw [mixTo_old hq]
theorem rowCells_mix_new {g h:H} {fr q:Nat} (hq:g.next≤q) (hf:fr≤q):rowCells (mixTo g h fr) q=rowCells h.get q:=by
 unfold rowCells mixTo;rw [if_neg (by omega),if_pos hf]
end
end Go.Sh
end
section
/- The compiled machine: what each kind of value comes to, at a state; rules that simp may use beneath a rule of congruence (none is a mere unfolding). -/
namespace Go.Sh
section
theorem kb:(∀ (α β:Type) (v:α) (k:α→Option β),bO (some v) k=k v)∧(∀ (α:Type) (a b:α),bB true a b=a)∧(∀ (α:Type) (a b:α),bB false a b=b):=⟨λ _ _ _ _=>rfl,λ _ _ _=>rfl,λ _ _ _=>rfl⟩
theorem kv :
  (∀ k x y t,vAdd k x y t=bO (x t) λ u=>bO (y t) λ v=>bO (asI k u) λ a=>bO (asI k v) λ b=>some (.int k (k.wrap (a+b)))) ∧
  (∀ k x y t,vSub k x y t=bO (x t) λ u=>bO (y t) λ v=>bO (asI k u) λ a=>bO (asI k v) λ b=>some (.int k (k.wrap (a - b)))) ∧
  (∀ k x y t,vMul k x y t=bO (x t) λ u=>bO (y t) λ v=>bO (asI k u) λ a=>bO (asI k v) λ b=>some (.int k (k.wrap (a * b)))) ∧
  (∀ k x y t,vLt k x y t=bO (x t) λ u=>bO (y t) λ v=>bO (asI k u) λ a=>bO (asI k v) λ b=>some (.bool (ltI a b))) ∧
  (∀ k x y t,vLe k x y t=bO (x t) λ u=>bO (y t) λ v=>bO (asI k u) λ a=>bO (asI k v) λ b=>some (.bool (!ltI b a))) ∧
  (∀ k x y t,vGt k x y t=bO (x t) λ u=>bO (y t) λ v=>bO (asI k u) λ a=>bO (asI k v) λ b=>some (.bool (ltI b a))) ∧
  (∀ k x y t,vGe k x y t=bO (x t) λ u=>bO (y t) λ v=>bO (asI k u) λ a=>bO (asI k v) λ b=>some (.bool (!ltI a b))) ∧
  (∀ k x y t,vEq k x y t=bO (x t) λ u=>bO (y t) λ v=>bO (asI k u) λ a=>bO (asI k v) λ b=>some (.bool (eqI a b))) ∧
  (∀ k x y t,vNe k x y t=bO (x t) λ u=>bO (y t) λ v=>bO (asI k u) λ a=>bO (asI k v) λ b=>some (.bool (!eqI a b))) ∧
  (∀ op k x y t,vAr op k x y t=bO (x t) λ u=>bO (y t) λ v=>bO (asI k u) λ a=>bO (asI k v) λ b=>bO (arithInt op k a b) λ c=>some (.int k c)) ∧
  (∀ op k x y t,vSh op k x y t=bO (x t) λ u=>bO (y t) λ v=>bO (asI k u) λ a=>bO (asInt v) λ b=>bO (shiftInt op k a b) λ c=>some (.int k c)) ∧
  (∀ x y t,vSEq x y t=bO (x t) λ u=>bO (y t) λ v=>bO (asS u) λ a=>bO (asS v) λ b=>some (.bool (eqB a b))) ∧
  (∀ x y t,vSNe x y t=bO (x t) λ u=>bO (y t) λ v=>bO (asS u) λ a=>bO (asS v) λ b=>some (.bool (!eqB a b))) ∧
  (∀ op x y t,vStr op x y t=bO (x t) λ u=>bO (y t) λ v=>bO (asS u) λ a=>bO (asS v) λ b=>strOp op a b) ∧
  (∀ c a b t,vPick c a b t=bO (c t) λ u=>bO (asB u) λ q=>bB q (a t) (b t)) ∧
  (∀ op x t,vUn op x t=bO (x t) λ u=>unS op u)∧(∀ b,unS .not (.bool b)=some (.bool (!b))) ∧
  (∀ k x t,vToI k x t=bO (x t) λ u=>bO (asInt u) λ n=>some (.int k (k.wrap n))) ∧
  (∀ i x t,vExtract i x t=bO (x t) λ u=>match u with
   | .tuple vs=>vs[i]?
   | _=>none) ∧
  (∀ x t,vLenS x t=bO (x t) λ u=>bO (asS u) λ s=>some (.int .i64 s.length))∧(∀ x t,vLen x t=bO (x t) λ u=>bO (lenV u) λ n=>some (.int .i64 n))∧(lenV .nilslice=some 0)∧(∀ i o n s c,lenV (.slice i o n s c)=some n) ∧
  (∀ o x t,vAddr o x t=bO (x t) λ u=>bO (asP u) λ p=>some (.ptr p.1 (p.2+o))) ∧
  (∀ (s:Nat) x i t,vIdx s x i t=bO (x t) λ u=>bO (i t) λ j=>bO (asInt j) λ n=>bO (intN n) λ k=>atIdx s k u)∧(∀ i:Nat,intN (i:Int)=some i) ∧
  (∀ x i t,vIdxS x i t=bO (x t) λ u=>bO (asS u) λ (s:List UInt8)=>bO (i t) λ j=>bO (asInt j) λ n=>bO (intN n) λ k=>bO s[k]? λ b=>some (.int .u8 b.toNat)) ∧
  (∀ x t,vNil x t=bO (x t) nilV)∧(∀ i o,nilV (.ptr i o)=some (.ptr i o))∧(∀ f c,nilV (.func f c)=some (.func f c)) ∧
  (∀ (s:Nat) x lo hi mx t,vSlice s x lo hi mx t=bO (x t) λ u=>bO (xL lo t) λ l=>bO (xL hi t) λ h=>bO (xL mx t) λ m=>kslice s u l.head? h.head? m.head?) ∧
  (∀ q x y g t,lEq q x y g t=bO (x t) λ a=>bO (y t) λ b=>bO (keq g q a b) λ c=>some (.bool c))∧(∀ q x y g t,lNe q x y g t=bO (x t) λ a=>bO (y t) λ b=>bO (keq g q a b) λ c=>some (.bool (!c))) ∧
  (∀ g (s:Bool),keq g (.ptr s) .nilptr .nilptr=some true)∧(∀ g (s:Bool) a o,keq g (.ptr s) (.ptr a o) .nilptr=some false)∧(∀ g (s:Bool) a o,keq g (.ptr s) .nilptr (.ptr a o)=some false)∧(∀ g a b,keq g .bool (.bool a) (.bool b)=some (a == b)) ∧
  (∀ g,keq g .slice .nilslice .nilslice=some true)∧(∀ g i o n s c,keq g .slice (.slice i o n s c) .nilslice=some false) ∧
  (∀ x g t,lToStr x g t=bO (x t) (strOf g))∧(∀ g,strOf g .nilslice=some (.str [])) ∧
  (∀ x c m t h K,sN (aBox x) c m t h K=bO (x t) λ u=>bO u.cells? λ cs=>K (.ptr h.next 0) (h.push (.cells cs .fixed))) ∧
  (∀ z c m t h K,sN (aAlloc z) c m t h K=K (.ptr h.next 0) (h.push (.cells z .fixed))):=by
 have w:=@wrapS_eq
 refine ⟨λ k x y t=>?_,λ k x y t=>?_,λ k x y t=>?_,λ _ _ _ _=>rfl,λ _ _ _ _=>rfl,λ _ _ _ _=>rfl,λ _ _ _ _=>rfl,λ _ _ _ _=>rfl,λ _ _ _ _=>rfl,λ _ _ _ _ _=>rfl,λ _ _ _ _ _=>rfl,λ _ _ _=>rfl,λ _ _ _=>rfl,λ _ _ _ _=>rfl,λ _ _ _ _=>rfl,λ _ _ _=>rfl,λ _=>rfl,λ k x t=>?_,λ _ _ _=>rfl,
  λ _ _=>rfl,λ _ _=>rfl,rfl,λ _ _ _ _ _=>rfl,λ _ _ _=>rfl,λ _ _ _ _=>rfl,λ _=>rfl,λ _ _ _=>rfl,λ _ _=>rfl,λ _ _=>rfl,λ _ _=>rfl,λ _ _ _ _ _ _=>rfl,λ _ _ _ _ _=>rfl,λ _ _ _ _ _=>rfl,λ _ _=>rfl,λ _ _ _ _=>rfl,λ _ _ _ _=>rfl,λ _ _ _=>rfl,
  λ _=>rfl,λ _ _ _ _ _ _=>rfl,λ _ _ _=>rfl,λ _=>rfl,λ x c m t h K=>?_,λ _ _ _ _ _ _=>rfl⟩
 ·show (bO (x t) λ u=>bO (y t) λ v=>bO (asI k u) λ a=>bO (asI k v) λ b=>some (SV.int k (wrapS k (a+b))))=_
  simp only [w]
 ·show (bO (x t) λ u=>bO (y t) λ v=>bO (asI k u) λ a=>bO (asI k v) λ b=>some (SV.int k (wrapS k (a - b))))=_
  simp only [w]
 ·show (bO (x t) λ u=>bO (y t) λ v=>bO (asI k u) λ a=>bO (asI k v) λ b=>some (SV.int k (wrapS k (a * b))))=_
  simp only [w]
 ·show (bO (x t) λ u=>bO (asInt u) λ n=>some (SV.int k (wrapS k n)))=_
  simp only [w]
 ·show bO (bO (x t) λ u=>bO u.cells? λ cs=>some (NR.new (.cells cs .fixed) (SV.ptr · 0))) _=_
  cases x t with
  | none=>rfl
  | some u=>
   show bO (bO u.cells? _) _=bO u.cells? _
   cases u.cells? with
   | none=>rfl
   | some cs=>rfl
end
end Go.Sh
end
section
/- The compiled machine: what looks at the memory and what turns it, at values. -/
namespace Go.Sh
noncomputable section
def loadV (s:Option Nat) (g:Nat→Option SObj) (u:SV):Option SV:=bO (asP u) λ p=>bO (rowCells g p.1) λ cs=>kpart s cs p.2
def storeV (size:Nat) (h:H) (u v:SV):Option (SV × H):=bO (asP u) λ p=>bO v.cells? λ vs=>bB (hasLen size vs) (bO (storeX h p.1 p.2 vs) λ h=>some (SV.tuple [],h)) none
def appendV (bytes size:Nat) (h:H) (s x:SV):Option (SV × H):=bO (srcLen x) λ n=>bO (srcCells h.get size n x) λ new=>kappend h bytes size n new s
def copyV (size:Nat) (h:H) (d x:SV):Option (SV × H):=bO (srcLen d) λ n=>bO (srcLen x) λ m=>bO (srcCells h.get size (min m n) x) λ new=>copyS h d (min m n) new
def maxV (big:Bool):List SV→Option SV
 | v::l=>maxS big v l
 | []=>none
def makeV (bytes size:Nat) (z:List SV) (u v:SV) (h:H):Option (SV × H):=bO (asInt u) λ n=>bO (asInt v) λ m=>bO (intN n) λ n=>bO (intN m) λ m=>
 bB (Nat.ble n m&&Nat.ble (m * (bytes+size+1)) 1099511627776) (some (SV.slice h.next 0 n size (some m),h.push (.cells (repeatCells z m) .fixed))) none
theorem kt :
  (∀ s x g t,lLoad s x g t=bO (x t) (loadV s g))∧(∀ s a x h t,tStore s a x h t=bO (a t) λ u=>bO (x t) λ v=>storeV s h u v) ∧
  (∀ b s a x h t,tAppend b s a x h t=bO (a t) λ u=>bO (x t) λ v=>appendV b s h u v)∧(∀ s d x h t,tCopy s d x h t=bO (d t) λ u=>bO (x t) λ v=>copyV s h u v) ∧
  (∀ z xs t,vCat z xs t=bO (xL xs t) λ vs=>bO (kcat z vs) λ cs=>some (.agg cs))∧(∀ k (z:Int),kcat [1] [.int k z]=some [.int k z])∧(∀ k (a b:Int),kcat [1,1] [.int k a,.int k b]=some [.int k a,.int k b]) ∧
  (∀ b xs t,vMax b xs t=bO (xL xs t) (maxV b)) ∧
  (∀ n s z xs c m t h K,sN (aRow n s z xs) c m t h K=bO (xL xs t) λ vs=>bO (kcat z vs) λ cs=>K (.slice h.next 0 n s (some n)) (h.push (.cells cs .fixed))) ∧
  (∀ b s z x y c m t h K,sN (aMakeSlice b s z x y) c m t h K=bO (x t) λ u=>bO (y t) λ v=>on2 (makeV b s z u v h) K) ∧
  (∀ F cap xs c m t h k,sX (xC (.func F cap)) xs c m t h k=bO (xL xs t) λ vs=>on2 (c F (vs++cap) h) k) ∧
  (∀ cs,(SV.agg cs).cells?=some cs):=by
 refine ⟨λ _ _ _ _=>rfl,λ s a x h t=>?_,λ _ _ _ _ _ _=>rfl,λ _ _ _ _ _=>rfl,λ _ _ _=>rfl,λ _ _=>rfl,λ _ _ _=>rfl,λ b xs t=>?_,λ n s z xs c m t h K=>?_,λ b s z x y c m t h K=>?_,λ _ _ _ _ _ _ _ _=>rfl,λ _=>rfl⟩
 ·show (bO (a t) λ u=>bO (asP u) λ p=>bO (x t) λ v=>bO v.cells? λ vs=>bB (hasLen s vs) (bO (storeX h p.1 p.2 vs) λ h=>some (SV.tuple [],h)) none)=_
  cases a t with
  | none=>rfl
  | some u=>
   show (bO (asP u) λ p=>bO (x t) λ v=>_)=bO (x t) λ v=>bO (asP u) _
   cases asP u with
   | none=>cases x t <;> rfl
   | some p=>cases x t <;> rfl
 ·show (bO (xL xs t) λ vs=>match vs with
   | v::l=>maxS b v l
   | []=>none)=_
  cases xL xs t with
  | none=>rfl
  | some vs=>cases vs <;> rfl
 ·show bO (bO (xL xs t) λ vs=>bO (kcat z vs) λ cs=>some (NR.new (.cells cs .fixed) (SV.slice · 0 n s (some n)))) _=_
  cases xL xs t with
  | none=>rfl
  | some vs=>
   show bO (bO (kcat z vs) _) _=bO (kcat z vs) _
   cases kcat z vs <;> rfl
 ·show bO (bO (x t) λ u=>bO (y t) λ v=>bO (asInt u) λ n=>bO (asInt v) λ m=>bO (intN n) λ n=>bO (intN m) λ m=>bB (Nat.ble n m&&Nat.ble (m * (b+s+1)) 1099511627776) (some (NR.new (.cells (repeatCells z m) .fixed) (SV.slice · 0 n s (some m)))) none) _=_
  cases x t with
  | none=>rfl
  | some u=>
   cases y t with
   | none=>rfl
   | some v=>
    show bO (bO (asInt u) _) _=on2 (makeV b s z u v h) K
    unfold makeV
    cases asInt u with
    | none=>rfl
    | some n=>
     cases asInt v with
     | none=>rfl
     | some m=>
      show bO (bO (intN n) _) _=on2 (bO (intN n) _) K
      cases intN n with
      | none=>rfl
      | some n=>
       show bO (bO (intN m) _) _=on2 (bO (intN m) _) K
       cases intN m with
       | none=>rfl
       | some m=>
        show bO (bB (Nat.ble n m&&Nat.ble (m * (b+s+1)) 1099511627776) _ none) _=on2 (bB (Nat.ble n m&&Nat.ble (m * (b+s+1)) 1099511627776) _ none) K
        cases (Nat.ble n m&&Nat.ble (m * (b+s+1)) 1099511627776) <;> rfl
theorem rowCells_push {h:H} {cs:List SV}:rowCells (h.push (.cells cs .fixed)).get h.next=some cs:=by unfold rowCells;rw [H.get_push,if_pos rfl]
theorem rowCells_put {h:H} {p:Nat} {cs cs':List SV} (e:h.get p=some (.cells cs .fixed)):rowCells (h.put p (.cells cs' .fixed)).get p=some cs':=by
 unfold rowCells;rw [H.get_put _ _ _ _ (H.get_lt e),if_pos rfl]
theorem rowCells_fixed {h:H} {p:Nat} {cs:List SV} (e:h.get p=some (.cells cs .fixed)):rowCells h.get p=some cs:=by unfold rowCells;rw [e]
theorem loadV_one {g:Nat→Option SObj} {id o:Nat} {all:List SV} (h2:rowCells g id=some all):loadV none g (.ptr id o)=all[o]?:=by
 show bO (rowCells g id) (λ cs=>idxX o cs)=_
 rw [h2];exact idxX_get _ _
theorem loadV_agg {g:Nat→Option SObj} {id:Nat} {a:SV} (h2:rowCells g id=some [a]):loadV (some 1) g (.ptr id 0)=some (.agg [a]):=by
 show bO (rowCells g id) (λ cs=>bO (dropX 0 cs) λ r=>bO (takeX 1 r) λ l=>some (SV.agg l))=_
 rw [h2];rfl
theorem storeV_one {h:H} {p off:Nat} {cs:List SV} {v:SV} (e:h.get p=some (.cells cs .fixed)) (ho:off < cs.length) (hv:v.cells?=some [v]):storeV 1 h (.ptr p off) v=some (.tuple [],h.put p (.cells (cs.set off v) .fixed)):=store_fixed e off v .leaf ho hv
theorem storeV_agg {h:H} {p:Nat} {a b:SV} (e:h.get p=some (.cells [a] .fixed)):storeV 1 h (.ptr p 0) (.agg [b])=some (.tuple [],h.put p (.cells [b] .fixed)):=by
 have h1:storeX h p 0 [b]=some (h.put p (.cells [b] .fixed)):=by
  unfold storeX;rw [e];rfl
 show bO (storeX h p 0 [b]) _=_
 rw [h1];rfl
theorem View.loadV {h:H} {n:Nat} {v:SV} {cs:List SV} (w:View h 1 v n cs) {i:Nat} (hi:i < n):∃ p,atIdx 1 i v=some p∧loadV none h.get p=cs[i]?:=by
 obtain ⟨h1,⟨rfl,rfl⟩ | ⟨id,off,cap,all,rfl,h2,h3,h4⟩⟩:=w
 ·omega
 ·refine ⟨.ptr id (off+i * 1),?_,?_⟩
  ·show bB (Nat.blt i n) _ _=_
   rw [show Nat.blt i n=true from Nat.ble_eq_true_of_le hi];rfl
  ·rw [loadV_one h2]
   unfold takeCells at h3
   split at h3
   ·cases h3
    rw [List.getElem?_take_of_lt (by omega),List.getElem?_drop,Nat.mul_one]
   ·cases h3
theorem View.upto {h:H} {es n:Nat} {v:SV} {cs:List SV} (w:View h es v n cs) (k:Nat) (hk:k≤n) :
  ∃ v',kslice es v none (some (.int .i64 k)) none=some v'∧View h es v' k (cs.take (k * es))∧(∀ q,isRow v' q→isRow v q):=by
 obtain ⟨v',h1,h2,h3⟩:=w.slice 0 k (Nat.zero_le _) hk
 refine ⟨v',?_,by simpa using h2,h3⟩
 rw [← h1]
 obtain ⟨_,⟨rfl,rfl⟩ | ⟨id,off,cap,all,rfl,_,_,_⟩⟩:=w <;> rfl
theorem View.cells {h:H} {es n:Nat} {v:SV} {cs:List SV} (w:View h es v n cs):v.cells?=some [v]:=by
 obtain ⟨_,⟨rfl,_⟩ | ⟨id,off,cap,all,rfl,_⟩⟩:=w <;> rfl
theorem View.cat {h:H} {es n:Nat} {v:SV} {cs:List SV} (w:View h es v n cs):kcat [1] [v]=some [v]:=by
 obtain ⟨_,⟨rfl,_⟩ | ⟨id,off,cap,all,rfl,_⟩⟩:=w <;> rfl
theorem View.lt {h:H} {es n:Nat} {v:SV} {cs:List SV} (w:View h es v n cs):∀ q,isRow v q→q < h.next:=λ q hq=>by
 obtain ⟨_,⟨rfl,_⟩ | ⟨id,off,cap,all,rfl,e,_⟩⟩:=w
 ·exact hq.elim
 ·rw [show q=id from hq];exact rowCells_lt e
end
end Go.Sh
end
section
/- Rows that grow and are written: insertion, sorting. -/
namespace Go.Sh
inductive Chn (h:H) (lo:Nat):Nat→Option Nat→Prop
 | none {id:Nat}:Chn h lo id none
 | dead {id p:Nat} {cs:List SV} (a:p < id) (b:lo≤p) (e:h.get p=some (.cells cs .dead)):Chn h lo id (some p)
 | step {id p:Nat} {cs:List SV} {par:Option Nat} (a:p < id) (b:lo≤p) (e:h.get p=some (.cells cs (.stale par))) (c:Chn h lo p par):Chn h lo id (some p)
theorem Chn.keep {h h':H} {lo id:Nat} {par:Option Nat} (c:Chn h lo id par) (k:∀ q,lo≤q→q < id→q < h.next→h'.get q=h.get q):Chn h' lo id par:=by
 induction c with
 | none=>exact .none
 | dead a b e=>exact .dead a b (by rw [k _ b a (H.get_lt e)];exact e)
 | step a b e c ih=>exact .step a b (by rw [k _ b a (H.get_lt e)];exact e) (ih λ q h1 h2 h3=>k q h1 (by omega) h3)
theorem Chn.kill {h:H} {lo id:Nat} {par:Option Nat} (c:Chn h lo id par):∀ f,id≤f→∃ h',killUp (f+1) h par=some h'∧Fr (λ q=>lo≤q∧q < id) (λ q=>lo≤q∧q < id) h h':=by
 suffices ∀ id par,Chn h lo id par→∀ (g:H),(∀ q,lo≤q→q < id→q < h.next→g.get q=h.get q)→∀ f,id≤f→∃ h',killUp (f+1) g par=some h'∧Fr (λ q=>lo≤q∧q < id) (λ q=>lo≤q∧q < id) g h' from this id par c h λ _ _ _ _=>rfl
 intro id par c
 induction c with
 | none=>exact λ g _ f _=>⟨g,rfl,.refl⟩
 | @dead id p cs a b e=>
  intro g k f hf
  have e:=(k p b a (H.get_lt e)).trans e
  exact ⟨g,by simp [killUp,e],.refl⟩
 | @step id p cs par a b e c ih=>
  intro g k f hf
  have e:=(k p b a (H.get_lt e)).trans e
  have hp:=H.get_lt e
  obtain ⟨f,rfl⟩:∃ m,f=m+1:=⟨f - 1,by omega⟩
  obtain ⟨h',h1,h2⟩:=ih (g.put p (.cells [] .dead)) (λ q q1 q2 q3=>by
   rw [H.get_put _ _ _ _ hp,if_neg (by omega)];exact k q q1 (by omega) q3) f (by omega)
  refine ⟨h',by rw [killUp];simp only [e];exact h1,?_⟩
  exact (Fr.put (o:=.cells [] .dead) hp |>.mono (λ q _ e=>by subst e;exact ⟨b,a⟩) λ q e=>.inl (by subst e;exact ⟨b,a⟩)).trans (h2.mono (λ q _ e=>⟨e.1,by omega⟩) λ q e=>.inl ⟨e.1,by omega⟩)
def Gro (h:H) (lo es:Nat) (v:SV) (n:Nat) (cs:List SV):Prop:=cs.length=n * es∧((v=.nilslice∧n=0)∨∃ id par,v=.slice id 0 n es none∧lo≤id∧h.get id=some (.cells cs (.grown par))∧Chn h lo id par)
theorem Gro.nil {h:H} {lo es:Nat}:Gro h lo es .nilslice 0 []:=⟨by simp,.inl ⟨rfl,rfl⟩⟩
theorem Gro.buf {h:H} {lo es n:Nat} {v:SV} {cs:List SV} (g:Gro h lo es v n cs):Buf h es v n cs:=by
 obtain ⟨h1,h2 | ⟨id,par,h2,_,h3,_⟩⟩:=g
 ·exact ⟨h1,.inl h2⟩
 ·exact ⟨h1,.inr ⟨id,par,h2,h3⟩⟩
theorem Gro.row {h:H} {lo es n:Nat} {v:SV} {cs:List SV} (g:Gro h lo es v n cs):∀ q,isRow v q→lo≤q:=λ q hq=>by
 obtain ⟨_,⟨rfl,_⟩ | ⟨id,par,rfl,h2,_⟩⟩:=g
 ·exact hq.elim
 ·rw [show q=id from hq];exact h2
theorem Buf.view' {h:H} {es n:Nat} {v:SV} {cs:List SV} (b:Buf h es v n cs):View h es v n cs:=by
 obtain ⟨h1,h2 | ⟨id,par,rfl,h3⟩⟩:=b
 ·exact ⟨h1,.inl h2⟩
 ·refine ⟨h1,.inr ⟨id,0,none,cs,rfl,by unfold rowCells;rw [h3],?_,λ c q=>by cases q⟩⟩
  unfold takeCells
  rw [if_pos (by omega),List.drop_zero,← h1,List.take_length]
theorem Gro.view {h:H} {lo es n:Nat} {v:SV} {cs:List SV} (g:Gro h lo es v n cs):View h es v n cs:=g.buf.view'
theorem Gro.keep {h h':H} {lo es n:Nat} {v:SV} {cs:List SV} {S W:Nat→Prop} (g:Gro h lo es v n cs) (f:Fr S W h h') (hn:∀ q,lo≤q→¬S q):Gro h' lo es v n cs:=by
 obtain ⟨h1,h2 | ⟨id,par,h2,h3,h4,h5⟩⟩:=g
 ·exact ⟨h1,.inl h2⟩
 ·exact ⟨h1,.inr ⟨id,par,h2,h3,f.get h4 (hn id h3),h5.keep λ q q1 _ q2=>f.keep q q2 (hn q q1)⟩⟩
theorem Gro.append {h:H} {lo bytes es n:Nat} {v:SV} {cs:List SV} (g:Gro h lo es v n cs) (k:Nat) (new:List SV) (hk:new.length=k * es) (hmax:(n+k) * (bytes+es+1)≤1099511627776) (hlo:lo≤h.next) :
  ∃ v' h',kappend h bytes es k new v=some (v',h')∧Gro h' lo es v' (n+k) (cs++new)∧Fr (lo≤·) (λ _=>False) h h':=by
 obtain ⟨h1,⟨rfl,rfl⟩ | ⟨id,par,rfl,h2,h3,h4⟩⟩:=g
 ·have hc:cs=[]:=List.eq_nil_of_length_eq_zero (by simpa using h1)
  subst hc
  by_cases k0:k=0
  ·subst k0
   have hn:new=[]:=List.eq_nil_of_length_eq_zero (by simpa using hk)
   subst hn
   exact ⟨.nilslice,h,rfl,.nil,.refl⟩
  ·have e1:Nat.beq k 0=false:=by cases k with | zero=>exact absurd rfl k0 | succ k=>rfl
   have e2:Nat.ble (k * (bytes+es+1)) 1099511627776=true:=Nat.ble_eq_true_of_le (by simpa using hmax)
   refine ⟨.slice h.next 0 k es none,h.push (.cells new (.grown none)),?_,⟨by simp [hk],.inr ⟨h.next,none,by simp,hlo,by rw [H.get_push,if_pos rfl];simp,.none⟩⟩,.push⟩
   show bB (Nat.beq k 0) _ (bB (Nat.ble _ _) _ _)=_
   rw [e1,e2];rfl
 ·have hid:=H.get_lt h3
  have e2:(Nat.ble ((n+k) * (bytes+es+1)) 1099511627776&&Nat.beq es es)=true:=by
   rw [Nat.ble_eq_true_of_le hmax];simp
  by_cases k0:k=0
  ·subst k0
   have hn:new=[]:=List.eq_nil_of_length_eq_zero (by simpa using hk)
   subst hn
   refine ⟨.slice id 0 n es none,h,?_,⟨by simpa using h1,.inr ⟨id,par,rfl,h2,by simpa using h3,h4⟩⟩,.refl⟩
   show bB _ _ _=_
   rw [e2];rfl
  ·have e1:Nat.beq k 0=false:=by cases k with | zero=>exact absurd rfl k0 | succ k=>rfl
   refine ⟨.slice h.next 0 (n+k) es none,(h.mark id (.cells cs (.stale par))).push (.cells (cs++new) (.grown (some id))),?_,⟨by rw [List.length_append,h1,hk,Nat.add_mul],.inr ⟨h.next,some id,rfl,hlo,by rw [H.get_push,H.next_mark,if_pos rfl],.step (cs:=cs) (par:=par) hid h2 ?_ ?_⟩⟩,?_⟩
   ·show bB _ (bB (Nat.beq k 0) _ (growRow h id 0 n es k new)) _=_
    rw [e2,e1]
    show growRow h id 0 n es k new=_
    unfold growRow
    simp only [h3,Nat.zero_add,h1,if_pos,List.drop_zero]
   ·rw [H.get_push,H.next_mark,if_neg (Nat.ne_of_lt hid),H.get_mark _ _ _ _ hid,if_pos rfl]
   ·exact h4.keep λ q q1 q2 q3=>by rw [H.get_push,H.next_mark,if_neg (Nat.ne_of_lt q3),H.get_mark _ _ _ _ hid,if_neg (by omega)]
   ·exact ((Fr.mark hid).mono (λ q _ e=>by subst e;exact h2) (λ q e=>.inl e)).trans Fr.push
theorem Gro.store {h:H} {lo n:Nat} {v:SV} {cs:List SV} (g:Gro h lo 1 v n cs) {i:Nat} (hi:i < n) {x:SV} (hx:x.cells?=some [x]) :
  ∃ p h',atIdx 1 i v=some p∧storeV 1 h p x=some (.tuple [],h')∧Gro h' lo 1 v n (cs.set i x)∧Fr (lo≤·) (lo≤·) h h':=by
 obtain ⟨h1,⟨rfl,rfl⟩ | ⟨id,par,rfl,h2,h3,h4⟩⟩:=g
 ·omega
 ·obtain ⟨h',k1,k2⟩:=h4.kill id (Nat.le_refl _)
  have e:=k2.get h3 (by simp)
  refine ⟨.ptr id i,h'.put id (.cells (cs.set i x) (.grown none)),?_,?_,⟨by simpa using h1,.inr ⟨id,none,rfl,h2,get_put_self e,.none⟩⟩,?_⟩
  ·show bB (Nat.blt i n) (some (SV.ptr id (0+i * 1))) none=_
   rw [show Nat.blt i n=true from Nat.ble_eq_true_of_le hi,Nat.zero_add,Nat.mul_one];rfl
  ·have hl:layX [x] i cs=some (cs.set i x):=by rw [layX_one,if_pos (by omega)]
   have hs:storeX h id i [x]=some (h'.put id (.cells (cs.set i x) (.grown none))):=by
    unfold storeX
    rw [h3]
    simp only [hl,bO]
    rw [show Nat.succ id=id+1 from rfl,k1]
   show bO x.cells? (λ vs=>bB (hasLen 1 vs) (bO (storeX h id i vs) λ h=>some (SV.tuple [],h)) none)=_
   rw [hx]
   show bO (storeX h id i [x]) _=_
   rw [hs];rfl
  ·exact (k2.mono (λ q _ e=>e.1) λ q e=>.inl e.1).trans ((Fr.put (H.get_lt e)).mono (λ q _ e=>by subst e;exact h2) λ q e=>.inl (by subst e;exact h2))
end Go.Sh
end
section
/- Strict calls, and looks at what was. -/
namespace Go.Sh
theorem kz:(∀ f xs c m t h k,sCs f xs c m t h k=bO (xL xs t) λ vs=>on2 (lower m h.low (c f vs ⟨h.next,m,h.tr⟩)) k) ∧
  (∀ F cap xs c m t h k,sXs (xC (.func F cap)) xs c m t h k=bO (xL xs t) λ vs=>on2 (lower m h.low (c F (vs++cap) ⟨h.next,m,h.tr⟩)) k):=⟨λ _ _ _ _ _ _ _=>rfl,λ _ _ _ _ _ _ _ _=>rfl⟩
theorem Fr.weak {S W:Nat→Prop} {h h':H} (f:Fr S W h h'):Fr S (λ _=>True) h h':=f.mono (λ _ _ k=>k) λ _ _=>.inl trivial
theorem strict_call {r:Option (SV × H)} {h h':H} {v:SV} {m:Nat} {S:Nat→Prop} (e:r=some (v,h')) (f:Fr S (λ _=>False) ⟨h.next,m,h.tr⟩ h') (hm:m≤h.next) :
  lower m h.low r=some (v,⟨h'.next,min h.low m,h'.tr⟩)∧Fr S (λ _=>True) h ⟨h'.next,min h.low m,h'.tr⟩:=by
 have hl:m≤h'.low:=f.low m (Nat.le_refl _) hm λ _ k=>k.elim
 refine ⟨?_,f.next,f.keep,λ m' _ _ h3=>?_⟩
 ·rw [e]
  show (if h'.low < m then none else _)=_
  rw [if_neg (by omega)]
 ·have:=h3 0 trivial
  omega
theorem getTo_lt {h:H} {m q:Nat} (hq:q < m):getTo h m q=h.get q:=by unfold getTo;rw [if_pos hq]
theorem rowCells_to {h:H} {m q:Nat} (hq:q < m):rowCells (getTo h m) q=rowCells h.get q:=by unfold rowCells;rw [getTo_lt hq]
end Go.Sh
end
section
/- Whole rows; constants as oracles; texts of bytes. -/
namespace Go.Sh
theorem loadV_all {g:Nat→Option SObj} {id n:Nat} {cs:List SV} (h2:rowCells g id=some cs) (hn:cs.length=n):loadV (some n) g (.ptr id 0)=some (.agg cs):=by
 show bO (rowCells g id) (λ cs=>bO (dropX 0 cs) λ r=>bO (takeX n r) λ l=>some (SV.agg l))=_
 rw [h2]
 show bO (takeX n cs) _=_
 rw [takeX_eq,if_pos (by omega),List.take_of_length_le (by omega)];rfl
theorem loadV_part {g:Nat→Option SObj} {id n o:Nat} {cs:List SV} (h2:rowCells g id=some cs) (hn:o+n≤cs.length):loadV (some n) g (.ptr id o)=some (.agg ((cs.drop o).take n)):=by
 show bO (rowCells g id) (λ cs=>bO (dropX o cs) λ r=>bO (takeX n r) λ l=>some (SV.agg l))=_
 rw [h2]
 show bO (dropX o cs) _=_
 rw [dropX_eq,if_pos (by omega)]
 show bO (takeX n (cs.drop o)) _=_
 rw [takeX_eq,if_pos (by simp;omega)];rfl
theorem storeV_all {h:H} {p n:Nat} {cs vs:List SV} (e:h.get p=some (.cells cs .fixed)) (hc:cs.length=n) (hv:vs.length=n):storeV n h (.ptr p 0) (.agg vs)=some (.tuple [],h.put p (.cells vs .fixed)):=by
 have h1:storeX h p 0 vs=some (h.put p (.cells vs .fixed)):=by
  unfold storeX;rw [e]
  simp only [layX_eq]
  rw [if_pos (by omega),List.take_zero,List.nil_append,List.drop_of_length_le (by omega),List.append_nil];rfl
 show bB (hasLen n vs) (bO (storeX h p 0 vs) _) none=_
 rw [hasLen_eq,decide_eq_true hv,h1];rfl
theorem bytesOf_u8s:∀ bs:List UInt8,bytesOf (u8s bs)=some bs
 | []=>rfl
 | b::bs=>by
  show (bytesOf (u8s bs)).map (UInt8.ofNat (Int.toNat (b.toNat:Int))::·)=_
  rw [bytesOf_u8s bs]
  simp
theorem View.text {h:H} {n:Nat} {v:SV} {bs:List UInt8} (w:View h 1 v n (u8s bs)):strOf h.get v=some (.str bs):=by
 obtain ⟨h1,⟨rfl,rfl⟩ | ⟨id,off,cap,all,rfl,h2,h3,h4⟩⟩:=w
 ·have:bs=[]:=List.eq_nil_of_length_eq_zero (by simpa [u8s] using h1)
  subst this;rfl
 ·show bO (rowCells h.get id) (λ cs=>bO (dropX off cs) λ r=>bO (takeX n r) λ l=>bO (bytesOf l) λ b=>some (SV.str b))=_
  rw [h2]
  unfold takeCells at h3
  split at h3
  ·rename_i hle
   have h3:=Option.some.inj h3
   rw [Nat.mul_one] at h3 hle
   show bO (dropX off all) _=_
   rw [dropX_eq,if_pos (by omega)]
   show bO (takeX n (all.drop off)) _=_
   rw [takeX_eq,if_pos (by rw [List.length_drop];omega),h3]
   show bO (bytesOf (u8s bs)) _=_
   rw [bytesOf_u8s];rfl
  ·cases h3
def plain1:SV→Bool
 | .bool _=>true
 | .int _ _=>true
 | .str _=>true
 | _=>false
def plainV:SV→Bool
 | .agg cs=>cs.all plain1
 | v=>plain1 v
theorem VRel_plain1 {ι ι':Inj}:∀ {x:SV} {v:Value},plain1 x=true→VRel ι x v→VRel ι' x v:=by
 intro x v hx h
 cases x <;> first | exact h | simp [plain1] at hx
theorem LRel_plain1 {ι ι':Inj}:∀ {l:List SV} {vs:List Value},l.all plain1=true→LRel ι l vs→LRel ι' l vs
 | [],_,_,h=>h
 | x::l,vs,hx,h=>by
  obtain ⟨y,r,rfl,h1,h2⟩:=h
  rw [List.all_cons,Bool.and_eq_true] at hx
  exact ⟨y,r,rfl,VRel_plain1 hx.1 h1,LRel_plain1 hx.2 h2⟩
theorem VRel_plain {ι ι':Inj} {x:SV} {v:Value} (hx:plainV x=true) (h:VRel ι x v):VRel ι' x v:=by
 cases x <;> first | exact VRel_plain1 hx h | skip
 obtain ⟨vs,rfl,h2,h3⟩:=h
 exact ⟨vs,rfl,LRel_plain1 hx h2,h3⟩
noncomputable def xPure (g:List SV→Option SV):List SV→H→Option (SV × H):=λ args h=>match g args with
 | some v=>some (v,h)
 | none=>none
section
variable [Held] {P:Program} {X:FuncId→Option (List SV→H→Option (SV × H))}
theorem xPure_ok (hG:Good P) (hX:OracleOK P X) {f:FuncId} {g:List SV→Option SV} (hg:∀ args v,g args=some v→args.all plain1=true∧plainV v=true∧∃ h',(lim P X).call f args H.empty=some (v,h')) {fn:Func} {c:Code} (hf:P.funcs[f]?=some fn) (hb:fn.body=some c) (hw:∀ B w,Held.nb≤B→HeldAt B w→B≤w.heap.size→HeldAt w.heap.size w) :
  ∀ args h v h',xPure g args h=some (v,h')→∀ B ι w (us:Array Value),St B ι h w→LRel ι args us.toList→Answers P f us w λ v' w'=>∃ ι',VRel ι' v v'∧Moves B ι h w ι' h' w':=by
 intro args h v h1 hx B ι w us hs hl
 unfold xPure at hx
 split at hx
 ·rename_i v0 e
  cases hx
  obtain ⟨p1,p2,h',hr⟩:=hg _ _ e
  refine .inl ⟨enter_run hG hf hb _,(closed_lim hG hX hr (us:=us) (LRel_plain1 p1 hl) hf hb w (hw B w hs.held.1 hs.held hs.base)).mono λ en w' ⟨v',ι',h1,h2,h3⟩=>?_⟩
  exact ⟨_,h1,ι,VRel_plain p2 h2,.below hs h3⟩
 ·cases hx
end
end Go.Sh
end
section
/- Oracles that leave the memory as it was: what a calm call answers, if it leads to nothing new. -/
namespace Go.Sh
mutual
def oldV (n:Nat):SV→Bool
 | .ptr id _=>Nat.blt id n
 | .slice id _ _ _ _=>Nat.blt id n
 | .map id=>Nat.blt id n
 | .func _ cap=>oldL n cap
 | .iface _ x=>oldV n x
 | .agg cs=>oldL n cs
 | .tuple xs=>oldL n xs
 | _=>true
def oldL (n:Nat):List SV→Bool
 | []=>true
 | x::l=>oldV n x&&oldL n l
end
theorem blt_lt {a b:Nat} (h:Nat.blt a b=true):a < b:=Nat.le_of_ble_eq_true h
mutual
theorem VRel_old {ι ι':Inj} {n:Nat} (hd:∀ id x,ι' id=some x→id < n→ι id=some x):∀ (x:SV) (v:Value),oldV n x=true→VRel ι' x v→VRel ι x v
 | .bool _,_,_,e=>e
 | .int _ _,_,_,e=>e
 | .float _ _,_,_,e=>e
 | .cpx _ _ _,_,_,e=>e
 | .str _,_,_,e=>e
 | .nilptr,_,_,e=>e
 | .ptr id off,_,q,⟨b,o,s,hi,e⟩=>⟨b,o,s,hd _ _ hi (blt_lt q),e⟩
 | .nilslice,_,_,e=>e
 | .slice _ _ _ _ _,_,q,⟨b,o,s,c,hi,e⟩=>⟨b,o,s,c,hd _ _ hi (blt_lt q),e⟩
 | .nilmap,_,_,e=>e
 | .map id,_,q,⟨b,o,s,hi,e⟩=>⟨b,o,s,hd _ _ hi (blt_lt q),e⟩
 | .nilfunc,_,_,e=>e
 | .func _ cap,_,q,⟨vs,e,l⟩=>⟨vs,e,LRel_old hd cap _ q l⟩
 | .niliface,_,_,e=>e
 | .iface _ x,_,q,⟨y,e,l⟩=>⟨y,e,VRel_old hd x _ q l⟩
 | .agg cs,_,q,⟨vs,e,l,k⟩=>⟨vs,e,LRel_old hd cs _ q l,k⟩
 | .tuple xs,_,q,⟨vs,e,l⟩=>⟨vs,e,LRel_old hd xs _ q l⟩
theorem LRel_old {ι ι':Inj} {n:Nat} (hd:∀ id x,ι' id=some x→id < n→ι id=some x):∀ (xs:List SV) (vs:List Value),oldL n xs=true→LRel ι' xs vs→LRel ι xs vs
 | [],_,_,e=>e
 | x::xs,_,q,⟨y,r,e,hx,l⟩=>by
  have q:(oldV n x&&oldL n xs)=true:=q
  rw [Bool.and_eq_true] at q
  exact ⟨y,r,e,VRel_old hd x _ q.1 hx,LRel_old hd xs _ q.2 l⟩
end
/- what is known of its places in one way is known in a lesser way that knows them too -/
mutual
theorem VRel_back {ι ι':Inj} (hl:ι.le ι'):∀ (x:SV) (v v':Value),VRel ι x v→VRel ι' x v'→VRel ι x v'
 | .bool _,_,_,_,e=>e
 | .int _ _,_,_,_,e=>e
 | .float _ _,_,_,_,e=>e
 | .cpx _ _ _,_,_,_,e=>e
 | .str _,_,_,_,e=>e
 | .nilptr,_,_,_,e=>e
 | .ptr _ _,_,_,⟨b,o,s,hi,e⟩,⟨b',o',s',hi',e'⟩=>by
  have:=(hl _ _ hi).symm.trans hi';cases this;exact ⟨b,o,s,hi,e'⟩
 | .nilslice,_,_,_,e=>e
 | .slice _ _ _ _ _,_,_,⟨b,o,s,c,hi,e⟩,⟨b',o',s',c',hi',e'⟩=>by
  have:=(hl _ _ hi).symm.trans hi';cases this;exact ⟨b,o,s,c',hi,e'⟩
 | .nilmap,_,_,_,e=>e
 | .map _,_,_,⟨b,o,s,hi,e⟩,⟨b',o',s',hi',e'⟩=>by
  have:=(hl _ _ hi).symm.trans hi';cases this;exact ⟨b,o,s,hi,e'⟩
 | .nilfunc,_,_,_,e=>e
 | .func _ cap,_,_,⟨vs,e,l⟩,⟨vs',e',l'⟩=>⟨vs',e',LRel_back hl cap _ _ l l'⟩
 | .niliface,_,_,_,e=>e
 | .iface _ x,_,_,⟨y,e,l⟩,⟨y',e',l'⟩=>⟨y',e',VRel_back hl x _ _ l l'⟩
 | .agg cs,_,_,⟨vs,e,l,k⟩,⟨vs',e',l',k'⟩=>⟨vs',e',LRel_back hl cs _ _ l l',k'⟩
 | .tuple xs,_,_,⟨vs,e,l⟩,⟨vs',e',l'⟩=>⟨vs',e',LRel_back hl xs _ _ l l'⟩
theorem LRel_back {ι ι':Inj} (hl:ι.le ι'):∀ (xs:List SV) (vs vs':List Value),LRel ι xs vs→LRel ι' xs vs'→LRel ι xs vs'
 | [],_,_,_,e=>e
 | x::xs,_,_,⟨y,r,e,hx,l⟩,⟨y',r',e',hx',l'⟩=>⟨y',r',e',VRel_back hl x _ _ hx hx',LRel_back hl xs _ _ l l'⟩
end
theorem ERel_back {ι ι':Inj} (hl:ι.le ι'):∀ (es:List (SV × SV × Nat)) (vs vs':List MapEntry),ERel ι es vs→ERel ι' es vs'→ERel ι es vs'
 | [],_,_,_,e=>e
 | (_,_,_)::es,_,_,⟨e,r,q,hk,hv,hb,l⟩,⟨e',r',q',hk',hv',hb',l'⟩=>⟨e',r',q',VRel_back hl _ _ _ hk hk',VRel_back hl _ _ _ hv hv',hb',ERel_back hl es _ _ l l'⟩
section
variable [Held] {P:Program} {X:FuncId→Option (List SV→H→Option (SV × H))} {B:Nat} {ι ι':Inj} {h h':H} {w w':World}
theorem Moves.calm (hs:St B ι h w) (m:Moves B ι h w ι' h' w') (hc:∀ q,q < h.next→h'.get q=h.get q):Moves B ι h w ι h w':=by
 have hsim:Sim B ι h.get w':=by
  refine ⟨λ id b o s hi=>?_,hs.sim.par,hs.sim.sep⟩
  obtain ⟨ob,h1,h2,h3,h4⟩:=hs.sim.obj id b o s hi
  obtain ⟨ob',k1,k2,k3,k4⟩:=m.st.sim.obj id b o s (m.ext.inj _ _ hi)
  rw [hc id (hs.fresh _ _ hi),h1] at k1
  cases k1
  refine ⟨ob,h1,?_,k3,h4⟩
  rcases k2 with k2 | k2
  ·exact .inl k2
  ·rcases h2 with h2 | h2
   ·exact .inl h2
   ·refine .inr ?_
    cases ob with
    | cells cs md=>
     obtain ⟨rc,el,fz,a1,a2,a3,a4,a5,a6,a7⟩:=h2
     obtain ⟨rc',el',fz',b1,b2,b3,b4,b5,b6,b7⟩:=k2
     exact ⟨rc',el',fz',b1,b2,b3,LRel_back m.ext.inj _ _ _ a4 b4,b5,b6,b7⟩
    | map es c=>
     obtain ⟨es1,a1,a2⟩:=h2
     obtain ⟨es2,b1,b2⟩:=k2
     exact ⟨es2,b1,ERel_back m.ext.inj _ _ _ a2 b2⟩
 exact ⟨⟨hsim,hs.fresh,m.st.base,m.st.held⟩,⟨Inj.le_refl _,Nat.le_refl _,λ _ _ e=>.inl e,(λ _ _ _=>by omega),m.ext.os,m.ext.tape,m.ext.output,m.ext.size,m.ext.frame,(λ _ _ e e'=>by rw [e] at e';cases e'),
  (λ _ _ _ _ _ e e'=>by rw [e] at e';cases e';rfl),λ _ _ _=>rfl⟩,.refl⟩
noncomputable def xCalm (g:List SV→H→Option SV):List SV→H→Option (SV × H):=λ args h=>match g args h with
 | some v=>some (v,h)
 | none=>none
theorem xCalm_ok (hG:Good P) (hX:OracleOK P X) {f:FuncId} {g:List SV→H→Option SV} (hg:∀ args h v,g args h=some v→∃ h',(lim P X).call f args h=some (v,h')∧(∀ q,q < h.next→h'.get q=h.get q)∧oldV h.next v=true) :
  ∀ args h v h',xCalm g args h=some (v,h')→∀ B ι w (us:Array Value),St B ι h w→LRel ι args us.toList→Answers P f us w λ v' w'=>∃ ι',VRel ι' v v'∧Moves B ι h w ι' h' w':=by
 intro args h v h1 hx B ι w us hs hl
 unfold xCalm at hx
 split at hx
 ·rename_i v0 e
  cases hx
  obtain ⟨h',k1,k2,k3⟩:=hg _ _ _ e
  have fin:∀ v' w',(∃ ι',VRel ι' v v'∧Moves B ι h w ι' h' w')→∃ ι',VRel ι' v v'∧Moves B ι h w ι' h w':=λ v' w' ⟨ι',a1,a2⟩=>
   ⟨ι,VRel_old (λ id x e1 e2=>(a2.ext.dom id x e1).elim (λ e3=>e3) λ e3=>by omega) _ _ k3 a1,a2.calm hs k2⟩
  rcases lim_ok hG hX f args h _ h' k1 B ι w us hs hl with ⟨a1,a2⟩ | ⟨v',w',a1,a2⟩
  ·exact .inl ⟨a1,a2.mono λ en w' ⟨v',e1,e2⟩=>⟨v',e1,fin _ _ e2⟩⟩
  ·exact .inr ⟨v',w',a1,fin _ _ a2⟩
 ·cases hx
abbrev OrL:=List (Nat × (List SV→H→Option (SV × H)))
noncomputable def orGet (X:FuncId→Option (List SV→H→Option (SV × H))):OrL→FuncId→Option (List SV→H→Option (SV × H))
 | [],f=>X f
 | x::l,f=>bB (Nat.beq f x.1) (some x.2) (orGet X l f)
def OrOK (P:Program) (x:Nat × (List SV→H→Option (SV × H))):Prop:=∀ args h v h',x.2 args h=some (v,h')→∀ B ι w (us:Array Value),St B ι h w→LRel ι args us.toList→Answers P x.1 us w λ v' w'=>∃ ι',VRel ι' v v'∧Moves B ι h w ι' h' w'
def AllOr (P:Program):OrL→Prop
 | []=>True
 | x::l=>OrOK P x∧AllOr P l
theorem orGet_ok (hX:OracleOK P X):∀ {l:OrL},AllOr P l→OracleOK P (orGet X l)
 | [],_=>hX
 | x::l,⟨a,b⟩=>λ f g e=>by
  unfold orGet at e
  cases hb:Nat.beq f x.1
  ·rw [hb] at e;exact orGet_ok hX b f g e
  ·rw [hb] at e
   cases e
   have:=Nat.eq_of_beq_eq_true hb;subst this
   exact a
end
end Go.Sh
end
section
/- General facts: rows that are full and grow, wrapping, whole numbers' digits. -/
namespace Go.Sh
theorem wrapI64 {x:Int} (h:-9223372036854775808≤x) (h':x < 9223372036854775808):IntKind.i64.wrap x=x:=by
 show (if decide (x % 18446744073709551616 ≥ 9223372036854775808)=true then x % 18446744073709551616 - 18446744073709551616 else x % 18446744073709551616)=x
 simp only [decide_eq_true_eq]
 split <;> omega
theorem wrapU64 (x:Int):IntKind.u64.wrap x=x % 18446744073709551616:=by unfold IntKind.wrap;simp [IntKind.bits,IntKind.signed]
theorem wrapU8 (x:Int):IntKind.u8.wrap x=x % 256:=by unfold IntKind.wrap;simp [IntKind.bits,IntKind.signed]
theorem ltIt {a b:Int} (h:a < b):ltI a b=true:=by rw [ltI_eq];exact decide_eq_true h
theorem ltIf {a b:Int} (h:¬a < b):ltI a b=false:=by rw [ltI_eq];exact decide_eq_false h
theorem eqIt {a b:Int} (h:a=b):eqI a b=true:=by rw [eqI_eq];exact decide_eq_true h
theorem eqIf {a b:Int} (h:a≠b):eqI a b=false:=by rw [eqI_eq];exact decide_eq_false h
abbrev Calms (h h':H):Prop:=Fr (λ _=>False) (λ _=>False) h h'
theorem Fr.new {h h1 h2:H} (f1:Calms h h1) {S W:Nat→Prop} (f2:Fr S W h1 h2) (hs:∀ q,S q→h.next≤q) (hw:∀ q,W q→h.next≤q):Calms h h2:=
 ((f1.mono (S':=S) (W':=W) (λ _ _ k=>k.elim) (λ _ k=>k.elim)).trans f2).mono (λ q hq e=>by have:=hs q e;omega) (λ q e=>.inr (hw q e))
theorem kc:(∀ t h p s,kres t h (.cell p s)=bO (getP p t) (loadV s h.get))∧(∀ t h p,kres t h (.tmp p)=getP p t)∧(∀ t h,kresL t h []=some [])∧(∀ t h r l,kresL t h (r::l)=bO (kres t h r) λ v=>bO (kresL t h l) λ vs=>some (v::vs)):=⟨λ _ _ _ _=>rfl,λ _ _ _=>rfl,λ _ _=>rfl,λ _ _ _ _=>rfl⟩
theorem Calms.get {h h':H} (f:Calms h h'):∀ q,q < h.next→h'.get q=h.get q:=λ q hq=>f.keep q hq λ k=>k
theorem calm_push {h h1:H} {o:SObj} (e:h.push o=h1):Calms h h1:=by rw [← e];exact .push
theorem get_pushed {h h1:H} {o:SObj} (e:h.push o=h1):h1.get h.next=some o:=by rw [← e,H.get_push,if_pos rfl]
theorem view_row {h:H} {id n es:Nat} {cs:List SV} (e:rowCells h.get id=some cs) (hl:cs.length=n * es):View h es (.slice id 0 n es (some n)) n cs:=by
 refine ⟨by omega,.inr ⟨id,0,some n,cs,rfl,e,?_,λ c q=>by cases q;exact Nat.le_refl _⟩⟩
 unfold takeCells
 rw [if_pos (by omega),List.drop_zero,← hl,List.take_length]
theorem full_append {h:H} {id n es bytes:Nat} {cs:List SV} (hg:h.get id=some (.cells cs .fixed)) (hl:cs.length=n * es) (k:Nat) (new:List SV) (hk:new.length=k * es) (hmax:(n+k) * (bytes+es+1)≤1099511627776) :
  ∃ v' h',kappend h bytes es k new (.slice id 0 n es (some n))=some (v',h')∧View h' es v' (n+k) (cs++new)∧Calms h h'∧(∀ q,isRow v' q→q=id∨h.next≤q):=by
 have hrow:rowCells h.get id=some cs:=by unfold rowCells;rw [hg]
 have e2:(Nat.ble ((n+k) * (bytes+es+1)) 1099511627776&&Nat.beq es es)=true:=by
  rw [Nat.ble_eq_true_of_le hmax];simp
 have e:kappend h bytes es k new (.slice id 0 n es (some n))=appendKnown h id 0 n es n k new:=by
  show bB _ _ none=_
  rw [e2];rfl
 rw [e]
 by_cases k0:k=0
 ·subst k0
  have hn:new=[]:=List.eq_nil_of_length_eq_zero (by simpa using hk)
  subst hn
  refine ⟨.slice id 0 n es (some n),h,by unfold appendKnown;rw [if_pos (by omega)];rfl,⟨by simp [hl],.inr ⟨id,0,some n,cs,rfl,hrow,?_,λ c q=>by cases q;omega⟩⟩,.refl,λ q hq=>.inl hq⟩
  unfold takeCells
  rw [if_pos (by simp [hl]),List.drop_zero,List.append_nil,List.take_of_length_le (by simp [hl])]
 ·refine ⟨.slice h.next 0 (n+k) es none,h.push (.cells (cs++new) (.grown none)),?_,⟨by simp [hl,hk,Nat.add_mul],.inr ⟨h.next,0,none,cs++new,rfl,by unfold rowCells;rw [H.get_push,if_pos rfl],?_,λ c q=>by cases q⟩⟩,.push,λ q hq=>.inr (by rw [show q=h.next from hq];exact Nat.le_refl _)⟩
  ·unfold appendKnown
   rw [if_neg (by omega),hrow]
   have:takeCells cs 0 (n * es)=some cs:=by
    unfold takeCells
    rw [if_pos (by omega),List.drop_zero,List.take_of_length_le (by omega)]
   simp only [this]
  ·unfold takeCells
   rw [if_pos (by simp [hl,hk,Nat.add_mul]),List.drop_zero,List.take_of_length_le (by simp [hl,hk,Nat.add_mul])]
theorem append_V {h h':H} {es m bytes:Nat} {s v v':SV} {new:List SV} (w:View h es v m new) (e:kappend h bytes es m new s=some (v',h')):appendV bytes es h s v=some (v',h'):=by
 show bO (srcLen v) (λ k=>bO (srcCells h.get es k v) λ new=>kappend h bytes es k new s)=_
 rw [w.src.1]
 show bO (srcCells h.get es m v) _=_
 rw [w.src.2]
 exact e
theorem View.at {h:H} {es n:Nat} {v:SV} {cs:List SV} (w:View h es v n cs) {i:Nat} (hi:i < n):∃ id o all,atIdx es i v=some (.ptr id o)∧isRow v id∧rowCells h.get id=some all∧o+es≤all.length∧(all.drop o).take es=(cs.drop (i * es)).take es:=by
 obtain ⟨h1,⟨rfl,rfl⟩ | ⟨id,off,cap,all,rfl,h2,h3,h4⟩⟩:=w
 ·omega
 ·have hm:i * es+es≤n * es:=by rw [← Nat.succ_mul];exact Nat.mul_le_mul_right _ hi
  have h5:=take_part h3 hm
  unfold takeCells at h5
  split at h5
  ·rename_i hle
   refine ⟨id,off+i * es,all,?_,rfl,h2,hle,by simpa using h5⟩
   show bB (Nat.blt i n) _ _=_
   rw [show Nat.blt i n=true from Nat.ble_eq_true_of_le hi];rfl
  ·cases h5
theorem lc_or [Held] {P:Program} {X:FuncId→Option (List SV→H→Option (SV × H))} {f:FuncId} {g:List SV→H→Option (SV × H)} (e:X f=some g) (args:List SV) (h:H):(lim P X).call f args h=g args h:=by
 rw [call_eq]
 show (match X f with
  | some g=>g args h
  | none=>_)=_
 rw [e]
theorem enG [Held] {P:Program} {X:FuncId→Option (List SV→H→Option (SV × H))} {K:FuncId→Option KF} (hK:∀ f kf,K f=some kf→Compiled P f kf) {f:FuncId} {kf:KF} (hX:X f=none) (hk:K f=some kf) (n:Nat) {args:List SV} {h:H} {Q:SV→H→Prop} {sl:List Pth} {b:Cd} {rs:List RF} (he:kf=⟨sl,b,rs⟩) {t:T} (ha:argsP sl args .leaf=some t)
  (g:Gets (b n (lim P X).call t h) λ fl t h=>(fl=.normal∨fl=.ret)∧∃ vs,kresL t h rs=some vs∧Q (oneS vs) h):∃ v h',(lim P X).call f args h=some (v,h')∧Q v h':=by
 obtain ⟨v,h',k1,k2⟩:=gets_fin g
 refine ⟨v,h',lim_enter hK hX hk (n:=n) ?_,k2⟩
 rw [he,enter_eq,ha]
 exact k1
theorem calm_trans3 {a b c d:H} (f:Calms a b) (g:Calms b c) (k:Calms c d):Calms a d:=(f.trans g).trans k
theorem modI64 {x m:Int}:arithInt .rem .i64 x m=if m=0 then none else some (x.tmod m):=by
 unfold arithInt;rfl
end Go.Sh
end
