/- Plain words: slices of texts; names. -/
import Derived.Test.YtpjpiigachahkaaGreatDoorSh18
set_option linter.unusedVariables false
set_option linter.unusedSimpArgs false
set_option linter.unusedSectionVars false
namespace Go.Sh
theorem slice_from {s:List UInt8} {k:Nat} (h:k≤s.length):sliceStr s (some (.int .i64 (k:Int))) none none=some (.str (s.drop k)):=by
 show (match boundOf 0 (some (.int .i64 (k:Int))),boundOf s.length none with
  | some l,some h=>if l≤h∧h≤s.length then some (SV.str ((s.take h).drop l)) else none
  | _,_=>none)=_
 have e:boundOf 0 (some (SV.int .i64 (k:Int)))=some k:=by
  show (if (0:Int)≤(k:Int) then some ((k:Int).toNat) else none)=_
  rw [if_pos (by omega)];simp
 have e2:boundOf s.length none=some s.length:=rfl
 rw [e,e2]
 simp only
 rw [if_pos ⟨h,Nat.le_refl _⟩,List.take_length]
theorem slice_to {s:List UInt8} {k:Nat} (h:k≤s.length):sliceStr s none (some (.int .i64 (k:Int))) none=some (.str (s.take k)):=by
 show (match boundOf 0 none,boundOf s.length (some (.int .i64 (k:Int))) with
  | some l,some h=>if l≤h∧h≤s.length then some (SV.str ((s.take h).drop l)) else none
  | _,_=>none)=_
 have e:boundOf s.length (some (SV.int .i64 (k:Int)))=some k:=by
  show (if (0:Int)≤(k:Int) then some ((k:Int).toNat) else none)=_
  rw [if_pos (by omega)];simp
 have e2:boundOf 0 none=some 0:=rfl
 rw [e,e2]
 simp only
 rw [if_pos ⟨Nat.zero_le _,h⟩,List.drop_zero]
theorem slice_mid {s:List UInt8} {i k:Nat} (h:i≤k) (h':k≤s.length):sliceStr s (some (.int .i64 (i:Int))) (some (.int .i64 (k:Int))) none=some (.str ((s.take k).drop i)):=by
 show (match boundOf 0 (some (.int .i64 (i:Int))),boundOf s.length (some (.int .i64 (k:Int))) with
  | some l,some h=>if l≤h∧h≤s.length then some (SV.str ((s.take h).drop l)) else none
  | _,_=>none)=_
 have e:∀ d (k:Nat),boundOf d (some (SV.int .i64 (k:Int)))=some k:=λ d k=>by
  show (if (0:Int)≤(k:Int) then some ((k:Int).toNat) else none)=_
  rw [if_pos (by omega)];simp
 rw [e,e]
 simp only
 rw [if_pos ⟨h,h'⟩]
theorem eqB_not {a b:List UInt8} (h:a≠b):eqB a b=false:=by
 cases e:eqB a b with
 | false=>rfl
 | true=>rw [eqB_eq] at e;rw [eqBytes_eq] at e;exact absurd (by simpa using e) h
theorem eqB_dec (a b:List UInt8):eqB a b=decide (a=b):=by
 by_cases h:a=b
 ·subst h;rw [eqB_self,decide_eq_true rfl]
 ·rw [eqB_not h,decide_eq_false h]
theorem isB_tuple:∀ w l,isB w (.tuple l)=false:=λ _ _=>rfl
theorem ku:(∀ x lo hi t,vSliceS x lo hi t=bO (x t) λ u=>bO (asS u) λ s=>bO (xL lo t) λ l=>bO (xL hi t) λ h=>sliceStr s l.head? h.head? none)∧(∀ w l,isB w (.tuple l)=false) ∧
  (∀ (a:SV) l,(a::l).head?=some a)∧(([]:List SV).head?=none)∧(∀ s,asS (.str s)=some s)∧(∀ (v:List UInt8) (k:List UInt8→Option SV),bO (some v) k=k v):=⟨λ _ _ _ _=>rfl,λ _ _=>rfl,λ _ _=>rfl,rfl,λ _=>rfl,λ _ _=>rfl⟩
def letB (n:Nat):Bool:=(Nat.ble 97 n&&Nat.ble n 122) || ((Nat.ble 65 n&&Nat.ble n 90) || Nat.beq n 95)
def digB (n:Nat):Bool:=Nat.ble 48 n&&Nat.ble n 57
theorem letB_false {n:Nat} (h:¬(97≤n∧n≤122)) (h':¬(65≤n∧n≤90)) (h2:n≠95):letB n=false:=by
 cases e:letB n with
 | false=>rfl
 | true=>
  simp [letB,Nat.ble_eq] at e
  omega
theorem letB_true {n:Nat} (h:97≤n∧n≤122∨65≤n∧n≤90∨n=95):letB n=true:=by
 simp [letB,Nat.ble_eq];omega
theorem digB_false {n:Nat} (h:¬(48≤n∧n≤57)):digB n=false:=by
 cases e:digB n with
 | false=>rfl
 | true=>simp [digB,Nat.ble_eq] at e;omega
theorem digB_true {n:Nat} (h:48≤n∧n≤57):digB n=true:=by
 simp [digB,Nat.ble_eq];omega
def nameTail:List UInt8→Bool
 | []=>true
 | c::l=>(letB c.toNat || digB c.toNat)&&nameTail l
def nameB:List UInt8→Bool
 | []=>false
 | c::l=>letB c.toNat&&(nameTail l&&Nat.ble l.length 29)
def okAt (i:Nat) (c:UInt8):Bool:=letB c.toNat || (decide (i≠0)&&digB c.toNat)
theorem nameTail_iff:∀ {l:List UInt8} {k:Nat},0 < k→(nameTail l=true ↔ ∀ i c,l[i]?=some c→okAt (k+i) c=true)
 | [],k,_=>by simp [nameTail]
 | x::l,k,hk=>by
  have ih:=nameTail_iff (l:=l) (k:=k+1) (by omega)
  unfold nameTail
  rw [Bool.and_eq_true,ih]
  constructor
  ·rintro ⟨h1,h2⟩ i c hc
   cases i with
   | zero=>
    simp at hc;subst hc
    unfold okAt
    have:decide (k+0≠0)=true:=decide_eq_true (by omega)
    rw [this,Bool.true_and];exact h1
   | succ i=>
    have:=h2 i c (by simpa using hc)
    rw [show k+(i+1)=k+1+i by omega];exact this
  ·intro h
   refine ⟨?_,λ i c hc=>?_⟩
   ·have:=h 0 x rfl
    unfold okAt at this
    have e:decide (k+0≠0)=true:=decide_eq_true (by omega)
    rw [e,Bool.true_and] at this;exact this
   ·have:=h (i+1) c (by simpa using hc)
    rw [show k+1+i=k+(i+1) by omega];exact this
theorem nameB_iff {s:List UInt8}:nameB s=true ↔ s≠[]∧s.length≤30∧∀ i c,s[i]?=some c→okAt i c=true:=by
 cases s with
 | nil=>simp [nameB]
 | cons x l=>
  unfold nameB
  rw [Bool.and_eq_true,Bool.and_eq_true,nameTail_iff (k:=1) (by omega)]
  have hb:Nat.ble l.length 29=true ↔ l.length≤29:=⟨Nat.le_of_ble_eq_true,Nat.ble_eq_true_of_le⟩
  rw [hb]
  constructor
  ·rintro ⟨h1,h2,h3⟩
   refine ⟨by simp,by simp;omega,λ i c hc=>?_⟩
   cases i with
   | zero=>
    simp at hc;subst hc
    unfold okAt;rw [h1];rfl
   | succ i=>
    have:=h2 i c (by simpa using hc)
    rw [show i+1=1+i by omega];exact this
  ·rintro ⟨_,h2,h3⟩
   refine ⟨?_,λ i c hc=>?_,by simp at h2;omega⟩
   ·have:=h3 0 x rfl
    unfold okAt at this
    simpa using this
   ·have:=h3 (i+1) c (by simpa using hc)
    rw [show 1+i=i+1 by omega];exact this
noncomputable def cutB:List UInt8→List UInt8→Option (List UInt8)
 | [],s=>some s
 | a::p,s=>match s with
  | []=>none
  | b::s=>bB (Nat.beq a.toNat b.toNat) (cutB p s) none
theorem cutB_iff:∀ (p s:List UInt8),cutB p s=if s.take p.length=p then some (s.drop p.length) else none
 | [],s=>by simp [cutB]
 | a::p,[]=>by simp [cutB]
 | a::p,b::s=>by
  have ih:=cutB_iff p s
  show bB (Nat.beq a.toNat b.toNat) (cutB p s) none=_
  rw [ih]
  cases h:Nat.beq a.toNat b.toNat with
  | true=>
   have:a=b:=UInt8.toNat_inj.1 (Nat.eq_of_beq_eq_true h)
   subst this
   simp only [List.length_cons,List.take_succ_cons,List.cons.injEq,true_and,List.drop_succ_cons]
   rfl
  | false=>
   have:b≠a:=λ e=>by subst e;simp at h
   simp only [List.length_cons,List.take_succ_cons,List.cons.injEq,this,false_and,if_false]
   rfl
end Go.Sh
