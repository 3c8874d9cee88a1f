/- General laws of the proof: a shadow machine of the form, its soundness, and a compiled form of it. -/
import Derived.Test.YtpjpiigachahkaaGreatDoorSh2
import Derived.Test.YtpjpiigachahkaaGreatDoorSh7
import Derived.IntWalk
set_option linter.unusedVariables false
set_option linter.unusedSimpArgs false
set_option linter.unusedSectionVars false
section
/- The compiled machine: slots, numbers, lists; what operations are compiled to does what they do. -/
namespace Go.Sh
theorem wayN_succ (f n:Nat):wayN (f+1) n=if n=0 then .e else if n % 2=1 then .l (wayN f ((n - 1) / 2)) else .r (wayN f ((n - 1) / 2)):=by
 show @Bool.rec (λ _=>Pth) (@Bool.rec (λ _=>Pth) (.r (wayN f ((n - 1) / 2))) (.l (wayN f ((n - 1) / 2))) (Nat.beq (n % 2) 1)) .e (Nat.beq n 0)=_
 cases h0:Nat.beq n 0
 ·have:n≠0:=λ e=>by subst e;simp at h0
  rw [if_neg this]
  cases h1:Nat.beq (n % 2) 1
  ·rw [if_neg (λ e=>by rw [e] at h1;simp at h1)]
  ·rw [if_pos (Nat.eq_of_beq_eq_true h1)]
 ·rw [if_pos (Nat.eq_of_beq_eq_true h0)]
theorem getP_wayN:∀ (f n:Nat) (t:T),n < f→getP (wayN f n) t=t.get n
 | 0,_,_,h=>by omega
 | f+1,n,t,h=>by
  rw [wayN_succ]
  cases t with
  | leaf=>
   rw [Tr.get_leaf]
   split
   ·rfl
   ·split <;> rfl
  | node l v r=>
   rw [Tr.get_node]
   by_cases h0:n=0
   ·rw [if_pos h0,if_pos h0];rfl
   ·rw [if_neg h0,if_neg h0]
    by_cases h1:n % 2=1
    ·rw [if_pos h1,if_pos h1];exact getP_wayN f _ l (by omega)
    ·rw [if_neg h1,if_neg h1];exact getP_wayN f _ r (by omega)
theorem getP_way (n:Nat) (t:T):getP (way n) t=t.get n:=getP_wayN _ n t (Nat.lt_succ_self n)
theorem setP_leaf:∀ (f n g:Nat) (x:SV),n < f→n < g→setP (wayN f n) x .leaf=Tr.one x g n
 | 0,_,_,_,h,_=>by omega
 | _+1,_,0,_,_,h=>by omega
 | f+1,n,g+1,x,h,h'=>by
  rw [wayN_succ,Tr.one_succ]
  by_cases h0:n=0
  ·rw [if_pos h0,if_pos h0];rfl
  ·rw [if_neg h0,if_neg h0]
   by_cases h1:n % 2=1
   ·rw [if_pos h1,if_pos h1]
    show Tr.node (setP (wayN f ((n - 1) / 2)) x .leaf) none .leaf=_
    rw [setP_leaf f _ g x (by omega) (by omega)]
   ·rw [if_neg h1,if_neg h1]
    show Tr.node .leaf none (setP (wayN f ((n - 1) / 2)) x .leaf)=_
    rw [setP_leaf f _ g x (by omega) (by omega)]
theorem setP_wayN:∀ (f n:Nat) (x:SV) (t:T),n < f→setP (wayN f n) x t=t.set n x
 | 0,_,_,_,h=>by omega
 | f+1,n,x,t,h=>by
  cases t with
  | leaf=>exact setP_leaf _ _ _ _ h (Nat.lt_succ_self n)
  | node l v r=>
   rw [wayN_succ,Tr.set_node]
   by_cases h0:n=0
   ·rw [if_pos h0,if_pos h0];rfl
   ·rw [if_neg h0,if_neg h0]
    by_cases h1:n % 2=1
    ·rw [if_pos h1,if_pos h1]
     show Tr.node (setP (wayN f ((n - 1) / 2)) x l) v r=_
     rw [setP_wayN f _ x l (by omega)]
    ·rw [if_neg h1,if_neg h1]
     show Tr.node l v (setP (wayN f ((n - 1) / 2)) x r)=_
     rw [setP_wayN f _ x r (by omega)]
theorem setP_way (n:Nat) (x:SV) (t:T):setP (way n) x t=t.set n x:=setP_wayN _ n x t (Nat.lt_succ_self n)
theorem bO_some {α β:Type} {x:Option α} {k:α→Option β} {b:β} (h:bO x k=some b):∃ a,x=some a∧k a=some b:=by
 cases x with
 | none=>simp [bO] at h
 | some a=>exact ⟨a,rfl,h⟩
theorem bB_some {β:Type} {c:Bool} {a:Option β} {b:β} (h:bB c a none=some b):c=true∧a=some b:=by
 cases c with
 | false=>simp [bB] at h
 | true=>exact ⟨rfl,h⟩
@[simp] theorem bO_none {α β:Type} (k:α→Option β):bO none k=none:=rfl
@[simp] theorem bO_of {α β:Type} (a:α) (k:α→Option β):bO (some a) k=k a:=rfl
@[simp] theorem bB_true {β:Type} (a b:β):bB true a b=a:=rfl
@[simp] theorem bB_false {β:Type} (a b:β):bB false a b=b:=rfl
theorem ltI_eq (a b:Int):ltI a b=decide (a < b):=by
 cases a with
 | ofNat m=>cases b with
  | ofNat n=>
   show Nat.blt m n=_
   rw [Bool.eq_iff_iff];simp [Nat.blt_eq]
  | negSucc n=>show false=_;rw [eq_comm,decide_eq_false_iff_not];simp;omega
 | negSucc m=>cases b with
  | ofNat n=>show true=_;rw [eq_comm,decide_eq_true_iff];simp;omega
  | negSucc n=>
   show Nat.blt n m=_
   rw [Bool.eq_iff_iff];simp [Nat.blt_eq];omega
theorem eqI_eq (a b:Int):eqI a b=decide (a=b):=by
 cases a with
 | ofNat m=>cases b with
  | ofNat n=>
   show Nat.beq m n=_
   rw [Bool.eq_iff_iff];simp [Nat.beq_eq];omega
  | negSucc n=>show false=_;rw [eq_comm,decide_eq_false_iff_not];simp
 | negSucc m=>cases b with
  | ofNat n=>show false=_;rw [eq_comm,decide_eq_false_iff_not];simp
  | negSucc n=>
   show Nat.beq m n=_
   rw [Bool.eq_iff_iff];simp [Nat.beq_eq]
theorem sameK_eq {k k':IntKind} (h:sameK k k'=true):k=k':=by
 cases k <;> cases k' <;> first | rfl | (exfalso;revert h;decide)
theorem sameK_self (k:IntKind):sameK k k=true:=by cases k <;> rfl
theorem wrap_small_i64 {n:Int} (h1:-9223372036854775808≤n) (h2:n≤9223372036854775807):IntKind.i64.wrap n=n:=by
 have h3:(2:Int) ^ IntKind.i64.bits=18446744073709551616:=by decide
 have h4:(2:Int) ^ (IntKind.i64.bits - 1)=9223372036854775808:=by decide
 unfold IntKind.wrap
 simp only [h3,h4,IntKind.signed,Bool.true_and,decide_eq_true_eq]
 split <;> omega
theorem wrap_small_u64 {n:Int} (h1:0≤n) (h2:n≤18446744073709551615):IntKind.u64.wrap n=n:=by
 have h3:(2:Int) ^ IntKind.u64.bits=18446744073709551616:=by decide
 unfold IntKind.wrap
 simp only [h3,IntKind.signed,Bool.false_and,Bool.false_eq_true,if_false]
 omega
theorem wrap_small_u8 {n:Int} (h1:0≤n) (h2:n≤255):IntKind.u8.wrap n=n:=by
 have h3:(2:Int) ^ IntKind.u8.bits=256:=by decide
 unfold IntKind.wrap
 simp only [h3,IntKind.signed,Bool.false_and,Bool.false_eq_true,if_false]
 omega
theorem wrapS_eq (k:IntKind) (n:Int):wrapS k n=k.wrap n:=by
 cases k
 case i64=>
  cases n with
  | ofNat m=>
   show @Bool.rec (λ _=>Int) _ (Int.ofNat m) (Nat.ble m 9223372036854775807)=_
   cases h:Nat.ble m 9223372036854775807
   ·rfl
   ·have:=Nat.le_of_ble_eq_true h
    exact (wrap_small_i64 (by simp) (by simp;omega)).symm
  | negSucc m=>
   show @Bool.rec (λ _=>Int) _ (Int.negSucc m) (Nat.ble m 9223372036854775807)=_
   cases h:Nat.ble m 9223372036854775807
   ·rfl
   ·have:=Nat.le_of_ble_eq_true h
    show Int.negSucc m=_
    exact (wrap_small_i64 (by omega) (by omega)).symm
 case u8=>
  cases n with
  | ofNat m=>
   show @Bool.rec (λ _=>Int) _ (Int.ofNat m) (Nat.ble m 255)=_
   cases h:Nat.ble m 255
   ·rfl
   ·have:=Nat.le_of_ble_eq_true h
    exact (wrap_small_u8 (by simp) (by simp;omega)).symm
  | negSucc m=>rfl
 case u64=>
  cases n with
  | ofNat m=>
   show @Bool.rec (λ _=>Int) _ (Int.ofNat m) (Nat.ble m 18446744073709551615)=_
   cases h:Nat.ble m 18446744073709551615
   ·rfl
   ·have:=Nat.le_of_ble_eq_true h
    exact (wrap_small_u64 (by simp) (by simp;omega)).symm
  | negSucc m=>rfl
 all_goals rfl
theorem asI_some {k:IntKind} {v:SV} {n:Int} (h:asI k v=some n):v=.int k n:=by
 unfold asI at h
 split at h
 ·rename_i k' n'
  obtain ⟨h1,h2⟩:=bB_some h
  cases h2
  rw [sameK_eq h1]
 ·simp at h
theorem asInt_some {v:SV} {n:Int} (h:asInt v=some n):∃ k,v=.int k n:=by
 unfold asInt at h
 split at h
 ·cases h;exact ⟨_,rfl⟩
 ·simp at h
theorem asB_some {v:SV} {b:Bool} (h:asB v=some b):v=.bool b:=by
 unfold asB at h
 split at h
 ·cases h;rfl
 ·simp at h
theorem asS_some {v:SV} {s:List UInt8} (h:asS v=some s):v=.str s:=by
 unfold asS at h
 split at h
 ·cases h;rfl
 ·simp at h
theorem asP_some {v:SV} {p:Nat × Nat} (h:asP v=some p):v=.ptr p.1 p.2:=by
 unfold asP at h
 split at h
 ·cases h;rfl
 ·simp at h
theorem asA_some {v:SV} {cs:List SV} (h:asA v=some cs):v=.agg cs:=by
 unfold asA at h
 split at h
 ·cases h;rfl
 ·simp at h
theorem asF_some {v:SV} {p:FuncId × List SV} (h:asF v=some p):v=.func p.1 p.2:=by
 unfold asF at h
 split at h
 ·cases h;rfl
 ·simp at h
theorem intN_some {n:Int} {k:Nat} (h:intN n=some k):n=k:=by
 cases n with
 | ofNat m=>cases h;rfl
 | negSucc m=>cases h
theorem dropX_eq:∀ (n:Nat) (l:List SV),dropX n l=if n≤l.length then some (l.drop n) else none
 | 0,l=>by show some l=_;simp
 | _+1,[]=>rfl
 | n+1,a::l=>by
  show dropX n l=_
  rw [dropX_eq n l]
  simp
theorem takeX_eq:∀ (n:Nat) (l:List SV),takeX n l=if n≤l.length then some (l.take n) else none
 | 0,l=>by show some []=_;simp
 | n+1,[]=>rfl
 | n+1,a::l=>by
  show bO (takeX n l) _=_
  rw [takeX_eq n l]
  by_cases h:n≤l.length
  ·rw [if_pos h,if_pos (by simp;omega)];rfl
  ·rw [if_neg h,if_neg (by simp;omega)];rfl
theorem idxX_eq:∀ (n:Nat) (l:List SV),idxX n l=l[n]?
 | 0,[]=>rfl
 | 0,_::_=>rfl
 | _+1,[]=>rfl
 | n+1,_::l=>by show idxX n l=_;rw [idxX_eq n l];rfl
theorem hasLen_eq:∀ (n:Nat) (l:List SV),hasLen n l=decide (l.length=n)
 | 0,[]=>rfl
 | 0,_::_=>rfl
 | _+1,[]=>rfl
 | n+1,_::l=>by show hasLen n l=_;rw [hasLen_eq n l];simp
theorem catX_eq:∀ (a b:List SV),catX a b=a++b
 | [],_=>rfl
 | x::a,b=>by show x::catX a b=_;rw [catX_eq a b];rfl
theorem overX_eq:∀ (vs cs:List SV),overX vs cs=if vs.length≤cs.length then some (vs++cs.drop vs.length) else none
 | [],cs=>by simp [overX]
 | v::vs,[]=>rfl
 | v::vs,c::cs=>by
  show bO (overX vs cs) _=_
  rw [overX_eq vs cs]
  by_cases h:vs.length≤cs.length
  ·rw [if_pos h,if_pos (by simp;omega)];rfl
  ·rw [if_neg h,if_neg (by simp;omega)];rfl
theorem layX_eq (vs:List SV):∀ (off:Nat) (cs:List SV),layX vs off cs=if off+vs.length≤cs.length then some (cs.take off++(vs++cs.drop (off+vs.length))) else none
 | 0,cs=>by show overX vs cs=_;rw [overX_eq];simp
 | off+1,[]=>by rw [if_neg (by simp)];rfl
 | off+1,c::cs=>by
  show bO (layX vs off cs) _=_
  rw [layX_eq vs off cs]
  by_cases h:off+vs.length≤cs.length
  ·rw [if_pos h,if_pos (by simp;omega)]
   simp [show off+1+vs.length=(off+vs.length)+1 from by omega]
  ·rw [if_neg h,if_neg (by simp;omega)];rfl
theorem eqB_eq:∀ (a b:List UInt8),eqB a b=eqBytes a b
 | [],[]=>rfl
 | [],_::_=>rfl
 | _::_,[]=>rfl
 | x::a,y::b=>by
  show bB (Nat.beq x.toNat y.toNat) (eqB a b) false=(Nat.beq x.toNat y.toNat&&eqBytes a b)
  rw [eqB_eq a b]
  cases Nat.beq x.toNat y.toNat <;> rfl
theorem partX {cs r l:List SV} {off n:Nat} (h:dropX off cs=some r) (h':takeX n r=some l):takeCells cs off n=some l:=by
 rw [dropX_eq] at h
 rw [takeX_eq] at h'
 split at h
 ·cases h
  split at h'
  ·rename_i h1 h2
   cases h'
   unfold takeCells
   rw [List.length_drop] at h2
   rw [if_pos (by omega)]
  ·simp at h'
 ·simp at h
theorem kpart_some {s:Option Nat} {cs:List SV} {off:Nat} {v:SV} (h:kpart s cs off=some v):match s with
  | none=>cs[off]?=some v
  | some n=>∃ l,takeCells cs off n=some l∧v=.agg l:=by
 cases s with
 | none=>
  have:idxX off cs=some v:=h
  rw [idxX_eq] at this;exact this
 | some n=>
  obtain ⟨r,h0,h⟩:=bO_some (show bO (dropX off cs) (λ r=>bO (takeX n r) λ l=>some (.agg l))=some v from h)
  obtain ⟨l,h1,h2⟩:=bO_some h
  cases h2
  exact ⟨l,partX h0 h1,rfl⟩
end Go.Sh
end
