/- General laws of the proof: a shadow machine of the form, its soundness, and a compiled form of it. -/
import Derived.Test.YtpjpiigachahkaaGreatDoorSh16
import Derived.Test.YtpjpiigachahkaaGreatDoorSh17
import Derived.Lib.ItoaMem
set_option linter.unusedVariables false
set_option linter.unusedSimpArgs false
set_option linter.unusedSectionVars false
section
/- General facts: numerals, texts, values that are alike with themselves. -/
namespace Go.Sh
open Go.Proofs
noncomputable section
def digs:Nat→Nat→List UInt8→List UInt8
 | 0,_,acc=>acc
 | f+1,u,acc=>bB (Nat.blt u 10) (UInt8.ofNat (48+u)::acc) (digs f (u / 10) (UInt8.ofNat (48+u % 10)::acc))
theorem digs_eq:∀ (f u:Nat) (acc:List UInt8),u < 10 ^ (f+1)→digs (f+1) u acc=Lib.decDigits u++acc
 | 0,u,acc,h=>by
  have h:u < 10:=by simpa using h
  unfold digs
  rw [show Nat.blt u 10=true from Nat.ble_eq_true_of_le h,Lib.decDigits_one h];rfl
 | f+1,u,acc,h=>by
  unfold digs
  by_cases h1:u < 10
  ·rw [show Nat.blt u 10=true from Nat.ble_eq_true_of_le h1,Lib.decDigits_one h1];rfl
  ·have hb:Nat.blt u 10=false:=by
    cases e:Nat.blt u 10
    ·rfl
    ·exact absurd (Nat.le_of_ble_eq_true e) h1
   have h':u / 10 < 10 ^ (f+1):=by rw [Nat.pow_succ] at h;omega
   rw [hb]
   show digs (f+1) (u / 10) _=_
   rw [digs_eq f (u / 10) _ h',Lib.decDigits.eq_def u,dif_neg h1,List.append_assoc];rfl
def itoaS:Int→List UInt8
 | .ofNat u=>digs 20 u []
 | .negSucc u=>45::digs 20 (u+1) []
theorem itoaS_eq {n:Int} (h0:-9223372036854775808≤n) (h1:n≤9223372036854775807):itoaS n=Lib.itoa n:=by
 cases n with
 | ofNat u=>
  have hu:u < 10 ^ 20:=by
   have:(10:Nat) ^ 20=100000000000000000000:=by decide
   have h1:(u:Int)≤9223372036854775807:=h1
   omega
  show digs 20 u []=Lib.itoa (u:Int)
  rw [Lib.itoa_nonneg,digs_eq 19 u [] hu,List.append_nil]
 | negSucc u=>
  have hu:u+1 < 10 ^ 20:=by
   have:(10:Nat) ^ 20=100000000000000000000:=by decide
   have h0:-9223372036854775808≤-((u+1:Nat):Int):=h0
   omega
  show 45::digs 20 (u+1) []=Lib.itoa (-((u+1:Nat):Int))
  rw [Lib.itoa_neg _ (by omega),digs_eq 19 (u+1) [] hu,List.append_nil]
theorem digs_len:∀ (f u:Nat) (acc:List UInt8),(digs f u acc).length≤f+acc.length
 | 0,u,acc=>by simp [digs]
 | f+1,u,acc=>by
  unfold digs
  cases Nat.blt u 10
  ·have:=digs_len f (u / 10) (UInt8.ofNat (48+u % 10)::acc)
   show (digs f (u / 10) _).length≤_
   rw [List.length_cons] at this;omega
  ·show (UInt8.ofNat (48+u)::acc).length≤_
   simp;omega
theorem itoaS_len (n:Int):(itoaS n).length≤21:=by
 cases n with
 | ofNat u=>have:=digs_len 20 u [];show (digs 20 u []).length≤21;simp at this;omega
 | negSucc u=>have:=digs_len 20 (u+1) [];show (45::digs 20 (u+1) []).length≤21;simp at this ⊢;omega
theorem itoaS_neg {n:Int} (h:n < 0):itoaS n=45::digs 20 n.natAbs []:=by
 cases n with
 | ofNat u=>exact absurd h (by simp)
 | negSucc u=>rfl
theorem strAdd {a b:List UInt8} (h:a.length+b.length≤1099511627776):strOp .add a b=some (.str (a++b)):=if_pos h
abbrev I64 (n:Int):Prop:=-9223372036854775808≤n∧n≤9223372036854775807
theorem in_range {n:Int} (hn:I64 n) (a:Option SV):bB (ltI n 9223372036854775808) (bB (ltI n (-9223372036854775808)) none a) none=a:=by
 rw [ltIt (by have:=hn.2;omega),ltIf (by have:=hn.1;omega)];rfl
theorem int_range {n:Int} {a:SV} {v:SV} (e:bB (ltI n 9223372036854775808) (bB (ltI n (-9223372036854775808)) none (some a)) none=some v):-9223372036854775808≤n∧n≤9223372036854775807∧v=a:=by
 cases hb:ltI n 9223372036854775808
 ·rw [hb] at e;cases e
 ·cases hc:ltI n (-9223372036854775808)
  ·rw [hb,hc] at e
   rw [ltI_eq] at hb hc
   have hb:=of_decide_eq_true hb
   have hc:=of_decide_eq_false hc
   exact ⟨by omega,by omega,(Option.some.inj e).symm⟩
  ·rw [hb,hc] at e;cases e
def gDec:List SV→Option SV
 | [.int .i64 n]=>bB (ltI n 9223372036854775808) (bB (ltI n (-9223372036854775808)) none (some (.str (itoaS n)))) none
 | _=>none
def xItoa:List SV→H→Option (SV × H):=xPure gDec
theorem xItoa_in {n:Int} (hn:I64 n) (h:H):xItoa [.int .i64 n] h=some (.str (itoaS n),h):=by
 unfold xItoa xPure gDec
 simp only [in_range hn]
theorem body_of {fn:Func} (h:fn.body.isSome=true):fn.body=some (fn.body.get h):=by simp
def TextRes (h:H) (s:List UInt8) (r:SV) (h':H):Prop:=r=.str s∧Calms h h'
theorem oneS_two (a b:SV):oneS [a,b]=.tuple [a,b]:=rfl
def strs (l:List (List UInt8)):List SV:=l.map .str
theorem strsOf_strs:∀ l,strsOf (strs l)=some l
 | []=>rfl
 | x::l=>by
  show (match strsOf (strs l) with
   | some r=>some (x::r)
   | none=>none)=_
  rw [strsOf_strs l]
theorem join_view {h:H} {v:SV} {l:List (List UInt8)} (w:View h 1 v l.length (strs l)) (sep:List UInt8) (hl:l.length≤140737488355328) (hj:(Lib.join l sep).length≤140737488355328):xJoin [v,.str sep] h=some (.str (Lib.join l sep),h):=by
 obtain ⟨h1,⟨rfl,h2⟩ | ⟨id,off,cap,all,rfl,h2,h3,h4⟩⟩:=w
 ·have:l=[]:=List.eq_nil_of_length_eq_zero h2
  subst this;rfl
 ·rw [Nat.mul_one] at h3
  unfold xJoin
  simp only [h2,h3,strsOf_strs]
  rw [if_pos ⟨hl,hj⟩]
def i64s (l:List Int):List SV:=l.map λ z=>.int .i64 z
theorem i64s_get {l:List Int} {i:Nat} {z:Int} (e:l[i]?=some z):(i64s l)[i]?=some (.int .i64 z):=by
 unfold i64s;rw [List.getElem?_map,e];rfl
theorem add_some {a b c:List UInt8} (e:c=a++b) (h:a.length+b.length≤1099511627776):strOp .add a b=some (.str c):=by rw [e];exact strAdd h
theorem loadB {g:Nat→Option SObj} {b:Nat} {all:List SV} (h2:rowCells g b=some all):∀ o,loadV none g (.ptr b o)=all[o]?:=λ o=>loadV_one h2
def flatV:SV→Bool
 | .bool _ | .int _ _ | .str _ | .nilptr | .ptr _ _ | .nilslice | .slice _ _ _ _ _=>true
 | _=>false
theorem eqS1_flat:∀ {v:SV},flatV v=true→eqS1 v v=true:=by
 intro v hv
 cases v with
 | bool b=>exact eqS1_bool b
 | int k n=>exact eqS1_int k n
 | str s=>exact eqS1_str s
 | nilptr=>rfl
 | ptr i o=>
  show (Nat.beq i i&&Nat.beq o o)=true
  simp
 | nilslice=>rfl
 | slice i o n s c=>
  cases c with
  | none=>
   show (Nat.beq i i&&(Nat.beq o o&&(Nat.beq n n&&Nat.beq s s)))=true
   simp
  | some c=>
   show (Nat.beq i i&&(Nat.beq o o&&(Nat.beq n n&&(Nat.beq s s&&Nat.beq c c))))=true
   simp
 | _=>cases hv
theorem eqSV_flat {cs:List SV} (hc:cs.all flatV=true):eqSV (.agg cs) (.agg cs)=true:=by
 show eqSL cs cs=true
 induction cs with
 | nil=>rfl
 | cons a l ih=>
  rw [List.all_cons,Bool.and_eq_true] at hc
  show (eqS1 a a&&eqSL l l)=true
  rw [eqS1_flat hc.1,ih hc.2];rfl
theorem keepRow {g g':H} {b:Nat} {cs:List SV} (f:Calms g g') (e:rowCells g.get b=some cs):rowCells g'.get b=some cs:=(rowCells_keep f (rowCells_lt e) (λ k=>k)).trans e
end
end Go.Sh
end
