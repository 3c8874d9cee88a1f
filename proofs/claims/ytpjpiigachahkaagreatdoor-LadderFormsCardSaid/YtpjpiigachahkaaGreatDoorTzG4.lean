/- General laws of the proof: a shadow machine of the form, its soundness, and a compiled form of it. -/
import Derived.Test.YtpjpiigachahkaaGreatDoorTzG3
set_option linter.unusedVariables false
set_option linter.unusedSimpArgs false
set_option linter.unusedSectionVars false
section
/- LadderForms: texts and numbers that are alike. -/
namespace Go.Proofs
open Go.Sh
set_option maxRecDepth 100000
attribute [local instance] powHeld
noncomputable section
theorem ne_of_get {α:Type} {a b:List α} {i:Nat} {x y:α} (h1:a[i]?=some x) (h2:b[i]?=some y) (h:x≠y):a≠b:=λ e=>by
 subst e;rw [h1] at h2;exact h (Option.some.inj h2)
theorem take_eq_succ {α:Type} {a b:List α} {i:Nat} {x:α} (h1:a[i]?=some x) (h2:b[i]?=some x) (h:a.take i=b.take i):a.take (i+1)=b.take (i+1):=by
 rw [List.take_add_one,List.take_add_one,h1,h2,h]
def EqPost (h:H) (d:Bool) (fl:Flow) (t':T) (h':H):Prop:=h'=h∧(fl=.exit 0∧d=true∨fl=.ret∧getP (way 4) t'=some (.bool false)∧d=false)
theorem Tryz.eq57_loop {h:H} {v u:SV} {a b:List (List UInt8)} (w:View h 1 v a.length (strs a)) (x:View h 1 u b.length (strs b)) (hl:a.length=b.length) (hm:a.length < 4611686018427387904):∀ (j i k:Nat) (t:T),i+j=a.length→j < k→a.take i=b.take i→getP (way 0) t=some v→getP (way 1) t=some u→getP (way 5) t=some (.int .i64 i) →
  Gets (cLoop Tryz.l57_0 k Tryz.l2 t h) (EqPost h (decide (a=b))):=by
 intro j
 induction j with
 | zero=>
  intro i k t hi hk hp t0 t1 t13
  obtain ⟨k,rfl⟩:∃ m,k=m+1:=⟨k - 1,by omega⟩
  rw [loop_succ]
  generalize (λ t h=>cLoop Tryz.l57_0 k Tryz.l2 t h)=L
  unfold Tryz.l57_0
  have e1:ltI (i:Int) (a.length:Int)=false:=ltIf (by omega)
  have lv:=w.length
  have hab:a=b:=by rw [List.take_of_length_le (by omega),List.take_of_length_le (by omega)] at hp;exact hp
  simp [↓ kq,kq,↓ ku,ku,↓ ko,ko,↓ kt,↓ kz,kb,kv,kt,kx,t0,t1,t13,lv,e1,gets_some,-bO_of,-bB_true,-bB_false,-H.next_push,-Int.natCast_add]
  exact ⟨rfl,.inl ⟨rfl,decide_eq_true hab⟩⟩
 | succ j ih=>
  intro i k t hi hk hp t0 t1 t13
  obtain ⟨k,rfl⟩:∃ m,k=m+1:=⟨k - 1,by omega⟩
  rw [loop_succ]
  generalize hL:(λ t h=>cLoop Tryz.l57_0 k Tryz.l2 t h)=L
  have e1:ltI (i:Int) (a.length:Int)=true:=ltIt (by omega)
  have lv:=w.length
  have e6:intN (i:Int)=some i:=intN_nat i
  have e9:IntKind.i64.wrap ((i:Int)+1)=((i+1:Nat):Int):=by rw [wrapI64 (by omega) (by omega)];omega
  obtain ⟨x1,h1⟩:∃ s,a[i]?=some s:=⟨a[i]'(by omega),List.getElem?_eq_getElem (by omega)⟩
  obtain ⟨x2,h2⟩:∃ s,b[i]?=some s:=⟨b[i]'(by omega),List.getElem?_eq_getElem (by omega)⟩
  obtain ⟨p1,a1,a2⟩:=view_one w (i:=i) (by omega)
  obtain ⟨p2,b1,b2⟩:=view_one x (i:=i) (by omega)
  rw [strsAt h1] at a2
  rw [strsAt h2] at b2
  unfold Tryz.l57_0
  by_cases hx:x1=x2
  ·subst hx
   have e3:eqB x1 x1=true:=eqB_self x1
   simp [↓ kq,kq,↓ ku,ku,↓ ko,ko,↓ kt,↓ kz,kb,kv,kt,kx,t0,t1,t13,lv,e1,e6,e9,a1,a2,b1,b2,e3,gets_some,-bO_of,-bB_true,-bB_false,-H.next_push,-Int.natCast_add]
   rw [← hL]
   refine Gets.mono (ih (i+1) k _ (by omega) (by omega) (take_eq_succ h1 h2 hp) ?_ ?_ ?_) λ fl t' h' r=>r
   all_goals simp [kq,kb,t0,t1,t13]
  ·have e3:eqB x1 x2=false:=eqB_not hx
   simp [↓ kq,kq,↓ ku,ku,↓ ko,ko,↓ kt,↓ kz,kb,kv,kt,kx,t0,t1,t13,lv,e1,e6,e9,a1,a2,b1,b2,e3,gets_some,-bO_of,-bB_true,-bB_false,-H.next_push,-Int.natCast_add]
   exact ⟨rfl,.inr ⟨rfl,by simp [kq,kb],decide_eq_false λ e=>ne_of_get h1 h2 hx e⟩⟩
theorem Tryz.eq57 {h:H} {v u:SV} {a b:List (List UInt8)} (w:View h 1 v a.length (strs a)) (x:View h 1 u b.length (strs b)) (hm:a.length < 4611686018427387904) (hm2:b.length < 4611686018427387904):Tryz.l2 57 [v,u] h=some (.bool (decide (a=b)),h):=by
 have main:∃ v' h',Tryz.l2 57 [v,u] h=some (v',h')∧(v'=.bool (decide (a=b))∧h'=h):=by
  refine Go.Sh.enG Tryz.kTab_ok (X:=Tryz.X2) (kf:=Tryz.k57) rfl (by kernel_rfl) (a.length+2) rfl rfl ?_
  have lv:=w.length
  have lu:=x.length
  by_cases hl:a.length=b.length
  ·have e1:eqI (a.length:Int) (b.length:Int)=true:=eqIt (by omega)
   simp [↓ kq,kq,↓ ku,ku,↓ ko,ko,↓ kt,↓ kz,kb,kv,kt,kx,lv,lu,e1,gets_some,-bO_of,-bB_true,-bB_false,-H.next_push,-Int.natCast_add]
   refine gets_next (gets_leave (Gets.mono (Tryz.eq57_loop w x hl hm a.length 0 (a.length+2) _ (by omega) (by omega) rfl ?_ ?_ ?_) ?_))
   rotate_right
   ·rintro fl t' h' ⟨rfl,⟨rfl,hd⟩ | ⟨rfl,c1,hd⟩⟩
    ·simp only [if_true]
     rw [hd]
     simp [↓ kq,kq,↓ ku,ku,↓ ko,ko,↓ kt,↓ kz,kb,kv,kt,kx,gets_some,kc,oneS,-bO_of,-bB_true,-bB_false,-H.next_push,-Int.natCast_add]
    ·rw [hd]
     simp [↓ kq,kq,↓ ku,ku,↓ ko,ko,↓ kt,↓ kz,kb,kv,kt,kx,c1,gets_some,kc,oneS,-bO_of,-bB_true,-bB_false,-H.next_push,-Int.natCast_add]
   all_goals simp [kq,kb]
  ·have e1:eqI (a.length:Int) (b.length:Int)=false:=eqIf (by omega)
   have hd:decide (a=b)=false:=decide_eq_false λ e=>hl (by rw [e])
   rw [hd]
   simp [↓ kq,kq,↓ ku,ku,↓ ko,ko,↓ kt,↓ kz,kb,kv,kt,kx,lv,lu,e1,gets_some,kc,oneS,-bO_of,-bB_true,-bB_false,-H.next_push,-Int.natCast_add]
 obtain ⟨_,_,k1,rfl,rfl⟩:=main
 exact k1
theorem Tryz.eq60_loop {h:H} {v u:SV} {a b:List (List UInt8)} (w:View h 1 v a.length (strs a)) (x:View h 1 u b.length (strs b)) (hl:a.length=b.length) (hm:a.length < 4611686018427387904):∀ (j i k:Nat) (t:T),i+j=a.length→j < k→a.take i=b.take i→getP (way 0) t=some v→getP (way 1) t=some u→getP (way 13) t=some (.int .i64 i)→getP (way 12) t=some (.int .i64 a.length) →
  Gets (cLoop Tryz.l60_0 k Tryz.l2 t h) (EqPost h (decide (a=b))):=by
 intro j
 induction j with
 | zero=>
  intro i k t hi hk hp t0 t1 t13 t12
  obtain ⟨k,rfl⟩:∃ m,k=m+1:=⟨k - 1,by omega⟩
  rw [loop_succ]
  generalize (λ t h=>cLoop Tryz.l60_0 k Tryz.l2 t h)=L
  unfold Tryz.l60_0
  have e1:ltI (i:Int) (a.length:Int)=false:=ltIf (by omega)
  have lv:=w.length
  have hab:a=b:=by rw [List.take_of_length_le (by omega),List.take_of_length_le (by omega)] at hp;exact hp
  simp [↓ kq,kq,↓ ku,ku,↓ ko,ko,↓ kt,↓ kz,kb,kv,kt,kx,t0,t1,t13,t12,lv,e1,gets_some,-bO_of,-bB_true,-bB_false,-H.next_push,-Int.natCast_add]
  exact ⟨rfl,.inl ⟨rfl,decide_eq_true hab⟩⟩
 | succ j ih=>
  intro i k t hi hk hp t0 t1 t13 t12
  obtain ⟨k,rfl⟩:∃ m,k=m+1:=⟨k - 1,by omega⟩
  rw [loop_succ]
  generalize hL:(λ t h=>cLoop Tryz.l60_0 k Tryz.l2 t h)=L
  have e1:ltI (i:Int) (a.length:Int)=true:=ltIt (by omega)
  have lv:=w.length
  have e6:intN (i:Int)=some i:=intN_nat i
  have e9:IntKind.i64.wrap ((i:Int)+1)=((i+1:Nat):Int):=by rw [wrapI64 (by omega) (by omega)];omega
  obtain ⟨x1,h1⟩:∃ s,a[i]?=some s:=⟨a[i]'(by omega),List.getElem?_eq_getElem (by omega)⟩
  obtain ⟨x2,h2⟩:∃ s,b[i]?=some s:=⟨b[i]'(by omega),List.getElem?_eq_getElem (by omega)⟩
  obtain ⟨p1,a1,a2⟩:=view_one w (i:=i) (by omega)
  obtain ⟨p2,b1,b2⟩:=view_one x (i:=i) (by omega)
  rw [strsAt h1] at a2
  rw [strsAt h2] at b2
  unfold Tryz.l60_0
  by_cases hx:x1=x2
  ·subst hx
   have e3:eqB x1 x1=true:=eqB_self x1
   simp [↓ kq,kq,↓ ku,ku,↓ ko,ko,↓ kt,↓ kz,kb,kv,kt,kx,t0,t1,t13,t12,lv,e1,e6,e9,a1,a2,b1,b2,e3,gets_some,-bO_of,-bB_true,-bB_false,-H.next_push,-Int.natCast_add]
   rw [← hL]
   refine Gets.mono (ih (i+1) k _ (by omega) (by omega) (take_eq_succ h1 h2 hp) ?_ ?_ ?_ ?_) λ fl t' h' r=>r
   all_goals simp [kq,kb,t0,t1,t13,t12]
  ·have e3:eqB x1 x2=false:=eqB_not hx
   simp [↓ kq,kq,↓ ku,ku,↓ ko,ko,↓ kt,↓ kz,kb,kv,kt,kx,t0,t1,t13,t12,lv,e1,e6,e9,a1,a2,b1,b2,e3,gets_some,-bO_of,-bB_true,-bB_false,-H.next_push,-Int.natCast_add]
   exact ⟨rfl,.inr ⟨rfl,by simp [kq,kb],decide_eq_false λ e=>ne_of_get h1 h2 hx e⟩⟩
theorem Tryz.eq60 {h:H} {v u:SV} {a b:List (List UInt8)} (w:View h 1 v a.length (strs a)) (x:View h 1 u b.length (strs b)) (hm:a.length < 4611686018427387904) (hm2:b.length < 4611686018427387904):Tryz.l2 60 [v,u] h=some (.bool (decide (a=b)),h):=by
 have main:∃ v' h',Tryz.l2 60 [v,u] h=some (v',h')∧(v'=.bool (decide (a=b))∧h'=h):=by
  refine Go.Sh.enG Tryz.kTab_ok (X:=Tryz.X2) (kf:=Tryz.k60) rfl (by kernel_rfl) (a.length+2) rfl rfl ?_
  have lv:=w.length
  have lu:=x.length
  by_cases hl:a.length=b.length
  ·have e1:eqI (a.length:Int) (b.length:Int)=true:=eqIt (by omega)
   simp [↓ kq,kq,↓ ku,ku,↓ ko,ko,↓ kt,↓ kz,kb,kv,kt,kx,lv,lu,e1,gets_some,-bO_of,-bB_true,-bB_false,-H.next_push,-Int.natCast_add]
   refine gets_next (gets_leave (Gets.mono (Tryz.eq60_loop w x hl hm a.length 0 (a.length+2) _ (by omega) (by omega) rfl ?_ ?_ ?_ ?_) ?_))
   rotate_right
   ·rintro fl t' h' ⟨rfl,⟨rfl,hd⟩ | ⟨rfl,c1,hd⟩⟩
    ·simp only [if_true]
     rw [hd]
     simp [↓ kq,kq,↓ ku,ku,↓ ko,ko,↓ kt,↓ kz,kb,kv,kt,kx,gets_some,kc,oneS,-bO_of,-bB_true,-bB_false,-H.next_push,-Int.natCast_add]
    ·rw [hd]
     simp [↓ kq,kq,↓ ku,ku,↓ ko,ko,↓ kt,↓ kz,kb,kv,kt,kx,c1,gets_some,kc,oneS,-bO_of,-bB_true,-bB_false,-H.next_push,-Int.natCast_add]
   all_goals simp [kq,kb]
  ·have e1:eqI (a.length:Int) (b.length:Int)=false:=eqIf (by omega)
   have hd:decide (a=b)=false:=decide_eq_false λ e=>hl (by rw [e])
   rw [hd]
   simp [↓ kq,kq,↓ ku,ku,↓ ko,ko,↓ kt,↓ kz,kb,kv,kt,kx,lv,lu,e1,gets_some,kc,oneS,-bO_of,-bB_true,-bB_false,-H.next_push,-Int.natCast_add]
 obtain ⟨_,_,k1,rfl,rfl⟩:=main
 exact k1
theorem Tryz.eq103_loop {h:H} {v u:SV} {a b:List Int} (w:View h 1 v a.length (ints a)) (x:View h 1 u b.length (ints b)) (hl:a.length=b.length) (hm:a.length < 4611686018427387904):∀ (j i k:Nat) (t:T),i+j=a.length→j < k→a.take i=b.take i→getP (way 0) t=some v→getP (way 1) t=some u→getP (way 5) t=some (.int .i64 i) →
  Gets (cLoop Tryz.l103_0 k Tryz.l2 t h) (EqPost h (decide (a=b))):=by
 intro j
 induction j with
 | zero=>
  intro i k t hi hk hp t0 t1 t13
  obtain ⟨k,rfl⟩:∃ m,k=m+1:=⟨k - 1,by omega⟩
  rw [loop_succ]
  generalize (λ t h=>cLoop Tryz.l103_0 k Tryz.l2 t h)=L
  unfold Tryz.l103_0
  have e1:ltI (i:Int) (a.length:Int)=false:=ltIf (by omega)
  have lv:=w.length
  have hab:a=b:=by rw [List.take_of_length_le (by omega),List.take_of_length_le (by omega)] at hp;exact hp
  simp [↓ kq,kq,↓ ku,ku,↓ ko,ko,↓ kt,↓ kz,kb,kv,kt,kx,t0,t1,t13,lv,e1,gets_some,-bO_of,-bB_true,-bB_false,-H.next_push,-Int.natCast_add]
  exact ⟨rfl,.inl ⟨rfl,decide_eq_true hab⟩⟩
 | succ j ih=>
  intro i k t hi hk hp t0 t1 t13
  obtain ⟨k,rfl⟩:∃ m,k=m+1:=⟨k - 1,by omega⟩
  rw [loop_succ]
  generalize hL:(λ t h=>cLoop Tryz.l103_0 k Tryz.l2 t h)=L
  have e1:ltI (i:Int) (a.length:Int)=true:=ltIt (by omega)
  have lv:=w.length
  have e6:intN (i:Int)=some i:=intN_nat i
  have e9:IntKind.i64.wrap ((i:Int)+1)=((i+1:Nat):Int):=by rw [wrapI64 (by omega) (by omega)];omega
  obtain ⟨x1,h1⟩:∃ s,a[i]?=some s:=⟨a[i]'(by omega),List.getElem?_eq_getElem (by omega)⟩
  obtain ⟨x2,h2⟩:∃ s,b[i]?=some s:=⟨b[i]'(by omega),List.getElem?_eq_getElem (by omega)⟩
  obtain ⟨p1,a1,a2⟩:=view_one w (i:=i) (by omega)
  obtain ⟨p2,b1,b2⟩:=view_one x (i:=i) (by omega)
  rw [intsAt h1] at a2
  rw [intsAt h2] at b2
  unfold Tryz.l103_0
  by_cases hx:x1=x2
  ·subst hx
   have e3:eqI x1 x1=true:=eqI_self x1
   simp [↓ kq,kq,↓ ku,ku,↓ ko,ko,↓ kt,↓ kz,kb,kv,kt,kx,t0,t1,t13,lv,e1,e6,e9,a1,a2,b1,b2,e3,gets_some,-bO_of,-bB_true,-bB_false,-H.next_push,-Int.natCast_add]
   rw [← hL]
   refine Gets.mono (ih (i+1) k _ (by omega) (by omega) (take_eq_succ h1 h2 hp) ?_ ?_ ?_) λ fl t' h' r=>r
   all_goals simp [kq,kb,t0,t1,t13]
  ·have e3:eqI x1 x2=false:=eqIf hx
   simp [↓ kq,kq,↓ ku,ku,↓ ko,ko,↓ kt,↓ kz,kb,kv,kt,kx,t0,t1,t13,lv,e1,e6,e9,a1,a2,b1,b2,e3,gets_some,-bO_of,-bB_true,-bB_false,-H.next_push,-Int.natCast_add]
   exact ⟨rfl,.inr ⟨rfl,by simp [kq,kb],decide_eq_false λ e=>ne_of_get h1 h2 hx e⟩⟩
theorem Tryz.eq103 {h:H} {v u:SV} {a b:List Int} (w:View h 1 v a.length (ints a)) (x:View h 1 u b.length (ints b)) (hm:a.length < 4611686018427387904) (hm2:b.length < 4611686018427387904):Tryz.l2 103 [v,u] h=some (.bool (decide (a=b)),h):=by
 have main:∃ v' h',Tryz.l2 103 [v,u] h=some (v',h')∧(v'=.bool (decide (a=b))∧h'=h):=by
  refine Go.Sh.enG Tryz.kTab_ok (X:=Tryz.X2) (kf:=Tryz.k103) rfl (by kernel_rfl) (a.length+2) rfl rfl ?_
  have lv:=w.length
  have lu:=x.length
  by_cases hl:a.length=b.length
  ·have e1:eqI (a.length:Int) (b.length:Int)=true:=eqIt (by omega)
   simp [↓ kq,kq,↓ ku,ku,↓ ko,ko,↓ kt,↓ kz,kb,kv,kt,kx,lv,lu,e1,gets_some,-bO_of,-bB_true,-bB_false,-H.next_push,-Int.natCast_add]
   refine gets_next (gets_leave (Gets.mono (Tryz.eq103_loop w x hl hm a.length 0 (a.length+2) _ (by omega) (by omega) rfl ?_ ?_ ?_) ?_))
   rotate_right
   ·rintro fl t' h' ⟨rfl,⟨rfl,hd⟩ | ⟨rfl,c1,hd⟩⟩
    ·simp only [if_true]
     rw [hd]
     simp [↓ kq,kq,↓ ku,ku,↓ ko,ko,↓ kt,↓ kz,kb,kv,kt,kx,gets_some,kc,oneS,-bO_of,-bB_true,-bB_false,-H.next_push,-Int.natCast_add]
    ·rw [hd]
     simp [↓ kq,kq,↓ ku,ku,↓ ko,ko,↓ kt,↓ kz,kb,kv,kt,kx,c1,gets_some,kc,oneS,-bO_of,-bB_true,-bB_false,-H.next_push,-Int.natCast_add]
   all_goals simp [kq,kb]
  ·have e1:eqI (a.length:Int) (b.length:Int)=false:=eqIf (by omega)
   have hd:decide (a=b)=false:=decide_eq_false λ e=>hl (by rw [e])
   rw [hd]
   simp [↓ kq,kq,↓ ku,ku,↓ ko,ko,↓ kt,↓ kz,kb,kv,kt,kx,lv,lu,e1,gets_some,kc,oneS,-bO_of,-bB_true,-bB_false,-H.next_push,-Int.natCast_add]
 obtain ⟨_,_,k1,rfl,rfl⟩:=main
 exact k1
theorem Tryz.eq104_loop {h:H} {v u:SV} {a b:List Int} (w:View h 1 v a.length (ints a)) (x:View h 1 u b.length (ints b)) (hl:a.length=b.length) (hm:a.length < 4611686018427387904):∀ (j i k:Nat) (t:T),i+j=a.length→j < k→a.take i=b.take i→getP (way 0) t=some v→getP (way 1) t=some u→getP (way 13) t=some (.int .i64 i)→getP (way 12) t=some (.int .i64 a.length) →
  Gets (cLoop Tryz.l104_0 k Tryz.l2 t h) (EqPost h (decide (a=b))):=by
 intro j
 induction j with
 | zero=>
  intro i k t hi hk hp t0 t1 t13 t12
  obtain ⟨k,rfl⟩:∃ m,k=m+1:=⟨k - 1,by omega⟩
  rw [loop_succ]
  generalize (λ t h=>cLoop Tryz.l104_0 k Tryz.l2 t h)=L
  unfold Tryz.l104_0
  have e1:ltI (i:Int) (a.length:Int)=false:=ltIf (by omega)
  have lv:=w.length
  have hab:a=b:=by rw [List.take_of_length_le (by omega),List.take_of_length_le (by omega)] at hp;exact hp
  simp [↓ kq,kq,↓ ku,ku,↓ ko,ko,↓ kt,↓ kz,kb,kv,kt,kx,t0,t1,t13,t12,lv,e1,gets_some,-bO_of,-bB_true,-bB_false,-H.next_push,-Int.natCast_add]
  exact ⟨rfl,.inl ⟨rfl,decide_eq_true hab⟩⟩
 | succ j ih=>
  intro i k t hi hk hp t0 t1 t13 t12
  obtain ⟨k,rfl⟩:∃ m,k=m+1:=⟨k - 1,by omega⟩
  rw [loop_succ]
  generalize hL:(λ t h=>cLoop Tryz.l104_0 k Tryz.l2 t h)=L
  have e1:ltI (i:Int) (a.length:Int)=true:=ltIt (by omega)
  have lv:=w.length
  have e6:intN (i:Int)=some i:=intN_nat i
  have e9:IntKind.i64.wrap ((i:Int)+1)=((i+1:Nat):Int):=by rw [wrapI64 (by omega) (by omega)];omega
  obtain ⟨x1,h1⟩:∃ s,a[i]?=some s:=⟨a[i]'(by omega),List.getElem?_eq_getElem (by omega)⟩
  obtain ⟨x2,h2⟩:∃ s,b[i]?=some s:=⟨b[i]'(by omega),List.getElem?_eq_getElem (by omega)⟩
  obtain ⟨p1,a1,a2⟩:=view_one w (i:=i) (by omega)
  obtain ⟨p2,b1,b2⟩:=view_one x (i:=i) (by omega)
  rw [intsAt h1] at a2
  rw [intsAt h2] at b2
  unfold Tryz.l104_0
  by_cases hx:x1=x2
  ·subst hx
   have e3:eqI x1 x1=true:=eqI_self x1
   simp [↓ kq,kq,↓ ku,ku,↓ ko,ko,↓ kt,↓ kz,kb,kv,kt,kx,t0,t1,t13,t12,lv,e1,e6,e9,a1,a2,b1,b2,e3,gets_some,-bO_of,-bB_true,-bB_false,-H.next_push,-Int.natCast_add]
   rw [← hL]
   refine Gets.mono (ih (i+1) k _ (by omega) (by omega) (take_eq_succ h1 h2 hp) ?_ ?_ ?_ ?_) λ fl t' h' r=>r
   all_goals simp [kq,kb,t0,t1,t13,t12]
  ·have e3:eqI x1 x2=false:=eqIf hx
   simp [↓ kq,kq,↓ ku,ku,↓ ko,ko,↓ kt,↓ kz,kb,kv,kt,kx,t0,t1,t13,t12,lv,e1,e6,e9,a1,a2,b1,b2,e3,gets_some,-bO_of,-bB_true,-bB_false,-H.next_push,-Int.natCast_add]
   exact ⟨rfl,.inr ⟨rfl,by simp [kq,kb],decide_eq_false λ e=>ne_of_get h1 h2 hx e⟩⟩
theorem Tryz.eq104 {h:H} {v u:SV} {a b:List Int} (w:View h 1 v a.length (ints a)) (x:View h 1 u b.length (ints b)) (hm:a.length < 4611686018427387904) (hm2:b.length < 4611686018427387904):Tryz.l2 104 [v,u] h=some (.bool (decide (a=b)),h):=by
 have main:∃ v' h',Tryz.l2 104 [v,u] h=some (v',h')∧(v'=.bool (decide (a=b))∧h'=h):=by
  refine Go.Sh.enG Tryz.kTab_ok (X:=Tryz.X2) (kf:=Tryz.k104) rfl (by kernel_rfl) (a.length+2) rfl rfl ?_
  have lv:=w.length
  have lu:=x.length
  by_cases hl:a.length=b.length
  ·have e1:eqI (a.length:Int) (b.length:Int)=true:=eqIt (by omega)
   simp [↓ kq,kq,↓ ku,ku,↓ ko,ko,↓ kt,↓ kz,kb,kv,kt,kx,lv,lu,e1,gets_some,-bO_of,-bB_true,-bB_false,-H.next_push,-Int.natCast_add]
   refine gets_next (gets_leave (Gets.mono (Tryz.eq104_loop w x hl hm a.length 0 (a.length+2) _ (by omega) (by omega) rfl ?_ ?_ ?_ ?_) ?_))
   rotate_right
   ·rintro fl t' h' ⟨rfl,⟨rfl,hd⟩ | ⟨rfl,c1,hd⟩⟩
    ·simp only [if_true]
     rw [hd]
     simp [↓ kq,kq,↓ ku,ku,↓ ko,ko,↓ kt,↓ kz,kb,kv,kt,kx,gets_some,kc,oneS,-bO_of,-bB_true,-bB_false,-H.next_push,-Int.natCast_add]
    ·rw [hd]
     simp [↓ kq,kq,↓ ku,ku,↓ ko,ko,↓ kt,↓ kz,kb,kv,kt,kx,c1,gets_some,kc,oneS,-bO_of,-bB_true,-bB_false,-H.next_push,-Int.natCast_add]
   all_goals simp [kq,kb]
  ·have e1:eqI (a.length:Int) (b.length:Int)=false:=eqIf (by omega)
   have hd:decide (a=b)=false:=decide_eq_false λ e=>hl (by rw [e])
   rw [hd]
   simp [↓ kq,kq,↓ ku,ku,↓ ko,ko,↓ kt,↓ kz,kb,kv,kt,kx,lv,lu,e1,gets_some,kc,oneS,-bO_of,-bB_true,-bB_false,-H.next_push,-Int.natCast_add]
 obtain ⟨_,_,k1,rfl,rfl⟩:=main
 exact k1
end
end Go.Proofs
end
section
/- LadderForms: edges that are alike. -/
namespace Go.Proofs
open Go.Sh
set_option maxRecDepth 100000
attribute [local instance] powHeld
noncomputable section
theorem keq_self (g:Nat→Option SObj) (z:Edg):keq g (.struct [.str,.int,.str]) (.agg z.cells) (.agg z.cells)=some true:=by
 rw [edge_eq,eqB_self,eqB_self,eqI_eq];simp
theorem keq_ne (g:Nat→Option SObj) {y z:Edg} (h:y≠z):keq g (.struct [.str,.int,.str]) (.agg y.cells) (.agg z.cells)=some false:=by
 rw [edge_eq]
 by_cases e1:y.src=z.src
 ·by_cases e2:y.pc=z.pc
  ·by_cases e3:y.dst=z.dst
   ·exact absurd (by cases y;cases z;simp at *;exact ⟨e1,e2,e3⟩) h
   ·rw [eqB_not e3];simp
  ·have:eqI y.pc z.pc=false:=by rw [eqI_eq];simp [e2]
   rw [this];simp
 ·rw [eqB_not e1];rfl
def eqE {α:Type} (a b:α):Bool:=@decide (a=b) (Classical.propDecidable _)
theorem eqE_true {α:Type} {a b:α} (h:a=b):eqE a b=true:=@decide_eq_true _ (Classical.propDecidable _) h
theorem eqE_false {α:Type} {a b:α} (h:a≠b):eqE a b=false:=@decide_eq_false _ (Classical.propDecidable _) h
theorem Tryz.eq59_loop {h:H} {v u:SV} {a b:List Edg} (w:View h 3 v a.length (edgs a)) (x:View h 3 u b.length (edgs b)) (hl:a.length=b.length) (hm:a.length < 4611686018427387904):∀ (j i k:Nat) (t:T),i+j=a.length→j < k→a.take i=b.take i→getP (way 0) t=some v→getP (way 1) t=some u→getP (way 5) t=some (.int .i64 i) →
  Gets (cLoop Tryz.l59_0 k Tryz.l2 t h) (EqPost h (eqE a b)):=by
 intro j
 induction j with
 | zero=>
  intro i k t hi hk hp t0 t1 t13
  obtain ⟨k,rfl⟩:∃ m,k=m+1:=⟨k - 1,by omega⟩
  rw [loop_succ]
  generalize (λ t h=>cLoop Tryz.l59_0 k Tryz.l2 t h)=L
  unfold Tryz.l59_0
  have e1:ltI (i:Int) (a.length:Int)=false:=ltIf (by omega)
  have lv:=w.length
  have hab:a=b:=by rw [List.take_of_length_le (by omega),List.take_of_length_le (by omega)] at hp;exact hp
  simp [↓ kq,kq,↓ ku,ku,↓ ko,ko,↓ kt,↓ kz,kb,kv,kt,kx,t0,t1,t13,lv,e1,gets_some,-bO_of,-bB_true,-bB_false,-H.next_push,-Int.natCast_add]
  exact ⟨rfl,.inl ⟨rfl,eqE_true hab⟩⟩
 | succ j ih=>
  intro i k t hi hk hp t0 t1 t13
  obtain ⟨k,rfl⟩:∃ m,k=m+1:=⟨k - 1,by omega⟩
  rw [loop_succ]
  generalize hL:(λ t h=>cLoop Tryz.l59_0 k Tryz.l2 t h)=L
  have e1:ltI (i:Int) (a.length:Int)=true:=ltIt (by omega)
  have lv:=w.length
  have e6:intN (i:Int)=some i:=intN_nat i
  have e9:IntKind.i64.wrap ((i:Int)+1)=((i+1:Nat):Int):=by rw [wrapI64 (by omega) (by omega)];omega
  obtain ⟨x1,h1⟩:∃ s,a[i]?=some s:=⟨a[i]'(by omega),List.getElem?_eq_getElem (by omega)⟩
  obtain ⟨x2,h2⟩:∃ s,b[i]?=some s:=⟨b[i]'(by omega),List.getElem?_eq_getElem (by omega)⟩
  obtain ⟨p1,a1,a2⟩:=edge_load w h1
  obtain ⟨p2,b1,b2⟩:=edge_load x h2
  unfold Tryz.l59_0
  by_cases hx:x1=x2
  ·subst hx
   have e3:=keq_self h.get x1
   have hnx:=take_eq_succ h1 h2 hp
   generalize x1.cells=c1 at *
   simp [↓ kq,kq,↓ ku,ku,↓ ko,ko,↓ kt,↓ kz,kb,kv,kt,kx,t0,t1,t13,lv,e1,e6,e9,a1,a2,b1,b2,e3,gets_some,-bO_of,-bB_true,-bB_false,-H.next_push,-Int.natCast_add]
   rw [← hL]
   refine Gets.mono (ih (i+1) k _ (by omega) (by omega) hnx ?_ ?_ ?_) λ fl t' h' r=>r
   all_goals simp [kq,kb,t0,t1,t13]
  ·have e3:=keq_ne h.get hx
   have hnn:=ne_of_get h1 h2 hx
   generalize x1.cells=c1 at *
   generalize x2.cells=c2 at *
   simp [↓ kq,kq,↓ ku,ku,↓ ko,ko,↓ kt,↓ kz,kb,kv,kt,kx,t0,t1,t13,lv,e1,e6,e9,a1,a2,b1,b2,e3,gets_some,-bO_of,-bB_true,-bB_false,-H.next_push,-Int.natCast_add]
   exact ⟨rfl,.inr ⟨rfl,by simp [kq,kb],eqE_false hnn⟩⟩
theorem Tryz.eq59 {h:H} {v u:SV} {a b:List Edg} (w:View h 3 v a.length (edgs a)) (x:View h 3 u b.length (edgs b)) (hm:a.length < 4611686018427387904) (hm2:b.length < 4611686018427387904):Tryz.l2 59 [v,u] h=some (.bool (eqE a b),h):=by
 have main:∃ v' h',Tryz.l2 59 [v,u] h=some (v',h')∧(v'=.bool (eqE a b)∧h'=h):=by
  refine Go.Sh.enG Tryz.kTab_ok (X:=Tryz.X2) (kf:=Tryz.k59) rfl (by kernel_rfl) (a.length+2) rfl rfl ?_
  have lv:=w.length
  have lu:=x.length
  by_cases hl:a.length=b.length
  ·have e1:eqI (a.length:Int) (b.length:Int)=true:=eqIt (by omega)
   simp [↓ kq,kq,↓ ku,ku,↓ ko,ko,↓ kt,↓ kz,kb,kv,kt,kx,lv,lu,e1,gets_some,-bO_of,-bB_true,-bB_false,-H.next_push,-Int.natCast_add]
   refine gets_next (gets_leave (Gets.mono (Tryz.eq59_loop w x hl hm a.length 0 (a.length+2) _ (by omega) (by omega) rfl ?_ ?_ ?_) ?_))
   rotate_right
   ·rintro fl t' h' ⟨rfl,⟨rfl,hd⟩ | ⟨rfl,c1,hd⟩⟩
    ·simp only [if_true]
     rw [hd]
     simp [↓ kq,kq,↓ ku,ku,↓ ko,ko,↓ kt,↓ kz,kb,kv,kt,kx,gets_some,kc,oneS,-bO_of,-bB_true,-bB_false,-H.next_push,-Int.natCast_add]
    ·rw [hd]
     simp [↓ kq,kq,↓ ku,ku,↓ ko,ko,↓ kt,↓ kz,kb,kv,kt,kx,c1,gets_some,kc,oneS,-bO_of,-bB_true,-bB_false,-H.next_push,-Int.natCast_add]
   all_goals simp [kq,kb]
  ·have e1:eqI (a.length:Int) (b.length:Int)=false:=eqIf (by omega)
   have hd:eqE a b=false:=eqE_false λ e=>hl (by rw [e])
   rw [hd]
   simp [↓ kq,kq,↓ ku,ku,↓ ko,ko,↓ kt,↓ kz,kb,kv,kt,kx,lv,lu,e1,gets_some,kc,oneS,-bO_of,-bB_true,-bB_false,-H.next_push,-Int.natCast_add]
 obtain ⟨_,_,k1,rfl,rfl⟩:=main
 exact k1
theorem Tryz.eq63_loop {h:H} {v u:SV} {a b:List Edg} (w:View h 3 v a.length (edgs a)) (x:View h 3 u b.length (edgs b)) (hl:a.length=b.length) (hm:a.length < 4611686018427387904):∀ (j i k:Nat) (t:T),i+j=a.length→j < k→a.take i=b.take i→getP (way 0) t=some v→getP (way 1) t=some u→getP (way 13) t=some (.int .i64 i)→getP (way 12) t=some (.int .i64 a.length) →
  Gets (cLoop Tryz.l63_0 k Tryz.l2 t h) (EqPost h (eqE a b)):=by
 intro j
 induction j with
 | zero=>
  intro i k t hi hk hp t0 t1 t13 t12
  obtain ⟨k,rfl⟩:∃ m,k=m+1:=⟨k - 1,by omega⟩
  rw [loop_succ]
  generalize (λ t h=>cLoop Tryz.l63_0 k Tryz.l2 t h)=L
  unfold Tryz.l63_0
  have e1:ltI (i:Int) (a.length:Int)=false:=ltIf (by omega)
  have lv:=w.length
  have hab:a=b:=by rw [List.take_of_length_le (by omega),List.take_of_length_le (by omega)] at hp;exact hp
  simp [↓ kq,kq,↓ ku,ku,↓ ko,ko,↓ kt,↓ kz,kb,kv,kt,kx,t0,t1,t13,t12,lv,e1,gets_some,-bO_of,-bB_true,-bB_false,-H.next_push,-Int.natCast_add]
  exact ⟨rfl,.inl ⟨rfl,eqE_true hab⟩⟩
 | succ j ih=>
  intro i k t hi hk hp t0 t1 t13 t12
  obtain ⟨k,rfl⟩:∃ m,k=m+1:=⟨k - 1,by omega⟩
  rw [loop_succ]
  generalize hL:(λ t h=>cLoop Tryz.l63_0 k Tryz.l2 t h)=L
  have e1:ltI (i:Int) (a.length:Int)=true:=ltIt (by omega)
  have lv:=w.length
  have e6:intN (i:Int)=some i:=intN_nat i
  have e9:IntKind.i64.wrap ((i:Int)+1)=((i+1:Nat):Int):=by rw [wrapI64 (by omega) (by omega)];omega
  obtain ⟨x1,h1⟩:∃ s,a[i]?=some s:=⟨a[i]'(by omega),List.getElem?_eq_getElem (by omega)⟩
  obtain ⟨x2,h2⟩:∃ s,b[i]?=some s:=⟨b[i]'(by omega),List.getElem?_eq_getElem (by omega)⟩
  obtain ⟨p1,a1,a2⟩:=edge_load w h1
  obtain ⟨p2,b1,b2⟩:=edge_load x h2
  unfold Tryz.l63_0
  by_cases hx:x1=x2
  ·subst hx
   have e3:=keq_self h.get x1
   have hnx:=take_eq_succ h1 h2 hp
   generalize x1.cells=c1 at *
   simp [↓ kq,kq,↓ ku,ku,↓ ko,ko,↓ kt,↓ kz,kb,kv,kt,kx,t0,t1,t13,t12,lv,e1,e6,e9,a1,a2,b1,b2,e3,gets_some,-bO_of,-bB_true,-bB_false,-H.next_push,-Int.natCast_add]
   rw [← hL]
   refine Gets.mono (ih (i+1) k _ (by omega) (by omega) hnx ?_ ?_ ?_ ?_) λ fl t' h' r=>r
   all_goals simp [kq,kb,t0,t1,t13,t12]
  ·have e3:=keq_ne h.get hx
   have hnn:=ne_of_get h1 h2 hx
   generalize x1.cells=c1 at *
   generalize x2.cells=c2 at *
   simp [↓ kq,kq,↓ ku,ku,↓ ko,ko,↓ kt,↓ kz,kb,kv,kt,kx,t0,t1,t13,t12,lv,e1,e6,e9,a1,a2,b1,b2,e3,gets_some,-bO_of,-bB_true,-bB_false,-H.next_push,-Int.natCast_add]
   exact ⟨rfl,.inr ⟨rfl,by simp [kq,kb],eqE_false hnn⟩⟩
theorem Tryz.eq63 {h:H} {v u:SV} {a b:List Edg} (w:View h 3 v a.length (edgs a)) (x:View h 3 u b.length (edgs b)) (hm:a.length < 4611686018427387904) (hm2:b.length < 4611686018427387904):Tryz.l2 63 [v,u] h=some (.bool (eqE a b),h):=by
 have main:∃ v' h',Tryz.l2 63 [v,u] h=some (v',h')∧(v'=.bool (eqE a b)∧h'=h):=by
  refine Go.Sh.enG Tryz.kTab_ok (X:=Tryz.X2) (kf:=Tryz.k63) rfl (by kernel_rfl) (a.length+2) rfl rfl ?_
  have lv:=w.length
  have lu:=x.length
  by_cases hl:a.length=b.length
  ·have e1:eqI (a.length:Int) (b.length:Int)=true:=eqIt (by omega)
   simp [↓ kq,kq,↓ ku,ku,↓ ko,ko,↓ kt,↓ kz,kb,kv,kt,kx,lv,lu,e1,gets_some,-bO_of,-bB_true,-bB_false,-H.next_push,-Int.natCast_add]
   refine gets_next (gets_leave (Gets.mono (Tryz.eq63_loop w x hl hm a.length 0 (a.length+2) _ (by omega) (by omega) rfl ?_ ?_ ?_ ?_) ?_))
   rotate_right
   ·rintro fl t' h' ⟨rfl,⟨rfl,hd⟩ | ⟨rfl,c1,hd⟩⟩
    ·simp only [if_true]
     rw [hd]
     simp [↓ kq,kq,↓ ku,ku,↓ ko,ko,↓ kt,↓ kz,kb,kv,kt,kx,gets_some,kc,oneS,-bO_of,-bB_true,-bB_false,-H.next_push,-Int.natCast_add]
    ·rw [hd]
     simp [↓ kq,kq,↓ ku,ku,↓ ko,ko,↓ kt,↓ kz,kb,kv,kt,kx,c1,gets_some,kc,oneS,-bO_of,-bB_true,-bB_false,-H.next_push,-Int.natCast_add]
   all_goals simp [kq,kb]
  ·have e1:eqI (a.length:Int) (b.length:Int)=false:=eqIf (by omega)
   have hd:eqE a b=false:=eqE_false λ e=>hl (by rw [e])
   rw [hd]
   simp [↓ kq,kq,↓ ku,ku,↓ ko,ko,↓ kt,↓ kz,kb,kv,kt,kx,lv,lu,e1,gets_some,kc,oneS,-bO_of,-bB_true,-bB_false,-H.next_push,-Int.natCast_add]
 obtain ⟨_,_,k1,rfl,rfl⟩:=main
 exact k1
end
end Go.Proofs
end
section
/- LadderForms: rows that are alike. -/
namespace Go.Proofs
open Go.Sh
set_option maxRecDepth 100000
attribute [local instance] powHeld
noncomputable section
theorem eqE_iff {α:Type} {a b:α}:eqE a b=true ↔ a=b:=⟨λ h=>Classical.byContradiction λ e=>(by rw [eqE_false e] at h;cases h),eqE_true⟩
theorem eqRow_true {a b:Row} (h1:a.var=b.var):eqE a b=decide (a.set=b.set):=by
 by_cases h2:a.set=b.set
 ·rw [decide_eq_true h2]
  exact eqE_true (by cases a;cases b;simp at *;exact ⟨h1,h2⟩)
 ·rw [decide_eq_false h2]
  exact eqE_false λ e=>h2 (by rw [e])
theorem eqRow_false {a b:Row} (h1:a.var≠b.var):eqE a b=false:=eqE_false λ e=>h1 (by rw [e])
theorem Tryz.same62 {h:H} {sa sb:SV} {a b:Row} (w:View h 1 sa a.set.length (ints a.set)) (x:View h 1 sb b.set.length (ints b.set)) (hm:a.set.length < 4611686018427387904) (hm2:b.set.length < 4611686018427387904) :
  ∃ v' h',Tryz.l2 62 [.agg [.str a.var,sa],.agg [.str b.var,sb]] h=some (v',h')∧v'=.bool (eqE a b)∧Calms h h':=by
 refine Go.Sh.enG Tryz.kTab_ok (X:=Tryz.X2) (kf:=Tryz.k62) rfl (by kernel_rfl) 2 rfl rfl ?_
 generalize hh1:h.push (.cells [.str a.var,sa] .fixed)=h1
 have f1:=calm_push hh1
 have g1:=get_pushed hh1
 generalize hh2:h1.push (.cells [.str b.var,sb] .fixed)=h2
 have f2:=calm_push hh2
 have g2:=get_pushed hh2
 have F:Calms h h2:=f1.trans f2
 have B1:h2.get h.next=some (.cells [.str a.var,sa] .fixed):=(f2.keep _ (H.get_lt g1) λ k=>k).trans g1
 have L1:=row_box B1
 have L2:=row_box g2
 have k1:=Tryz.eq104 (w.keep F λ _ _ k=>k) (x.keep F λ _ _ k=>k) hm hm2
 by_cases hv:a.var=b.var
 ·have e1:eqB a.var b.var=true:=by rw [hv];exact eqB_self _
  rw [eqRow_true hv]
  generalize a.var=va at *
  generalize b.var=vb at *
  simp [↓ kq,kq,↓ ku,ku,↓ ko,ko,↓ kt,↓ kz,kb,kv,kt,kx,hh1,hh2,L1,L2,e1,k1,gets_some,kc,oneS,-bO_of,-bB_true,-bB_false,-H.next_push,-Int.natCast_add]
  exact F
 ·have e1:eqB a.var b.var=false:=eqB_not hv
  rw [eqRow_false hv]
  generalize a.var=va at *
  generalize b.var=vb at *
  simp [↓ kq,kq,↓ ku,ku,↓ ko,ko,↓ kt,↓ kz,kb,kv,kt,kx,hh1,hh2,L1,L2,e1,k1,gets_some,kc,oneS,-bO_of,-bB_true,-bB_false,-H.next_push,-Int.natCast_add]
  exact F
theorem row_fields {h:H} {n:Nat} {v:SV} {m:List (Row × SV)} (w:View h 2 v n (rowCs m)) (hn:n=m.length) {i:Nat} {x:Row × SV} (hx:m[i]?=some x):∃ id o,atIdx 2 i v=some (.ptr id o)∧loadV none h.get (.ptr id o)=some (.str x.1.var)∧loadV none h.get (.ptr id (o+1))=some x.2:=by
 subst hn
 have hi:i < m.length:=(List.getElem?_eq_some_iff.1 hx).1
 obtain ⟨id,o,all,h1,h2,h3,h4,h5⟩:=w.at hi
 rw [rowCs_at hx] at h5
 have g:∀ k y,[SV.str x.1.var,x.2][k]?=some y→all[o+k]?=some y:=λ k y hy=>by
  rw [← h5,List.getElem?_take] at hy
  split at hy
  ·rw [List.getElem?_drop] at hy;exact hy
  ·cases hy
 have hl:=loadB h3
 exact ⟨id,o,h1,(hl o).trans (g 0 _ rfl),(hl (o+1)).trans (g 1 _ rfl)⟩
def rowsOf (m:List (Row × SV)):List Row:=m.map (·.1)
theorem Tryz.rows58_loop {h:H} {p:Nat} {v u:SV} {a b:List (Row × SV)} (w:RowsV h p v a) (x:RowsV h p u b) (hl:a.length=b.length) (hm:a.length < 1073741824) (hsa:∀ y ∈ a,y.1.set.length < 1073741824) (hsb:∀ y ∈ b,y.1.set.length < 1073741824):∀ (j i k:Nat) (t:T),i+j=a.length→j < k→(rowsOf a).take i=(rowsOf b).take i→getP (way 0) t=some v→getP (way 1) t=some u→getP (way 5) t=some (.int .i64 i) →
  Gets (cLoop Tryz.l58_0 k Tryz.l2 t h) (EqPost h (eqE (rowsOf a) (rowsOf b))):=by
 intro j
 induction j with
 | zero=>
  intro i k t hi hk hp t0 t1 t13
  obtain ⟨k,rfl⟩:∃ m,k=m+1:=⟨k - 1,by omega⟩
  rw [loop_succ]
  generalize (λ t h=>cLoop Tryz.l58_0 k Tryz.l2 t h)=L
  unfold Tryz.l58_0
  have e1:ltI (i:Int) (a.length:Int)=false:=ltIf (by omega)
  have lv:=w.1.length
  have hab:rowsOf a=rowsOf b:=by rw [List.take_of_length_le (by unfold rowsOf;rw [List.length_map];omega),List.take_of_length_le (by unfold rowsOf;rw [List.length_map];omega)] at hp;exact hp
  simp [↓ kq,kq,↓ ku,ku,↓ ko,ko,↓ kt,↓ kz,kb,kv,kt,kx,t0,t1,t13,lv,e1,gets_some,-bO_of,-bB_true,-bB_false,-H.next_push,-Int.natCast_add]
  exact ⟨rfl,.inl ⟨rfl,eqE_true hab⟩⟩
 | succ j ih=>
  intro i k t hi hk hp t0 t1 t13
  obtain ⟨k,rfl⟩:∃ m,k=m+1:=⟨k - 1,by omega⟩
  rw [loop_succ]
  generalize hL:(λ t h=>cLoop Tryz.l58_0 k Tryz.l2 t h)=L
  have e1:ltI (i:Int) (a.length:Int)=true:=ltIt (by omega)
  have lv:=w.1.length
  have e6:intN (i:Int)=some i:=intN_nat i
  have e9:IntKind.i64.wrap ((i:Int)+1)=((i+1:Nat):Int):=by rw [wrapI64 (by omega) (by omega)];omega
  obtain ⟨x1,h1⟩:∃ s,a[i]?=some s:=⟨a[i]'(by omega),List.getElem?_eq_getElem (by omega)⟩
  obtain ⟨x2,h2⟩:∃ s,b[i]?=some s:=⟨b[i]'(by omega),List.getElem?_eq_getElem (by omega)⟩
  have h1':(rowsOf a)[i]?=some x1.1:=by simp [rowsOf,h1]
  have h2':(rowsOf b)[i]?=some x2.1:=by simp [rowsOf,h2]
  obtain ⟨p1,o1,a1,a2,a3⟩:=row_fields w.1 rfl h1
  obtain ⟨p2,o2,b1,b2,b3⟩:=row_fields x.1 rfl h2
  have k1:=Tryz.eq103 (w.2.2 x1 (List.mem_of_getElem? h1)).1 (x.2.2 x2 (List.mem_of_getElem? h2)).1 (by have:=hsa x1 (List.mem_of_getElem? h1);omega) (by have:=hsb x2 (List.mem_of_getElem? h2);omega)
  obtain ⟨⟨va,sa⟩,xa⟩:=x1
  obtain ⟨⟨vb,sb⟩,xb⟩:=x2
  unfold Tryz.l58_0
  by_cases hv:va=vb
  ·subst hv
   have e3:eqB va va=true:=eqB_self va
   by_cases hs:sa=sb
   ·subst hs
    have e4:decide (sa=sa)=true:=decide_eq_true rfl
    have k1:Tryz.l2 103 [xa,xb] h=some (.bool true,h):=by rw [← e4];exact k1
    simp [↓ kq,kq,↓ ku,ku,↓ ko,ko,↓ kt,↓ kz,kb,kv,kt,kx,t0,t1,t13,lv,e1,e6,e9,a1,a2,a3,b1,b2,b3,e3,k1,gets_some,-bO_of,-bB_true,-bB_false,-H.next_push,-Int.natCast_add]
    rw [← hL]
    refine Gets.mono (ih (i+1) k _ (by omega) (by omega) (take_eq_succ h1' h2' hp) ?_ ?_ ?_) λ fl t' h' r=>r
    all_goals simp [kq,kb,t0,t1,t13]
   ·have e4:decide (sa=sb)=false:=decide_eq_false hs
    have k1:Tryz.l2 103 [xa,xb] h=some (.bool false,h):=by rw [← e4];exact k1
    simp [↓ kq,kq,↓ ku,ku,↓ ko,ko,↓ kt,↓ kz,kb,kv,kt,kx,t0,t1,t13,lv,e1,e6,e9,a1,a2,a3,b1,b2,b3,e3,k1,gets_some,-bO_of,-bB_true,-bB_false,-H.next_push,-Int.natCast_add]
    exact ⟨rfl,.inr ⟨rfl,by simp [kq,kb],eqE_false (ne_of_get h1' h2' λ e=>hs (by injection e))⟩⟩
  ·have e3:eqB va vb=false:=eqB_not hv
   simp [↓ kq,kq,↓ ku,ku,↓ ko,ko,↓ kt,↓ kz,kb,kv,kt,kx,t0,t1,t13,lv,e1,e6,e9,a1,a2,a3,b1,b2,b3,e3,k1,gets_some,-bO_of,-bB_true,-bB_false,-H.next_push,-Int.natCast_add]
   exact ⟨rfl,.inr ⟨rfl,by simp [kq,kb],eqE_false (ne_of_get h1' h2' λ e=>hv (by injection e))⟩⟩
theorem Tryz.rows58 {h:H} {p:Nat} {v u:SV} {a b:List (Row × SV)} (w:RowsV h p v a) (x:RowsV h p u b) (hm:a.length < 1073741824) (hm2:b.length < 1073741824) (hsa:∀ y ∈ a,y.1.set.length < 1073741824) (hsb:∀ y ∈ b,y.1.set.length < 1073741824):Tryz.l2 58 [v,u] h=some (.bool (eqE (rowsOf a) (rowsOf b)),h):=by
 have main:∃ v' h',Tryz.l2 58 [v,u] h=some (v',h')∧(v'=.bool (eqE (rowsOf a) (rowsOf b))∧h'=h):=by
  refine Go.Sh.enG Tryz.kTab_ok (X:=Tryz.X2) (kf:=Tryz.k58) rfl (by kernel_rfl) (a.length+2) rfl rfl ?_
  have lv:=w.1.length
  have lu:=x.1.length
  by_cases hl:a.length=b.length
  ·have e1:eqI (a.length:Int) (b.length:Int)=true:=eqIt (by omega)
   simp [↓ kq,kq,↓ ku,ku,↓ ko,ko,↓ kt,↓ kz,kb,kv,kt,kx,lv,lu,e1,gets_some,-bO_of,-bB_true,-bB_false,-H.next_push,-Int.natCast_add]
   refine gets_next (gets_leave (Gets.mono (Tryz.rows58_loop w x hl hm hsa hsb a.length 0 (a.length+2) _ (by omega) (by omega) rfl ?_ ?_ ?_) ?_))
   rotate_right
   ·rintro fl t' h' ⟨rfl,⟨rfl,hd⟩ | ⟨rfl,c1,hd⟩⟩
    ·simp only [if_true]
     rw [hd]
     simp [↓ kq,kq,↓ ku,ku,↓ ko,ko,↓ kt,↓ kz,kb,kv,kt,kx,gets_some,kc,oneS,-bO_of,-bB_true,-bB_false,-H.next_push,-Int.natCast_add]
    ·rw [hd]
     simp [↓ kq,kq,↓ ku,ku,↓ ko,ko,↓ kt,↓ kz,kb,kv,kt,kx,c1,gets_some,kc,oneS,-bO_of,-bB_true,-bB_false,-H.next_push,-Int.natCast_add]
   all_goals simp [kq,kb]
  ·have e1:eqI (a.length:Int) (b.length:Int)=false:=eqIf (by omega)
   have hd:eqE (rowsOf a) (rowsOf b)=false:=eqE_false λ e=>hl (by have:=congrArg List.length e;unfold rowsOf at this;rw [List.length_map,List.length_map] at this;exact this)
   rw [hd]
   simp [↓ kq,kq,↓ ku,ku,↓ ko,ko,↓ kt,↓ kz,kb,kv,kt,kx,lv,lu,e1,gets_some,kc,oneS,-bO_of,-bB_true,-bB_false,-H.next_push,-Int.natCast_add]
 obtain ⟨_,_,k1,rfl,rfl⟩:=main
 exact k1
end
end Go.Proofs
end
section
/- LadderForms: slices.EqualFunc of rows. -/
namespace Go.Proofs
open Go.Sh
set_option maxRecDepth 100000
attribute [local instance] powHeld
noncomputable section
def EqPost6 (h0:H) (d:Bool) (fl:Flow) (t':T) (h':H):Prop:=Calms h0 h'∧(fl=.exit 0∧d=true∨fl=.ret∧getP (way 6) t'=some (.bool false)∧d=false)
theorem box_two {h:H} {id:Nat} {a b:SV} (g:h.get id=some (.cells [a,b] .fixed)):loadV (some 2) h.get (.ptr id 0)=some (.agg [a,b]):=by
 show bO (rowCells h.get id) (λ cs=>kpart (some 2) cs 0)=_
 rw [rowCells_fixed g];rfl
set_option maxHeartbeats 4000000 in
theorem Tryz.eqf61_loop {h0:H} {p:Nat} {v u:SV} {a b:List (Row × SV)} (w0:RowsV h0 p v a) (x0:RowsV h0 p u b) (hl:a.length=b.length) (hm:a.length < 1073741824) (hsa:∀ y ∈ a,y.1.set.length < 1073741824) (hsb:∀ y ∈ b,y.1.set.length < 1073741824):∀ (j i k:Nat) (t:T) (h:H),i+j=a.length→j < k→(rowsOf a).take i=(rowsOf b).take i→Calms h0 h→getP (way 1) t=some u→getP (way 2) t=some (.func 62 [])→getP (way 15) t=some v→getP (way 16) t=some (.int .i64 a.length)→getP (way 17) t=some (.int .i64 i) →
  Gets (cLoop Tryz.l61_0 k Tryz.l2 t h) (EqPost6 h0 (eqE (rowsOf a) (rowsOf b))):=by
 intro j
 induction j with
 | zero=>
  intro i k t h hi hk hp fr t1 t2 t15 t16 t17
  obtain ⟨k,rfl⟩:∃ m,k=m+1:=⟨k - 1,by omega⟩
  rw [loop_succ]
  generalize (λ t h=>cLoop Tryz.l61_0 k Tryz.l2 t h)=L
  unfold Tryz.l61_0
  have e1:ltI (i:Int) (a.length:Int)=false:=ltIf (by omega)
  have hab:rowsOf a=rowsOf b:=by rw [List.take_of_length_le (by unfold rowsOf;rw [List.length_map];omega),List.take_of_length_le (by unfold rowsOf;rw [List.length_map];omega)] at hp;exact hp
  simp [↓ kq,kq,↓ ku,ku,↓ ko,ko,↓ kt,↓ kz,kb,kv,kt,kx,t1,t2,t15,t16,t17,e1,gets_some,-bO_of,-bB_true,-bB_false,-H.next_push,-Int.natCast_add]
  exact ⟨fr,.inl ⟨rfl,eqE_true hab⟩⟩
 | succ j ih=>
  intro i k t h hi hk hp fr t1 t2 t15 t16 t17
  obtain ⟨k,rfl⟩:∃ m,k=m+1:=⟨k - 1,by omega⟩
  rw [loop_succ]
  generalize hL:(λ t h=>cLoop Tryz.l61_0 k Tryz.l2 t h)=L
  have e1:ltI (i:Int) (a.length:Int)=true:=ltIt (by omega)
  have e6:intN (i:Int)=some i:=intN_nat i
  have e9:IntKind.i64.wrap ((i:Int)+1)=((i+1:Nat):Int):=by rw [wrapI64 (by omega) (by omega)];omega
  have asf:asF (.func 62 [])=some (62,[]):=rfl
  obtain ⟨x1,h1⟩:∃ s,a[i]?=some s:=⟨a[i]'(by omega),List.getElem?_eq_getElem (by omega)⟩
  obtain ⟨x2,h2⟩:∃ s,b[i]?=some s:=⟨b[i]'(by omega),List.getElem?_eq_getElem (by omega)⟩
  have h1':(rowsOf a)[i]?=some x1.1:=by simp [rowsOf,h1]
  have h2':(rowsOf b)[i]?=some x2.1:=by simp [rowsOf,h2]
  have w:=w0.keep fr λ _ _ k=>k
  have x:=x0.keep fr λ _ _ k=>k
  obtain ⟨p1,a1,a2⟩:=load_row w.1 rfl h1
  generalize hk1:h.push (.cells [.str [],.nilslice] .fixed)=q1
  have f1:=calm_push hk1
  have s1:storeV 2 q1 (.ptr h.next 0) (.agg [.str x1.1.var,x1.2])=some (.tuple [],q1.put h.next (.cells [.str x1.1.var,x1.2] .fixed)):=storeV_all (get_pushed hk1) rfl rfl
  have g2:(q1.put h.next (.cells [.str x1.1.var,x1.2] .fixed)).get h.next=some (.cells [.str x1.1.var,x1.2] .fixed):=get_put_self (get_pushed hk1)
  have f2:Fr (·=h.next) (·=h.next) q1 (q1.put h.next (.cells [.str x1.1.var,x1.2] .fixed)):=Fr.put (H.get_lt (get_pushed hk1))
  generalize q1.put h.next (.cells [.str x1.1.var,x1.2] .fixed)=q2 at *
  have F2:Calms h q2:=Fr.new f1 f2 (λ q e=>by have e:q=h.next:=e;omega) (λ q e=>by have e:q=h.next:=e;omega)
  obtain ⟨p2,b1,b2⟩:=load_row (x.keep F2 λ _ _ k=>k).1 rfl h2
  generalize hk3:q2.push (.cells [.str [],.nilslice] .fixed)=q3
  have f3:=calm_push hk3
  have s3:storeV 2 q3 (.ptr q2.next 0) (.agg [.str x2.1.var,x2.2])=some (.tuple [],q3.put q2.next (.cells [.str x2.1.var,x2.2] .fixed)):=storeV_all (get_pushed hk3) rfl rfl
  have g4:(q3.put q2.next (.cells [.str x2.1.var,x2.2] .fixed)).get q2.next=some (.cells [.str x2.1.var,x2.2] .fixed):=get_put_self (get_pushed hk3)
  have f4:Fr (·=q2.next) (·=q2.next) q3 (q3.put q2.next (.cells [.str x2.1.var,x2.2] .fixed)):=Fr.put (H.get_lt (get_pushed hk3))
  generalize q3.put q2.next (.cells [.str x2.1.var,x2.2] .fixed)=q4 at *
  have F4':Calms q2 q4:=Fr.new f3 f4 (λ q e=>by have e:q=q2.next:=e;omega) (λ q e=>by have e:q=q2.next:=e;omega)
  have F4:Calms h q4:=F2.trans F4'
  have B1:q4.get h.next=some (.cells [.str x1.1.var,x1.2] .fixed):=(F4'.keep _ (H.get_lt g2) λ k=>k).trans g2
  have L1:=box_two B1
  have L2:=box_two g4
  obtain ⟨_,q5,k1,rfl,f5⟩:=Tryz.same62 (((w.2.2 x1 (List.mem_of_getElem? h1)).1).keep F4 λ _ _ k=>k) (((x.2.2 x2 (List.mem_of_getElem? h2)).1).keep F4 λ _ _ k=>k) (by have:=hsa x1 (List.mem_of_getElem? h1);omega) (by have:=hsb x2 (List.mem_of_getElem? h2);omega)
  have F5:Calms h0 q5:=(fr.trans F4).trans f5
  unfold Tryz.l61_0
  by_cases hx:x1.1=x2.1
  ·rw [eqE_true hx] at k1
   have hnx:=take_eq_succ h1' (by rw [h2',hx]) hp
   generalize x1.1.var=va at *
   generalize x2.1.var=vb at *
   simp [↓ kq,kq,↓ ku,ku,↓ ko,ko,↓ kt,↓ kz,kb,kv,kt,kx,t1,t2,t15,t16,t17,e1,e6,e9,asf,a1,a2,b1,b2,hk1,s1,hk3,s3,L1,L2,k1,gets_some,-bO_of,-bB_true,-bB_false,-H.next_push,-Int.natCast_add]
   rw [← hL]
   refine Gets.mono (ih (i+1) k _ q5 (by omega) (by omega) hnx F5 ?_ ?_ ?_ ?_ ?_) λ fl t' h' r=>r
   all_goals simp [kq,kb,t1,t2,t15,t16,t17]
  ·rw [eqE_false hx] at k1
   have hnn:=ne_of_get h1' h2' hx
   generalize x1.1.var=va at *
   generalize x2.1.var=vb at *
   simp [↓ kq,kq,↓ ku,ku,↓ ko,ko,↓ kt,↓ kz,kb,kv,kt,kx,t1,t2,t15,t16,t17,e1,e6,e9,asf,a1,a2,b1,b2,hk1,s1,hk3,s3,L1,L2,k1,gets_some,-bO_of,-bB_true,-bB_false,-H.next_push,-Int.natCast_add]
   exact ⟨F5,.inr ⟨rfl,by simp [kq,kb],eqE_false hnn⟩⟩
theorem Tryz.eqf61 {h:H} {p:Nat} {v u:SV} {a b:List (Row × SV)} (w:RowsV h p v a) (x:RowsV h p u b) (hm:a.length < 1073741824) (hm2:b.length < 1073741824) (hsa:∀ y ∈ a,y.1.set.length < 1073741824) (hsb:∀ y ∈ b,y.1.set.length < 1073741824):∃ v' h',Tryz.l2 61 [v,u,.func 62 []] h=some (v',h')∧v'=.bool (eqE (rowsOf a) (rowsOf b))∧Calms h h':=by
 refine Go.Sh.enG Tryz.kTab_ok (X:=Tryz.X2) (kf:=Tryz.k61) rfl (by kernel_rfl) (a.length+2) rfl rfl ?_
 have lv:=w.1.length
 have lu:=x.1.length
 by_cases hl:a.length=b.length
 ·have e1:eqI (a.length:Int) (b.length:Int)=true:=eqIt (by omega)
  simp [↓ kq,kq,↓ ku,ku,↓ ko,ko,↓ kt,↓ kz,kb,kv,kt,kx,lv,lu,e1,gets_some,-bO_of,-bB_true,-bB_false,-H.next_push,-Int.natCast_add]
  refine gets_next (gets_leave (Gets.mono (Tryz.eqf61_loop w x hl hm hsa hsb a.length 0 (a.length+2) _ h (by omega) (by omega) rfl .refl ?_ ?_ ?_ ?_ ?_) ?_))
  rotate_right
  ·rintro fl t' h' ⟨fr,⟨rfl,hd⟩ | ⟨rfl,c1,hd⟩⟩
   ·simp only [if_true]
    rw [hd]
    simp [↓ kq,kq,↓ ku,ku,↓ ko,ko,↓ kt,↓ kz,kb,kv,kt,kx,gets_some,kc,oneS,-bO_of,-bB_true,-bB_false,-H.next_push,-Int.natCast_add]
    exact fr
   ·rw [hd]
    simp [↓ kq,kq,↓ ku,ku,↓ ko,ko,↓ kt,↓ kz,kb,kv,kt,kx,c1,gets_some,kc,oneS,-bO_of,-bB_true,-bB_false,-H.next_push,-Int.natCast_add]
    exact fr
  all_goals simp [kq,kb]
 ·have e1:eqI (a.length:Int) (b.length:Int)=false:=eqIf (by omega)
  have hd:eqE (rowsOf a) (rowsOf b)=false:=eqE_false λ e=>hl (by have:=congrArg List.length e;unfold rowsOf at this;rw [List.length_map,List.length_map] at this;exact this)
  rw [hd]
  simp [↓ kq,kq,↓ ku,ku,↓ ko,ko,↓ kt,↓ kz,kb,kv,kt,kx,lv,lu,e1,gets_some,kc,oneS,-bO_of,-bB_true,-bB_false,-H.next_push,-Int.natCast_add]
  exact .refl
end
end Go.Proofs
end
section
/- LadderForms: reports that are alike. -/
namespace Go.Proofs
open Go.Sh
set_option maxRecDepth 100000
attribute [local instance] powHeld
noncomputable section
theorem szR_mem:∀ {l:List Row} {x:Row},x ∈ l→2 * x.set.length≤szR l
 | y::l,x,h=>by
  show _≤y.var.length+4+2 * y.set.length+szR l
  rcases List.mem_cons.1 h with rfl | h
  ·omega
  ·have:=szR_mem h;omega
def sameD (r s:RD):Bool:=eqB r.entry s.entry&&(decide (r.sites=s.sites)&&(eqE r.sets s.sets&&(eqE r.edges s.edges&&(decide (r.reach=s.reach)&&decide (r.inits=s.inits)))))
set_option maxHeartbeats 4000000 in
theorem Tryz.same21 {h:H} {p:Nat} {ca cb:List SV} {r s:RD} {ma mb:List (Row × SV)} (R:RepV h p ca r ma) (Q:RepV h p cb s mb) (hr:szD r≤268435456) (hs:szD s≤268435456):∃ v' h',Tryz.l2 21 [.agg ca,.agg cb] h=some (v',h')∧v'=.bool (sameD r s)∧Calms h h':=by
 refine Go.Sh.enG Tryz.kTab_ok (X:=Tryz.X2) (kf:=Tryz.k21) rfl (by kernel_rfl) 2 rfl rfl ?_
 obtain ⟨⟨sv,tv,ev,rv,iv,rfl,a1,a2,b1,c1,c2,d1,d2,i1,i2⟩,hrows⟩:=R
 obtain ⟨⟨sv',tv',ev',rv',iv',rfl,a1',a2',b1',c1',c2',d1',d2',i1',i2'⟩,hrows'⟩:=Q
 generalize hcs:[SV.str r.entry,sv,tv,ev,rv,iv]=cs at *
 generalize hcs':[SV.str s.entry,sv',tv',ev',rv',iv']=cs' at *
 have y0:cs[0]?=some (.str r.entry):=by rw [← hcs];rfl
 have y1:cs[1]?=some sv:=by rw [← hcs];rfl
 have y2:cs[2]?=some tv:=by rw [← hcs];rfl
 have y3:cs[3]?=some ev:=by rw [← hcs];rfl
 have y4:cs[4]?=some rv:=by rw [← hcs];rfl
 have y5:cs[5]?=some iv:=by rw [← hcs];rfl
 have z0:cs'[0]?=some (.str s.entry):=by rw [← hcs'];rfl
 have z1:cs'[1]?=some sv':=by rw [← hcs'];rfl
 have z2:cs'[2]?=some tv':=by rw [← hcs'];rfl
 have z3:cs'[3]?=some ev':=by rw [← hcs'];rfl
 have z4:cs'[4]?=some rv':=by rw [← hcs'];rfl
 have z5:cs'[5]?=some iv':=by rw [← hcs'];rfl
 generalize hh1:h.push (.cells cs .fixed)=h1
 have f1:=calm_push hh1
 have g1:=get_pushed hh1
 generalize hh2:h1.push (.cells cs' .fixed)=h2
 have f2:=calm_push hh2
 have g2:=get_pushed hh2
 have F:Calms h h2:=f1.trans f2
 have B1:h2.get h.next=some (.cells cs .fixed):=(f2.keep _ (H.get_lt g1) λ k=>k).trans g1
 have L1:=row_box B1
 have L2:=row_box g2
 unfold szD at hr hs
 have Z:=szT_len r.sites
 have Z':=szT_len s.sites
 have Y:=szR_len r.sets
 have Y':=szR_len s.sets
 have X:=szE_len r.edges
 have X':=szE_len s.edges
 have W:=szT_len r.reach
 have W':=szT_len s.reach
 have V:=szT_len r.inits
 have V':=szT_len s.inits
 have hml:ma.length=r.sets.length:=by rw [← hrows,List.length_map]
 have hml':mb.length=s.sets.length:=by rw [← hrows',List.length_map]
 have ma1:∀ y ∈ ma,y.1.set.length < 1073741824:=λ y hy=>by
  have:=szR_mem (show y.1 ∈ r.sets by rw [← hrows];exact List.mem_map.2 ⟨y,hy,rfl⟩)
  omega
 have mb1:∀ y ∈ mb,y.1.set.length < 1073741824:=λ y hy=>by
  have:=szR_mem (show y.1 ∈ s.sets by rw [← hrows'];exact List.mem_map.2 ⟨y,hy,rfl⟩)
  omega
 have k1:=Tryz.eq60 (a1.keep F λ _ _ k=>k) (a1'.keep F λ _ _ k=>k) (by omega) (by omega)
 obtain ⟨_,h3,k2,rfl,f3⟩:=Tryz.eqf61 (b1.keep F λ _ _ k=>k) (b1'.keep F λ _ _ k=>k) (by omega) (by omega) ma1 mb1
 have F3:Calms h h3:=F.trans f3
 have L3:=row_box ((f3.keep _ (H.get_lt B1) λ k=>k).trans B1)
 have L4:=row_box ((f3.keep _ (H.get_lt g2) λ k=>k).trans g2)
 have k3:=Tryz.eq63 (c1.keep F3 λ _ _ k=>k) (c1'.keep F3 λ _ _ k=>k) (by omega) (by omega)
 have k4:=Tryz.eq60 (d1.keep F3 λ _ _ k=>k) (d1'.keep F3 λ _ _ k=>k) (by omega) (by omega)
 have k5:=Tryz.eq60 (i1.keep F3 λ _ _ k=>k) (i1'.keep F3 λ _ _ k=>k) (by omega) (by omega)
 have hab:eqE (rowsOf ma) (rowsOf mb)=eqE r.sets s.sets:=by unfold rowsOf;rw [hrows,hrows']
 rw [hab] at k2
 unfold sameD
 generalize decide (r.sites=s.sites)=o1 at *
 generalize eqE r.sets s.sets=o2 at *
 generalize eqE r.edges s.edges=o3 at *
 generalize decide (r.reach=s.reach)=o4 at *
 generalize decide (r.inits=s.inits)=o5 at *
 cases c0:eqB r.entry s.entry with
 | false=>
  simp [↓ kq,kq,↓ ku,ku,↓ ko,ko,↓ kt,↓ kz,kb,kv,kt,kx,c0,hh1,hh2,L1,L2,L3,L4,y0,y1,y2,y3,y4,y5,z0,z1,z2,z3,z4,z5,k1,k2,k3,k4,k5,gets_some,kc,oneS,-bO_of,-bB_true,-bB_false,-H.next_push,-Int.natCast_add]
  exact F
 | true=>
  cases o1 with
  | false=>
   simp [↓ kq,kq,↓ ku,ku,↓ ko,ko,↓ kt,↓ kz,kb,kv,kt,kx,c0,hh1,hh2,L1,L2,L3,L4,y0,y1,y2,y3,y4,y5,z0,z1,z2,z3,z4,z5,k1,k2,k3,k4,k5,gets_some,kc,oneS,-bO_of,-bB_true,-bB_false,-H.next_push,-Int.natCast_add]
   exact F
  | true=>
   cases o2 with
   | false=>
    simp [↓ kq,kq,↓ ku,ku,↓ ko,ko,↓ kt,↓ kz,kb,kv,kt,kx,c0,hh1,hh2,L1,L2,L3,L4,y0,y1,y2,y3,y4,y5,z0,z1,z2,z3,z4,z5,k1,k2,k3,k4,k5,gets_some,kc,oneS,-bO_of,-bB_true,-bB_false,-H.next_push,-Int.natCast_add]
    exact F3
   | true=>
    cases o3 with
    | false=>
     simp [↓ kq,kq,↓ ku,ku,↓ ko,ko,↓ kt,↓ kz,kb,kv,kt,kx,c0,hh1,hh2,L1,L2,L3,L4,y0,y1,y2,y3,y4,y5,z0,z1,z2,z3,z4,z5,k1,k2,k3,k4,k5,gets_some,kc,oneS,-bO_of,-bB_true,-bB_false,-H.next_push,-Int.natCast_add]
     exact F3
    | true=>
     cases o4 with
     | false=>
      simp [↓ kq,kq,↓ ku,ku,↓ ko,ko,↓ kt,↓ kz,kb,kv,kt,kx,c0,hh1,hh2,L1,L2,L3,L4,y0,y1,y2,y3,y4,y5,z0,z1,z2,z3,z4,z5,k1,k2,k3,k4,k5,gets_some,kc,oneS,-bO_of,-bB_true,-bB_false,-H.next_push,-Int.natCast_add]
      exact F3
     | true=>
      simp [↓ kq,kq,↓ ku,ku,↓ ko,ko,↓ kt,↓ kz,kb,kv,kt,kx,c0,hh1,hh2,L1,L2,L3,L4,y0,y1,y2,y3,y4,y5,z0,z1,z2,z3,z4,z5,k1,k2,k3,k4,k5,gets_some,kc,oneS,-bO_of,-bB_true,-bB_false,-H.next_push,-Int.natCast_add]
      exact F3
set_option maxHeartbeats 4000000 in
theorem Tryz.rsame19 {h:H} {p:Nat} {ca cb:List SV} {r s:RD} {ma mb:List (Row × SV)} (R:RepV h p ca r ma) (Q:RepV h p cb s mb) (hr:szD r≤268435456) (hs:szD s≤268435456):∃ v' h',Tryz.l2 19 [.agg ca,.agg cb] h=some (v',h')∧v'=.bool (sameD r s)∧Calms h h':=by
 refine Go.Sh.enG Tryz.kTab_ok (X:=Tryz.X2) (kf:=Tryz.k19) rfl (by kernel_rfl) 2 rfl rfl ?_
 obtain ⟨⟨sv,tv,ev,rv,iv,rfl,a1,a2,b1,c1,c2,d1,d2,i1,i2⟩,hrows⟩:=R
 obtain ⟨⟨sv',tv',ev',rv',iv',rfl,a1',a2',b1',c1',c2',d1',d2',i1',i2'⟩,hrows'⟩:=Q
 generalize hcs:[SV.str r.entry,sv,tv,ev,rv,iv]=cs at *
 generalize hcs':[SV.str s.entry,sv',tv',ev',rv',iv']=cs' at *
 have y0:cs[0]?=some (.str r.entry):=by rw [← hcs];rfl
 have y1:cs[1]?=some sv:=by rw [← hcs];rfl
 have y2:cs[2]?=some tv:=by rw [← hcs];rfl
 have y3:cs[3]?=some ev:=by rw [← hcs];rfl
 have y4:cs[4]?=some rv:=by rw [← hcs];rfl
 have y5:cs[5]?=some iv:=by rw [← hcs];rfl
 have z0:cs'[0]?=some (.str s.entry):=by rw [← hcs'];rfl
 have z1:cs'[1]?=some sv':=by rw [← hcs'];rfl
 have z2:cs'[2]?=some tv':=by rw [← hcs'];rfl
 have z3:cs'[3]?=some ev':=by rw [← hcs'];rfl
 have z4:cs'[4]?=some rv':=by rw [← hcs'];rfl
 have z5:cs'[5]?=some iv':=by rw [← hcs'];rfl
 generalize hh1:h.push (.cells cs .fixed)=h1
 have f1:=calm_push hh1
 have g1:=get_pushed hh1
 generalize hh2:h1.push (.cells cs' .fixed)=h2
 have f2:=calm_push hh2
 have g2:=get_pushed hh2
 have F:Calms h h2:=f1.trans f2
 have B1:h2.get h.next=some (.cells cs .fixed):=(f2.keep _ (H.get_lt g1) λ k=>k).trans g1
 have L1:=row_box B1
 have L2:=row_box g2
 unfold szD at hr hs
 have Z:=szT_len r.sites
 have Z':=szT_len s.sites
 have Y:=szR_len r.sets
 have Y':=szR_len s.sets
 have X:=szE_len r.edges
 have X':=szE_len s.edges
 have W:=szT_len r.reach
 have W':=szT_len s.reach
 have V:=szT_len r.inits
 have V':=szT_len s.inits
 have hml:ma.length=r.sets.length:=by rw [← hrows,List.length_map]
 have hml':mb.length=s.sets.length:=by rw [← hrows',List.length_map]
 have ma1:∀ y ∈ ma,y.1.set.length < 1073741824:=λ y hy=>by
  have:=szR_mem (show y.1 ∈ r.sets by rw [← hrows];exact List.mem_map.2 ⟨y,hy,rfl⟩)
  omega
 have mb1:∀ y ∈ mb,y.1.set.length < 1073741824:=λ y hy=>by
  have:=szR_mem (show y.1 ∈ s.sets by rw [← hrows'];exact List.mem_map.2 ⟨y,hy,rfl⟩)
  omega
 have k1:=Tryz.eq57 (a1.keep F λ _ _ k=>k) (a1'.keep F λ _ _ k=>k) (by omega) (by omega)
 have k2:=Tryz.rows58 (b1.keep F λ _ _ k=>k) (b1'.keep F λ _ _ k=>k) (by omega) (by omega) ma1 mb1
 obtain ⟨h3,hh3⟩:∃ h3,h3=h2:=⟨_,rfl⟩
 have f3:Calms h2 h3:=by rw [hh3];exact .refl
 have F3:Calms h h3:=F.trans f3
 have L3:=row_box ((f3.keep _ (H.get_lt B1) λ k=>k).trans B1)
 have L4:=row_box ((f3.keep _ (H.get_lt g2) λ k=>k).trans g2)
 have k3:=Tryz.eq59 (c1.keep F3 λ _ _ k=>k) (c1'.keep F3 λ _ _ k=>k) (by omega) (by omega)
 have k4:=Tryz.eq57 (d1.keep F3 λ _ _ k=>k) (d1'.keep F3 λ _ _ k=>k) (by omega) (by omega)
 have k5:=Tryz.eq57 (i1.keep F3 λ _ _ k=>k) (i1'.keep F3 λ _ _ k=>k) (by omega) (by omega)
 have hab:eqE (rowsOf ma) (rowsOf mb)=eqE r.sets s.sets:=by unfold rowsOf;rw [hrows,hrows']
 rw [hab] at k2
 unfold sameD
 generalize decide (r.sites=s.sites)=o1 at *
 generalize eqE r.sets s.sets=o2 at *
 generalize eqE r.edges s.edges=o3 at *
 generalize decide (r.reach=s.reach)=o4 at *
 generalize decide (r.inits=s.inits)=o5 at *
 subst hh3
 cases c0:eqB r.entry s.entry with
 | false=>
  simp [↓ kq,kq,↓ ku,ku,↓ ko,ko,↓ kt,↓ kz,kb,kv,kt,kx,c0,hh1,hh2,L1,L2,L3,L4,y0,y1,y2,y3,y4,y5,z0,z1,z2,z3,z4,z5,k1,k2,k3,k4,k5,gets_some,kc,oneS,-bO_of,-bB_true,-bB_false,-H.next_push,-Int.natCast_add]
  exact F
 | true=>
  cases o1 with
  | false=>
   simp [↓ kq,kq,↓ ku,ku,↓ ko,ko,↓ kt,↓ kz,kb,kv,kt,kx,c0,hh1,hh2,L1,L2,L3,L4,y0,y1,y2,y3,y4,y5,z0,z1,z2,z3,z4,z5,k1,k2,k3,k4,k5,gets_some,kc,oneS,-bO_of,-bB_true,-bB_false,-H.next_push,-Int.natCast_add]
   exact F
  | true=>
   cases o2 with
   | false=>
    simp [↓ kq,kq,↓ ku,ku,↓ ko,ko,↓ kt,↓ kz,kb,kv,kt,kx,c0,hh1,hh2,L1,L2,L3,L4,y0,y1,y2,y3,y4,y5,z0,z1,z2,z3,z4,z5,k1,k2,k3,k4,k5,gets_some,kc,oneS,-bO_of,-bB_true,-bB_false,-H.next_push,-Int.natCast_add]
    exact F3
   | true=>
    cases o3 with
    | false=>
     simp [↓ kq,kq,↓ ku,ku,↓ ko,ko,↓ kt,↓ kz,kb,kv,kt,kx,c0,hh1,hh2,L1,L2,L3,L4,y0,y1,y2,y3,y4,y5,z0,z1,z2,z3,z4,z5,k1,k2,k3,k4,k5,gets_some,kc,oneS,-bO_of,-bB_true,-bB_false,-H.next_push,-Int.natCast_add]
     exact F3
    | true=>
     cases o4 with
     | false=>
      simp [↓ kq,kq,↓ ku,ku,↓ ko,ko,↓ kt,↓ kz,kb,kv,kt,kx,c0,hh1,hh2,L1,L2,L3,L4,y0,y1,y2,y3,y4,y5,z0,z1,z2,z3,z4,z5,k1,k2,k3,k4,k5,gets_some,kc,oneS,-bO_of,-bB_true,-bB_false,-H.next_push,-Int.natCast_add]
      exact F3
     | true=>
      simp [↓ kq,kq,↓ ku,ku,↓ ko,ko,↓ kt,↓ kz,kb,kv,kt,kx,c0,hh1,hh2,L1,L2,L3,L4,y0,y1,y2,y3,y4,y5,z0,z1,z2,z3,z4,z5,k1,k2,k3,k4,k5,gets_some,kc,oneS,-bO_of,-bB_true,-bB_false,-H.next_push,-Int.natCast_add]
      exact F3
end
end Go.Proofs
end
section
/- LadderForms: the document's reader: numbers. -/
namespace Go.Proofs
open Go.Sh
set_option maxRecDepth 100000
attribute [local instance] powHeld
noncomputable section
theorem or_u64 {a b:Nat} (ha:a < 1099511627776) (hb:b < 256):arithInt .or .u64 ((a * 256:Nat):Int) (b:Int)=some ((a * 256+b:Nat):Int):=by
 show some (IntKind.u64.wrap (BitVec.ofInt 64 ((a * 256:Nat):Int) ||| BitVec.ofInt 64 (b:Int)).toNat)=_
 have e:(BitVec.ofInt 64 ((a * 256:Nat):Int) ||| BitVec.ofInt 64 (b:Int)).toNat=a * 256+b:=by
  have e1:∀ x:Nat,BitVec.ofInt 64 (x:Int)=BitVec.ofNat 64 x:=λ x=>BitVec.ofInt_natCast ..
  rw [e1,e1,BitVec.toNat_or,BitVec.toNat_ofNat,BitVec.toNat_ofNat,Nat.mod_eq_of_lt (by omega),Nat.mod_eq_of_lt (by omega)]
  have h:=Nat.shiftLeft_add_eq_or_of_lt (i:=8) (b:=b) (by omega) a
  rw [Nat.shiftLeft_eq] at h
  exact h.symm
 rw [e,wrapU64]
 congr 1
 omega
theorem shl_u64 {a:Nat} (ha:a < 1099511627776):shiftInt .shl .u64 (a:Int) 8=some ((a * 256:Nat):Int):=by
 show (if (8:Int) < 0 then none else some (IntKind.u64.wrap ((a:Int) * 2 ^ (min (8:Int).toNat 64))))=_
 rw [if_neg (by decide),wrapU64]
 congr 1
 show ((a:Int) * 256) % 18446744073709551616=_
 omega
theorem asInt_int:∀ k n,Go.Sh.asInt (.int k n)=some n:=λ _ _=>rfl
theorem u8sAt {bs:List UInt8} {i:Nat} {c:UInt8} (h:bs[i]?=some c):(u8s bs)[i]?=some (.int .u8 (c.toNat:Int)):=by simp [u8s,h]
theorem Tryz.getu_step {h:H} {n:Nat} {v:SV} {bs:List UInt8} (w:View h 1 v n (u8s bs)) {i a:Nat} {c:UInt8} (hi:i < 2) (hin:i < n) (hc:bs[i]?=some c) (ha:a < 1099511627776) (k:Nat) (t:T) (t0:getP (way 0) t=some v) (t1:getP (way 1) t=some (.int .i64 2)) (t5:getP (way 5) t=some (.int .u64 a)) (t6:getP (way 6) t=some (.int .i64 i)) :
  cLoop Tryz.l102_0 (k+1) Tryz.l2 t h=cLoop Tryz.l102_0 k Tryz.l2 (setP (way 6) (.int .i64 ((i+1:Nat):Int)) (setP (way 5) (.int .u64 ((a * 256+c.toNat:Nat):Int)) (setP (way 9) (.bool true) t))) h:=by
 rw [loop_succ]
 generalize hL:(λ t h=>cLoop Tryz.l102_0 k Tryz.l2 t h)=L
 have hL':∀ t h,cLoop Tryz.l102_0 k Tryz.l2 t h=L t h:=λ t h=>by rw [← hL]
 rw [hL']
 have e1:ltI (i:Int) 2=true:=ltIt (by omega)
 have e6:intN (i:Int)=some i:=intN_nat i
 have e9:IntKind.i64.wrap ((i:Int)+1)=((i+1:Nat):Int):=by rw [wrapI64 (by omega) (by omega)];omega
 obtain ⟨p,a1,a2⟩:=view_one w hin
 rw [u8sAt hc] at a2
 have ec:=c.toNat_lt
 have e2:=shl_u64 ha
 have e3:IntKind.u64.wrap (c.toNat:Int)=(c.toNat:Int):=by rw [wrapU64];omega
 have e4:=or_u64 ha ec
 have q1:∀ n,asI .u64 (.int .u64 n)=some n:=λ _=>rfl
 have q2:∀ k n,Go.Sh.asInt (.int k n)=some n:=λ _ _=>rfl
 have q3:∀ (v:Int) (k:Int→Option SV),bO (some v) k=k v:=λ _ _=>rfl
 generalize c.toNat=cc at *
 generalize a * 256+cc=s at *
 generalize a * 256=s2 at *
 unfold Tryz.l102_0
 simp [↓ kq,kq,↓ ku,ku,↓ ko,ko,↓ kt,↓ kz,kb,kv,kt,kx,t0,t1,t5,t6,e1,e6,e9,a1,a2,e2,e3,e4,vSh,vAr,vToI,q1,q2,q3,wrapS_eq,gets_some,-bO_of,-bB_true,-bB_false,-H.next_push,-Int.natCast_add]
theorem Tryz.getu_loop {h:H} {n:Nat} {v:SV} {bs:List UInt8} {c d:UInt8} (w:View h 1 v n (u8s bs)) (hn:2≤n) (hc:bs[0]?=some c) (hd:bs[1]?=some d) (t:T) (t0:getP (way 0) t=some v) (t1:getP (way 1) t=some (.int .i64 2)) (t5:getP (way 5) t=some (.int .u64 0)) (t6:getP (way 6) t=some (.int .i64 0)) :
  Gets (cLoop Tryz.l102_0 3 Tryz.l2 t h) λ fl t' h'=>fl=.exit 0∧h'=h∧getP (way 5) t'=some (.int .u64 ((c.toNat * 256+d.toNat:Nat):Int))∧getP (way 1) t'=some (.int .i64 2):=by
 have hcc:=c.toNat_lt
 rw [Tryz.getu_step w (i:=0) (a:=0) (by omega) (by omega) hc (by omega) 2 t t0 t1 t5 t6]
 rw [Tryz.getu_step w (i:=1) (a:=0 * 256+c.toNat) (by omega) (by omega) hd (by omega) 1 _ (by simp [kq,kb,t0]) (by simp [kq,kb,t1]) (by simp [kq,kb]) (by simp [kq,kb])]
 rw [loop_succ]
 generalize (λ t h=>cLoop Tryz.l102_0 0 Tryz.l2 t h)=L
 have e1:ltI 2 2=false:=rfl
 unfold Tryz.l102_0
 simp [↓ kq,kq,↓ ku,ku,↓ ko,ko,↓ kt,↓ kz,kb,kv,kt,kx,t0,t1,e1,gets_some,-bO_of,-bB_true,-bB_false,-H.next_push,-Int.natCast_add]
theorem Tryz.getu102 {h:H} {n:Nat} {v:SV} {bs:List UInt8} {c d:UInt8} (w:View h 1 v n (u8s bs)) (hn:2≤n) (hc:bs[0]?=some c) (hd:bs[1]?=some d):Tryz.l2 102 [v,.int .i64 2] h=some (.int .i64 ((c.toNat * 256+d.toNat:Nat):Int),h):=by
 have main:∃ v' h',Tryz.l2 102 [v,.int .i64 2] h=some (v',h')∧(v'=.int .i64 ((c.toNat * 256+d.toNat:Nat):Int)∧h'=h):=by
  refine Go.Sh.enG Tryz.kTab_ok (X:=Tryz.X2) (kf:=Tryz.k102) rfl (by kernel_rfl) 3 rfl rfl ?_
  have hcc:=c.toNat_lt
  have hdd:=d.toNat_lt
  have e2:eqI 2 4=false:=rfl
  have e3:IntKind.i64.wrap ((c.toNat * 256+d.toNat:Nat):Int)=((c.toNat * 256+d.toNat:Nat):Int):=wrapI64 (by omega) (by omega)
  simp [↓ kq,kq,↓ ku,ku,↓ ko,ko,↓ kt,↓ kz,kb,kv,kt,kx,gets_some,-bO_of,-bB_true,-bB_false,-H.next_push,-Int.natCast_add]
  refine gets_next (gets_leave (Gets.mono (Tryz.getu_loop w hn hc hd _ (by simp [kq,kb]) (by simp [kq,kb]) (by simp [kq,kb]) (by simp [kq,kb])) λ fl t' h' ⟨b1,b2,b3,b4⟩=>?_))
  subst b1 b2
  simp only [if_true]
  generalize c.toNat * 256+d.toNat=s at *
  simp [↓ kq,kq,↓ ku,ku,↓ ko,ko,↓ kt,↓ kz,kb,kv,kt,kx,b3,b4,e2,e3,vToI,asInt_int,wrapS_eq,gets_some,kc,oneS,-bO_of,-bB_true,-bB_false,-H.next_push,-Int.natCast_add]
 obtain ⟨_,_,k1,rfl,rfl⟩:=main
 exact k1
end
end Go.Proofs
end
section
/- LadderForms: the document's reader: the next number. -/
namespace Go.Proofs
open Go.Sh
set_option maxRecDepth 100000
attribute [local instance] powHeld
noncomputable section
theorem view_from {h:H} {es n:Nat} {v:SV} {cs:List SV} (w:View h es v n cs) (l:Nat) (hl:l≤n):∃ v',kslice es v (some (.int .i64 l)) none none=some v'∧View h es v' (n - l) (cs.drop (l * es))∧(∀ q,isRow v' q→isRow v q):=by
 obtain ⟨v',k1,k2,k3⟩:=w.slice l n hl (Nat.le_refl _)
 have hcs:=w.1
 have e:(cs.drop (l * es)).take ((n - l) * es)=cs.drop (l * es):=List.take_of_length_le (by rw [List.length_drop,hcs,Nat.sub_mul];omega)
 rw [e] at k2
 refine ⟨v',?_,k2,k3⟩
 rw [← k1]
 obtain ⟨_,⟨rfl,rfl⟩ | ⟨id,off,cap,all,rfl,_⟩⟩:=w
 ·obtain rfl:l=0:=by omega
  rfl
 ·show (if es=es then sliceRow id off n es cap (some (.int .i64 l)) none none else none)=(if es=es then sliceRow id off n es cap (some (.int .i64 l)) (some (.int .i64 n)) none else none)
  unfold sliceRow
  simp [boundOf,intNat]
def RR (h:H) (p:Nat) (bs:List UInt8) (bad:Bool):Prop:=∃ b,h.get p=some (.cells [b,.bool bad] .fixed)∧View h 1 b bs.length (u8s bs)∧(∀ q,isRow b q→q < p)∧b.cells?=some [b]
def twoAt (bs:List UInt8):Nat:=match bs with
 | c::d::_=>c.toNat * 256+d.toNat
 | _=>0
theorem view_cells {h:H} {es n:Nat} {v:SV} {cs:List SV} (w:View h es v n cs):v.cells?=some [v]:=by
 obtain ⟨_,⟨rfl,_⟩ | ⟨id,off,cap,all,rfl,_⟩⟩:=w <;> rfl
theorem u8s_drop (bs:List UInt8) (k:Nat):(u8s bs).drop (k * 1)=u8s (bs.drop k):=by rw [Nat.mul_one];simp [u8s]
theorem Tryz.rtwo52 {h:H} {p:Nat} {bs:List UInt8} {bad:Bool} (R:RR h p bs bad) (hb:bs.length < 4611686018427387904) :
  ∃ v' h',Tryz.l2 52 [.ptr p 0] h=some (v',h')∧(v'=.int .i64 (if bad || decide (bs.length < 2) then 0 else (twoAt bs:Int))∧RR h' p (if bad || decide (bs.length < 2) then bs else bs.drop 2) (bad || decide (bs.length < 2)))∧Fr (·=p) (·=p) h h':=by
 refine Go.Sh.enG Tryz.kTab_ok (X:=Tryz.X2) (kf:=Tryz.k52) rfl (by kernel_rfl) 2 rfl rfl ?_
 obtain ⟨b,g,w,hr,hc⟩:=R
 have L:=row_box g
 have lb:=w.length
 have fp:=H.get_lt g
 have s1:storeV 1 h (.ptr p 1) (.bool true)=some (.tuple [],h.put p (.cells [b,.bool true] .fixed)):=storeV_one g (by simp) rfl
 have g1:(h.put p (.cells [b,.bool true] .fixed)).get p=some (.cells [b,.bool true] .fixed):=get_put_self g
 have f1:Fr (·=p) (·=p) h (h.put p (.cells [b,.bool true] .fixed)):=Fr.put fp
 have R1:RR (h.put p (.cells [b,.bool true] .fixed)) p bs true:=⟨b,g1,w.keep f1 λ q hq e=>by have:=hr q hq;have e:q=p:=e;omega,hr,hc⟩
 cases bad with
 | true=>
  simp [↓ kq,kq,↓ ku,ku,↓ ko,ko,↓ kt,↓ kz,kb,kv,kt,kx,L,s1,gets_some,kc,oneS,-bO_of,-bB_true,-bB_false,-H.next_push,-Int.natCast_add]
  exact ⟨R1,f1⟩
 | false=>
  by_cases h2:bs.length < 2
  ·have e1:ltI (bs.length:Int) 2=true:=ltIt (by omega)
   rw [decide_eq_true h2]
   simp [↓ kq,kq,↓ ku,ku,↓ ko,ko,↓ kt,↓ kz,kb,kv,kt,kx,L,lb,e1,s1,gets_some,kc,oneS,-bO_of,-bB_true,-bB_false,-H.next_push,-Int.natCast_add]
   exact ⟨R1,f1⟩
  ·have e1:ltI (bs.length:Int) 2=false:=ltIf (by omega)
   rw [decide_eq_false h2]
   match bs,h2 with
   | c::d::r,h2=>
   have e1':ltI ((r.length+1+1:Nat):Int) 2=false:=ltIf (by omega)
   have k1:=Tryz.getu102 w (by omega) rfl rfl
   obtain ⟨b',k2,w2,hr2⟩:=view_from w 2 (by omega)
   rw [u8s_drop] at w2
   have k2:kslice 1 b (some (.int .i64 2)) none none=some b':=k2
   have s2:storeV 1 h (.ptr p 0) b'=some (.tuple [],h.put p (.cells [b',.bool false] .fixed)):=storeV_one g (by simp) (view_cells w2)
   have g2:(h.put p (.cells [b',.bool false] .fixed)).get p=some (.cells [b',.bool false] .fixed):=get_put_self g
   have f2:Fr (·=p) (·=p) h (h.put p (.cells [b',.bool false] .fixed)):=Fr.put fp
   have R2:RR (h.put p (.cells [b',.bool false] .fixed)) p r false:=⟨b',g2,w2.keep f2 (λ q hq e=>by have:=hr q (hr2 q hq);have e:q=p:=e;omega),λ q hq=>hr q (hr2 q hq),view_cells w2⟩
   have ev:twoAt (c::d::r)=c.toNat * 256+d.toNat:=rfl
   rw [ev]
   generalize c.toNat * 256+d.toNat=s at *
   simp [↓ kq,kq,↓ ku,ku,↓ ko,ko,↓ kt,↓ kz,kb,kv,kt,kx,L,lb,e1,e1',k1,k2,s2,gets_some,kc,oneS,-bO_of,-bB_true,-bB_false,-H.next_push,-Int.natCast_add]
   exact ⟨R2,f2⟩
end
end Go.Proofs
end
section
/- LadderForms: the document's reader: the next text. -/
namespace Go.Proofs
open Go.Sh
set_option maxRecDepth 100000
attribute [local instance] powHeld
noncomputable section
def rd2 (bs:List UInt8) (bad:Bool):Nat × List UInt8 × Bool:=if bad || decide (bs.length < 2) then (0,bs,true) else (twoAt bs,bs.drop 2,false)
theorem Tryz.two52 {h:H} {p:Nat} {bs:List UInt8} {bad:Bool} (R:RR h p bs bad) (hb:bs.length < 4611686018427387904) :
  ∃ h',Tryz.l2 52 [.ptr p 0] h=some (.int .i64 ((rd2 bs bad).1:Int),h')∧RR h' p (rd2 bs bad).2.1 (rd2 bs bad).2.2∧Fr (·=p) (·=p) h h':=by
 obtain ⟨v',h',k1,⟨rfl,k3⟩,k4⟩:=Tryz.rtwo52 R hb
 refine ⟨h',?_,?_,k4⟩
 ·rw [k1]
  unfold rd2
  cases (bad || decide (bs.length < 2)) <;> rfl
 ·unfold rd2
  cases hc:(bad || decide (bs.length < 2)) with
  | true=>rw [hc] at k3;exact k3
  | false=>rw [hc] at k3;exact k3
def rdT (bs:List UInt8) (bad:Bool):List UInt8 × List UInt8 × Bool:=if (rd2 bs bad).2.2 || decide ((rd2 bs bad).2.1.length < (rd2 bs bad).1) then ([],(rd2 bs bad).2.1,true) else ((rd2 bs bad).2.1.take (rd2 bs bad).1,(rd2 bs bad).2.1.drop (rd2 bs bad).1,false)
theorem rd2_len (bs:List UInt8) (bad:Bool):(rd2 bs bad).2.1.length≤bs.length:=by
 unfold rd2;split
 ·exact Nat.le_refl _
 ·rw [List.length_drop];omega
theorem u8s_take (bs:List UInt8) (k:Nat):(u8s bs).take (k * 1)=u8s (bs.take k):=by rw [Nat.mul_one];simp [u8s]
def RtPost2 (p:Nat) (h:H) (r:List UInt8 × List UInt8 × Bool) (v':SV) (h':H):Prop:=v'=.str r.1∧RR h' p r.2.1 r.2.2∧Fr (·=p) (·=p) h h'
theorem Tryz.text50 {h:H} {p:Nat} {bs:List UInt8} {bad:Bool} (R:RR h p bs bad) (hb:bs.length < 4611686018427387904) :
  ∃ v' h',Tryz.l2 50 [.ptr p 0] h=some (v',h')∧RtPost2 p h (rdT bs bad) v' h':=by
 refine Go.Sh.enG Tryz.kTab_ok (X:=Tryz.X2) (kf:=Tryz.k50) rfl (by kernel_rfl) 2 rfl rfl ?_
 obtain ⟨h1,k1,R1,f1⟩:=Tryz.two52 R hb
 have hlen:=rd2_len bs bad
 unfold rdT
 generalize rd2 bs bad=q at *
 obtain ⟨n,b1,bad1⟩:=q
 simp only at R1 k1 hlen ⊢
 obtain ⟨b,g,w,hr,hc⟩:=R1
 have L:=row_box g
 have lb:=w.length
 have fp:=H.get_lt g
 have s1:storeV 1 h1 (.ptr p 1) (.bool true)=some (.tuple [],h1.put p (.cells [b,.bool true] .fixed)):=storeV_one g (by simp) rfl
 have g1:(h1.put p (.cells [b,.bool true] .fixed)).get p=some (.cells [b,.bool true] .fixed):=get_put_self g
 have f2:Fr (·=p) (·=p) h1 (h1.put p (.cells [b,.bool true] .fixed)):=Fr.put fp
 have R2:RR (h1.put p (.cells [b,.bool true] .fixed)) p b1 true:=⟨b,g1,w.keep f2 λ q hq e=>by have:=hr q hq;have e:q=p:=e;omega,hr,hc⟩
 cases bad1 with
 | true=>
  simp [↓ kq,kq,↓ ku,ku,↓ ko,ko,↓ kt,↓ kz,kb,kv,kt,kx,k1,L,s1,gets_some,kc,oneS,-bO_of,-bB_true,-bB_false,-H.next_push,-Int.natCast_add]
  exact ⟨rfl,R2,f1.trans f2⟩
 | false=>
  by_cases h2:b1.length < n
  ·have e1:ltI (b1.length:Int) (n:Int)=true:=ltIt (by omega)
   rw [decide_eq_true h2]
   simp [↓ kq,kq,↓ ku,ku,↓ ko,ko,↓ kt,↓ kz,kb,kv,kt,kx,k1,L,lb,e1,s1,gets_some,kc,oneS,-bO_of,-bB_true,-bB_false,-H.next_push,-Int.natCast_add]
   exact ⟨rfl,R2,f1.trans f2⟩
  ·have e1:ltI (b1.length:Int) (n:Int)=false:=ltIf (by omega)
   rw [decide_eq_false h2]
   obtain ⟨b2,k2,w2,hr2⟩:=w.upto n (by omega)
   obtain ⟨b3,k3,w3,hr3⟩:=view_from w n (by omega)
   rw [u8s_take] at w2
   rw [u8s_drop] at w3
   have x2:=w2.text
   have s2:storeV 1 h1 (.ptr p 0) b3=some (.tuple [],h1.put p (.cells [b3,.bool false] .fixed)):=storeV_one g (by simp) (view_cells w3)
   have g3:(h1.put p (.cells [b3,.bool false] .fixed)).get p=some (.cells [b3,.bool false] .fixed):=get_put_self g
   have f3:Fr (·=p) (·=p) h1 (h1.put p (.cells [b3,.bool false] .fixed)):=Fr.put fp
   have w3':View (h1.put p (.cells [b3,.bool false] .fixed)) 1 b3 (b1.drop n).length (u8s (b1.drop n)):=by rw [List.length_drop];exact w3.keep f3 (λ q hq e=>by have:=hr q (hr3 q hq);have e:q=p:=e;omega)
   have R3:RR (h1.put p (.cells [b3,.bool false] .fixed)) p (b1.drop n) false:=⟨b3,g3,w3',λ q hq=>hr q (hr3 q hq),view_cells w3⟩
   simp [↓ kq,kq,↓ ku,ku,↓ ko,ko,↓ kt,↓ kz,kb,kv,kt,kx,k1,L,lb,e1,k2,k3,x2,s2,gets_some,kc,oneS,-bO_of,-bB_true,-bB_false,-H.next_push,-Int.natCast_add]
   exact ⟨rfl,R3,f1.trans f3⟩
end
end Go.Proofs
end
section
/- LadderForms: the document's reader: the next texts. -/
namespace Go.Proofs
open Go.Sh
set_option maxRecDepth 100000
attribute [local instance] powHeld
noncomputable section
def rdTs:Nat→List UInt8→Bool→List (List UInt8) × List UInt8 × Bool
 | 0,bs,bad=>([],bs,bad)
 | k+1,bs,bad=>bB bad ([],bs,bad) ((rdT bs bad).1::(rdTs k (rdT bs bad).2.1 (rdT bs bad).2.2).1,(rdTs k (rdT bs bad).2.1 (rdT bs bad).2.2).2)
theorem rdTs_bad (k:Nat) (bs:List UInt8):rdTs k bs true=([],bs,true):=by cases k <;> rfl
theorem RR.keep {h h':H} {p:Nat} {bs:List UInt8} {bad:Bool} {S W:Nat→Prop} (R:RR h p bs bad) (f:Fr S W h h') (hn:∀ q,q≤p→¬S q):RR h' p bs bad:=by
 obtain ⟨b,g,w,hr,hc⟩:=R
 exact ⟨b,f.get g (hn p (Nat.le_refl _)),w.keep f λ q hq=>hn q (Nat.le_of_lt (hr q hq)),hr,hc⟩
theorem rdT_len (bs:List UInt8) (bad:Bool):(rdT bs bad).2.1.length≤bs.length:=by
 have:=rd2_len bs bad
 unfold rdT;split
 ·exact this
 ·rw [List.length_drop];omega
def TsPost (p lo:Nat) (h:H) (cs:List SV) (r:List (List UInt8) × List UInt8 × Bool) (fl:Flow) (t':T) (h':H):Prop:=
 fl=.exit 0∧∃ v' n',getP (way 3) t'=some v'∧Gro h' lo 1 v' n' (cs++strs r.1)∧RR h' p r.2.1 r.2.2∧Fr (λ q=>q=p∨lo≤q) (·=p) h h'
theorem strs_cons (s:List UInt8) (l:List (List UInt8)):strs (s::l)=[SV.str s]++strs l:=rfl
theorem Tryz.rtexts51_loop {p lo N:Nat} (hp:p < lo) (hN:N≤1073741824):∀ (j i k n:Nat) (bs:List UInt8) (bad:Bool) (v:SV) (cs:List SV) (t:T) (h:H),i+j=N→j < k→RR h p bs bad→bs.length < 4611686018427387904→Gro h lo 1 v n cs→n+j≤2147483648→lo≤h.next→getP (way 0) t=some (.ptr p 0)→getP (way 3) t=some v→getP (way 4) t=some (.int .i64 N)→getP (way 5) t=some (.int .i64 i) →
  Gets (cLoop Tryz.l51_0 k Tryz.l2 t h) (TsPost p lo h cs (rdTs j bs bad)):=by
 intro j
 induction j with
 | zero=>
  intro i k n bs bad v cs t h hi hk R hb g hn hlo t0 t3 t4 t5
  obtain ⟨k,rfl⟩:∃ m,k=m+1:=⟨k - 1,by omega⟩
  rw [loop_succ]
  generalize (λ t h=>cLoop Tryz.l51_0 k Tryz.l2 t h)=L
  unfold Tryz.l51_0
  have e1:ltI (i:Int) (N:Int)=false:=ltIf (by omega)
  simp [↓ kq,kq,↓ ku,ku,↓ ko,ko,↓ kt,↓ kz,kb,kv,kt,kx,t0,t3,t4,t5,e1,gets_some,-bO_of,-bB_true,-bB_false,-H.next_push,-Int.natCast_add]
  exact ⟨rfl,v,n,by simp [kq,kb,t3],by simpa [rdTs,strs] using g,R,.refl⟩
 | succ j ih=>
  intro i k n bs bad v cs t h hi hk R hb g hn hlo t0 t3 t4 t5
  obtain ⟨k,rfl⟩:∃ m,k=m+1:=⟨k - 1,by omega⟩
  rw [loop_succ]
  generalize hL:(λ t h=>cLoop Tryz.l51_0 k Tryz.l2 t h)=L
  have e1:ltI (i:Int) (N:Int)=true:=ltIt (by omega)
  have e9:IntKind.i64.wrap ((i:Int)+1)=((i+1:Nat):Int):=by rw [wrapI64 (by omega) (by omega)];omega
  have L0:∀ o,loadV none h.get (.ptr p o)=_:=row_box R.choose_spec.1
  cases bad with
  | true=>
   rw [rdTs_bad]
   unfold Tryz.l51_0
   simp [↓ kq,kq,↓ ku,ku,↓ ko,ko,↓ kt,↓ kz,kb,kv,kt,kx,t0,t3,t4,t5,e1,L0,gets_some,-bO_of,-bB_true,-bB_false,-H.next_push,-Int.natCast_add]
   exact ⟨rfl,v,n,by simp [kq,kb,t3],by simpa [strs] using g,R,.refl⟩
  | false=>
   obtain ⟨_,h1,k1,rfl,R1,f1⟩:=Tryz.text50 R hb
   have hl1:=rdT_len bs false
   have e:rdTs (j+1) bs false=((rdT bs false).1::(rdTs j (rdT bs false).2.1 (rdT bs false).2.2).1,(rdTs j (rdT bs false).2.1 (rdT bs false).2.2).2):=rfl
   rw [e]
   generalize rdT bs false=q at *
   obtain ⟨s,b1,bad1⟩:=q
   have k1:Tryz.l2 50 [.ptr p 0] h=some (.str s,h1):=k1
   have R1:RR h1 p b1 bad1:=R1
   have e4:kcat [1] [.str s]=some [.str s]:=rfl
   generalize hh2:h1.push (.cells [.str s] .fixed)=h2
   have f2:=calm_push hh2
   have w2:=view_row (n:=1) (es:=1) (rowCells_fixed (get_pushed hh2)) rfl
   have g1:Gro h1 lo 1 v n cs:=g.keep f1 λ q hq e=>by have e:q=p:=e;omega
   have g2:Gro h2 lo 1 v n cs:=g1.keep f2 λ _ _ k=>k
   have hlo2:lo≤h2.next:=by have:=f1.next;have:=f2.next;omega
   obtain ⟨v3,h3,q1,q2,q3⟩:=g2.append (bytes:=16) 1 [.str s] rfl (by omega) hlo2
   have q0:=append_V w2 q1
   have R3:RR h3 p b1 bad1:=(R1.keep f2 λ _ _ k=>k).keep q3 λ q hq hle=>by have:lo≤q:=hle;omega
   have F:Fr (λ q=>q=p∨lo≤q) (·=p) h h3:=((f1.mono (λ q _ e=>.inl e) λ q e=>.inl e).trans (f2.mono (λ _ _ k=>k.elim) λ _ k=>k.elim)).trans (q3.mono (λ q _ e=>.inr e) λ _ k=>k.elim)
   unfold Tryz.l51_0
   simp [↓ kq,kq,↓ ku,ku,↓ ko,ko,↓ kt,↓ kz,kb,kv,kt,kx,t0,t3,t4,t5,e1,e9,L0,k1,e4,hh2,q0,gets_some,-bO_of,-bB_true,-bB_false,-H.next_push,-Int.natCast_add]
   rw [← hL]
   refine Gets.mono (ih (i+1) k (n+1) b1 bad1 v3 _ _ h3 (by omega) (by omega) R3 (by simp only at hl1;omega) q2 (by omega) (by have:=q3.next;omega) ?_ ?_ ?_ ?_) ?_
   rotate_right
   ·rintro fl t' h' ⟨x1,v',n',x2,x3,x4,x5⟩
    refine ⟨x1,v',n',x2,?_,x4,F.trans x5⟩
    rw [strs_cons,← List.append_assoc]
    exact x3
   all_goals simp [kq,kb,t0,t3,t4,t5]
theorem twoAt_lt (bs:List UInt8):twoAt bs < 65536:=by
 unfold twoAt
 split
 ·rename_i c d r
  have:=c.toNat_lt
  have:=d.toNat_lt
  omega
 ·omega
theorem rd2_lt (bs:List UInt8) (bad:Bool):(rd2 bs bad).1 < 65536:=by
 unfold rd2;split
 ·exact Nat.zero_lt_succ _
 ·exact twoAt_lt bs
def rdTexts (bs:List UInt8) (bad:Bool):List (List UInt8) × List UInt8 × Bool:=rdTs (rd2 bs bad).1 (rd2 bs bad).2.1 (rd2 bs bad).2.2
def TxEnd (p:Nat) (h:H) (r:List (List UInt8) × List UInt8 × Bool) (v':SV) (h':H):Prop:=∃ n',Gro h' h.next 1 v' n' (strs r.1)∧RR h' p r.2.1 r.2.2∧Fr (λ q=>q=p∨h.next≤q) (·=p) h h'
theorem Tryz.texts51 {h:H} {p:Nat} {bs:List UInt8} {bad:Bool} (R:RR h p bs bad) (hb:bs.length < 4611686018427387904):∃ v' h',Tryz.l2 51 [.ptr p 0] h=some (v',h')∧TxEnd p h (rdTexts bs bad) v' h':=by
 obtain ⟨h1,k1,R1,f1⟩:=Tryz.two52 R hb
 have hlt:=rd2_lt bs bad
 have hlen:=rd2_len bs bad
 have hp:p < h.next:=H.get_lt R.choose_spec.1
 refine Go.Sh.enG Tryz.kTab_ok (X:=Tryz.X2) (kf:=Tryz.k51) rfl (by kernel_rfl) ((rd2 bs bad).1+2) rfl rfl ?_
 unfold rdTexts
 generalize rd2 bs bad=q at *
 obtain ⟨n,b1,bad1⟩:=q
 simp only at R1 k1 hlen hlt ⊢
 simp [↓ kq,kq,↓ ku,ku,↓ ko,ko,↓ kt,↓ kz,kb,kv,kt,kx,k1,gets_some,-bO_of,-bB_true,-bB_false,-H.next_push,-Int.natCast_add]
 refine gets_next (gets_leave (Gets.mono (Tryz.rtexts51_loop (lo:=h.next) (N:=n) hp (by omega) n 0 (n+2) 0 b1 bad1 .nilslice [] _ h1 (by omega) (by omega) R1 (by omega) .nil (by omega) f1.next ?_ ?_ ?_ ?_) ?_))
 rotate_right
 ·rintro fl t' h' ⟨x1,v',n',x2,x3,x4,x5⟩
  subst x1
  simp only [if_true]
  simp [↓ kq,kq,↓ ku,ku,↓ ko,ko,↓ kt,↓ kz,kb,kv,kt,kx,x2,gets_some,kc,oneS,-bO_of,-bB_true,-bB_false,-H.next_push,-Int.natCast_add]
  exact ⟨n',x3,x4,(f1.mono (λ q _ e=>.inl e) λ q e=>.inl e).trans x5⟩
 all_goals simp [kq,kb]
end
end Go.Proofs
end
section
/- LadderForms: the law of reading, with no program in sight: what is written is read back; what the document reads was written so. -/
namespace Go.Proofs
open Go.Sh
set_option maxRecDepth 100000
noncomputable section
theorem u8s_inj:∀ {a b:List UInt8},u8s a=u8s b→a=b
 | [],[],_=>rfl
 | [],_::_,h=>by cases h
 | _::_,[],h=>by cases h
 | x::a,y::b,h=>by
  have h':SV.int .u8 (x.toNat:Int)::u8s a=SV.int .u8 (y.toNat:Int)::u8s b:=h
  injection h' with h1 h2
  injection h1 with _ h3
  have e:x=y:=UInt8.toNat_inj.mp (Int.ofNat.inj h3)
  rw [e,u8s_inj h2]
theorem u8s_app (a b:List UInt8):u8s (a++b)=u8s a++u8s b:=by simp [u8s]
theorem be2_u8 (n:Nat) (hn:n < 65536):be 2 (n:Int)=u8s [UInt8.ofNat (n / 256),UInt8.ofNat (n % 256)]:=by
 show [SV.int .u8 (wrapS .u8 ((n:Int).fdiv (2 ^ (8 * 1)))),SV.int .u8 (wrapS .u8 ((n:Int).fdiv (2 ^ (8 * 0))))]=[SV.int .u8 ((UInt8.ofNat (n / 256)).toNat:Int),SV.int .u8 ((UInt8.ofNat (n % 256)).toNat:Int)]
 have e1:(UInt8.ofNat (n / 256)).toNat=n / 256:=by
  rw [UInt8.toNat_ofNat']
  omega
 have e2:(UInt8.ofNat (n % 256)).toNat=n % 256:=by
  rw [UInt8.toNat_ofNat']
  omega
 rw [e1,e2,wrapS_eq,wrapS_eq,wrapU8,wrapU8]
 have q1:((n:Int).fdiv (2 ^ (8 * 1))) % 256=((n / 256:Nat):Int):=by
  rw [Int.fdiv_eq_ediv_of_nonneg _ (by decide)]
  have:((2:Int) ^ (8 * 1))=256:=by decide
  rw [this]
  omega
 have q2:((n:Int).fdiv (2 ^ (8 * 0))) % 256=((n % 256:Nat):Int):=by
  rw [Int.fdiv_eq_ediv_of_nonneg _ (by decide)]
  have:((2:Int) ^ (8 * 0))=1:=by decide
  rw [this]
  omega
 rw [q1,q2]
theorem u8s_split:∀ {s:List UInt8} {bs:List UInt8} {rest:List SV},u8s bs=u8s s++rest→∃ b',bs=s++b'∧u8s b'=rest
 | [],bs,_,h=>⟨bs,rfl,h⟩
 | x::s,[],_,h=>by cases h
 | x::s,y::bs,rest,h=>by
  have h':SV.int .u8 (y.toNat:Int)::u8s bs=SV.int .u8 (x.toNat:Int)::(u8s s++rest):=h
  injection h' with h1 h2
  injection h1 with _ h3
  have e:y=x:=UInt8.toNat_inj.mp (Int.ofNat.inj h3)
  obtain ⟨b',rfl,h4⟩:=u8s_split h2
  exact ⟨b',by rw [e];rfl,h4⟩
abbrev Pz (α:Type):=List UInt8→Bool→α × List UInt8 × Bool
def Back {α:Type} (f:Pz α) (ok:α→Bool) (b:α→List SV):Prop:=∀ x bs rest,ok x=true→u8s bs=b x++rest→∃ bs',f bs false=(x,bs',false)∧u8s bs'=rest
structure Said {α:Type} (f:Pz α) (ok:α→Bool) (b:α→List SV):Prop where
 bad:∀ bs,(f bs true).2.2=true
 was:∀ bs,(f bs false).2.2=false→ok (f bs false).1=true∧u8s bs=b (f bs false).1++u8s (f bs false).2.1
theorem two16_nat {n:Nat} (h:two16 (n:Int)=true):n < 65536:=by
 unfold two16 at h
 by_cases c:n < 65536
 ·exact c
 ·rw [ltIf (a:=(n:Int)) (b:=65536) (by omega)] at h
  simp at h
theorem nat_two16 {n:Nat} (h:n < 65536):two16 (n:Int)=true:=by
 unfold two16
 rw [ltIf (by omega),ltIt (by omega)];rfl
theorem rd2_back {n:Nat} {bs:List UInt8} {rest:List SV} (hn:n < 65536) (h:u8s bs=be 2 (n:Int)++rest):∃ bs',rd2 bs false=(n,bs',false)∧u8s bs'=rest:=by
 rw [be2_u8 n hn] at h
 obtain ⟨b',rfl,h2⟩:=u8s_split h
 refine ⟨b',?_,h2⟩
 have e1:(UInt8.ofNat (n / 256)).toNat=n / 256:=by rw [UInt8.toNat_ofNat'];omega
 have e2:(UInt8.ofNat (n % 256)).toNat=n % 256:=by rw [UInt8.toNat_ofNat'];omega
 have e3:twoAt (UInt8.ofNat (n / 256)::UInt8.ofNat (n % 256)::b')=n:=by
  show (UInt8.ofNat (n / 256)).toNat * 256+(UInt8.ofNat (n % 256)).toNat=n
  rw [e1,e2];omega
 show rd2 (UInt8.ofNat (n / 256)::UInt8.ofNat (n % 256)::b') false=_
 unfold rd2
 rw [e3,decide_eq_false (by simp)]
 rfl
theorem rd2_bad (bs:List UInt8):rd2 bs true=(0,bs,true):=rfl
theorem rd2_said {bs:List UInt8} (h:(rd2 bs false).2.2=false):u8s bs=be 2 ((rd2 bs false).1:Int)++u8s (rd2 bs false).2.1:=by
 unfold rd2 at h ⊢
 by_cases h2:bs.length < 2
 ·rw [decide_eq_true h2] at h;cases h
 ·rw [decide_eq_false h2]
  match bs,h2 with
  | c::d::r,h2=>
   have hc:=c.toNat_lt
   have hd:=d.toNat_lt
   show u8s (c::d::r)=be 2 ((c.toNat * 256+d.toNat:Nat):Int)++u8s r
   rw [be2_u8 _ (by omega)]
   have e1:(c.toNat * 256+d.toNat) / 256=c.toNat:=by omega
   have e2:(c.toNat * 256+d.toNat) % 256=d.toNat:=by omega
   rw [e1,e2,UInt8.ofNat_toNat,UInt8.ofNat_toNat];rfl
def rdN:Pz Int:=λ bs bad=>((rd2 bs bad).1,(rd2 bs bad).2)
theorem back2:Back rdN two16 (be 2):=λ x bs rest hx h=>by
 have hx0:0≤x∧x < 65536:=by
  unfold two16 at hx
  by_cases a:x < 0
  ·rw [ltIt a] at hx;simp at hx
  ·by_cases c:x < 65536
   ·exact ⟨by omega,c⟩
   ·rw [ltIf (a:=x) (b:=65536) (by omega)] at hx;simp at hx
 obtain ⟨n,rfl⟩:∃ n:Nat,x=n:=⟨x.toNat,by omega⟩
 obtain ⟨bs',e,h2⟩:=rd2_back (by omega) h
 exact ⟨bs',by unfold rdN;rw [e],h2⟩
theorem said2:Said rdN two16 (be 2):=⟨λ bs=>rfl,λ bs h=>⟨nat_two16 (rd2_lt _ _),rd2_said h⟩⟩
theorem backT:Back rdT (λ s=>two16 (s.length:Int)) bText:=λ s bs rest hs h=>by
 have hs:=two16_nat hs
 have h:u8s bs=be 2 (s.length:Int)++(u8s s++rest):=by rw [h];unfold bText;rw [List.append_assoc]
 obtain ⟨b1,e,h1⟩:=rd2_back hs h
 obtain ⟨b2,rfl,h2⟩:=u8s_split h1
 refine ⟨b2,?_,h2⟩
 unfold rdT
 rw [e]
 simp
theorem rdT_bad (bs:List UInt8):rdT bs true=([],bs,true):=rfl
theorem saidT:Said rdT (λ s=>two16 (s.length:Int)) bText:=by
 refine ⟨λ bs=>rfl,λ bs h=>?_⟩
 have hlt:=rd2_lt bs false
 have hs:=@rd2_said bs
 unfold rdT at h ⊢
 generalize rd2 bs false=q at *
 obtain ⟨n,b1,bad1⟩:=q
 simp only at h hs hlt ⊢
 cases hc:(bad1 || decide (b1.length < n)) with
 | true=>rw [hc] at h;cases h
 | false=>
  rw [hc] at h
  simp at hc
  obtain ⟨rfl,hc2⟩:=hc
  have hs:=hs rfl
  have hl:(b1.take n).length=n:=by rw [List.length_take];omega
  simp only [Bool.false_eq_true,if_false]
  rw [hl]
  refine ⟨nat_two16 hlt,?_⟩
  rw [hs]
  unfold bText
  rw [hl,List.append_assoc,← u8s_app,List.take_append_drop]
def rdL {α:Type} (g:Bool) (f:Pz α):Nat→Pz (List α)
 | 0,bs,bad=>([],bs,bad)
 | k+1,bs,bad=>bB (bad || (g&&bs.isEmpty)) ([],bs,bad) ((f bs bad).1::(rdL g f k (f bs bad).2.1 (f bs bad).2.2).1,(rdL g f k (f bs bad).2.1 (f bs bad).2.2).2)
theorem rdL_bad {α:Type} (g:Bool) (f:Pz α) (k:Nat) (bs:List UInt8):rdL g f k bs true=([],bs,true):=by cases k <;> rfl
theorem backL {α:Type} {f:Pz α} {ok:α→Bool} {b:α→List SV} (g:Bool) (hf:Back f ok b) (hb:∀ x,b x≠[]):∀ (l:List α) bs rest,l.all ok=true→u8s bs=l.flatMap b++rest→∃ bs',rdL g f l.length bs false=(l,bs',false)∧u8s bs'=rest
 | [],bs,rest,_,h=>⟨bs,rfl,h⟩
 | x::l,bs,rest,ho,h=>by
  have ho:(ok x&&l.all ok)=true:=ho
  rw [Bool.and_eq_true] at ho
  rw [List.flatMap_cons,List.append_assoc] at h
  have hne:bs.isEmpty=false:=by
   cases bs with
   | nil=>
    have h:([]:List SV)=b x++(l.flatMap b++rest):=h
    have:=congrArg List.length h
    rw [List.length_append] at this
    have q:(b x).length≠0:=λ e=>hb x (List.eq_nil_of_length_eq_zero e)
    simp only [List.length_nil] at this
    omega
   | cons=>rfl
  obtain ⟨b1,e1,h1⟩:=hf x bs _ ho.1 h
  obtain ⟨b2,e2,h2⟩:=backL g hf hb l b1 rest ho.2 h1
  refine ⟨b2,?_,h2⟩
  show bB (false || (g&&bs.isEmpty)) ([],bs,false) ((f bs false).1::(rdL g f l.length (f bs false).2.1 (f bs false).2.2).1,(rdL g f l.length (f bs false).2.1 (f bs false).2.2).2)=_
  rw [hne,e1,e2,Bool.and_false]
  rfl
theorem saidL {α:Type} {f:Pz α} {ok:α→Bool} {b:α→List SV} (hf:Said f ok b):∀ (k:Nat) bs,(rdL false f k bs false).2.2=false→(rdL false f k bs false).1.length=k∧(rdL false f k bs false).1.all ok=true∧u8s bs=(rdL false f k bs false).1.flatMap b++u8s (rdL false f k bs false).2.1
 | 0,bs,_=>⟨rfl,rfl,rfl⟩
 | k+1,bs,h=>by
  have e:rdL false f (k+1) bs false=((f bs false).1::(rdL false f k (f bs false).2.1 (f bs false).2.2).1,(rdL false f k (f bs false).2.1 (f bs false).2.2).2):=rfl
  rw [e] at h ⊢
  have hw:=hf.was bs
  generalize f bs false=q at *
  obtain ⟨x,b1,bad1⟩:=q
  simp only at h hw ⊢
  cases bad1 with
  | true=>rw [rdL_bad] at h;cases h
  | false=>
   obtain ⟨a1,a2⟩:=hw rfl
   obtain ⟨c1,c2,c3⟩:=saidL hf k b1 h
   refine ⟨by rw [List.length_cons,c1],?_,?_⟩
   ·rw [List.all_cons,a1,c2];rfl
   ·rw [a2,c3,List.flatMap_cons,List.append_assoc]
def rdC {α:Type} (g:Bool) (f:Pz α):Pz (List α):=λ bs bad=>rdL g f (rd2 bs bad).1 (rd2 bs bad).2.1 (rd2 bs bad).2.2
def okC {α:Type} (ok:α→Bool) (l:List α):Bool:=two16 l.length&&l.all ok
def bC {α:Type} (b:α→List SV) (l:List α):List SV:=be 2 l.length++l.flatMap b
theorem backC {α:Type} {f:Pz α} {ok:α→Bool} {b:α→List SV} (g:Bool) (hf:Back f ok b) (hb:∀ x,b x≠[]):Back (rdC g f) (okC ok) (bC b):=λ l bs rest ho h=>by
 unfold okC at ho
 rw [Bool.and_eq_true] at ho
 unfold bC at h
 rw [List.append_assoc] at h
 obtain ⟨b1,e1,h1⟩:=rd2_back (two16_nat ho.1) h
 obtain ⟨b2,e2,h2⟩:=backL g hf hb l b1 rest ho.2 h1
 refine ⟨b2,?_,h2⟩
 unfold rdC
 rw [e1];exact e2
theorem saidC {α:Type} {f:Pz α} {ok:α→Bool} {b:α→List SV} (hf:Said f ok b):Said (rdC false f) (okC ok) (bC b):=by
 refine ⟨λ bs=>?_,λ bs h=>?_⟩
 ·show (rdL false f 0 bs true).2.2=true
  rfl
 ·have hlt:=rd2_lt bs false
  have hs:=@rd2_said bs
  unfold rdC at h ⊢
  generalize rd2 bs false=q at *
  obtain ⟨n,b1,bad1⟩:=q
  simp only at h hs hlt ⊢
  cases bad1 with
  | true=>rw [rdL_bad] at h;cases h
  | false=>
   obtain ⟨c1,c2,c3⟩:=saidL hf n b1 h
   unfold okC bC
   rw [c1,c2,hs rfl,c3,List.append_assoc]
   exact ⟨by rw [nat_two16 hlt];rfl,rfl⟩
def rdP {α β:Type} (f:Pz α) (g:Pz β):Pz (α × β):=λ bs bad=>(((f bs bad).1,(g (f bs bad).2.1 (f bs bad).2.2).1),(g (f bs bad).2.1 (f bs bad).2.2).2)
theorem backP {α β:Type} {f:Pz α} {g:Pz β} {ok:α→Bool} {ok':β→Bool} {b:α→List SV} {b':β→List SV} (hf:Back f ok b) (hg:Back g ok' b'):Back (rdP f g) (λ x=>ok x.1&&ok' x.2) (λ x=>b x.1++b' x.2):=λ x bs rest ho h=>by
 rw [Bool.and_eq_true] at ho
 rw [List.append_assoc] at h
 obtain ⟨b1,e1,h1⟩:=hf x.1 bs _ ho.1 h
 obtain ⟨b2,e2,h2⟩:=hg x.2 b1 _ ho.2 h1
 refine ⟨b2,?_,h2⟩
 unfold rdP
 rw [e1,e2]
theorem saidP {α β:Type} {f:Pz α} {g:Pz β} {ok:α→Bool} {ok':β→Bool} {b:α→List SV} {b':β→List SV} (hf:Said f ok b) (hg:Said g ok' b'):Said (rdP f g) (λ x=>ok x.1&&ok' x.2) (λ x=>b x.1++b' x.2):=by
 refine ⟨λ bs=>?_,λ bs h=>?_⟩
 ·unfold rdP
  have:=hf.bad bs
  generalize f bs true=q at *
  obtain ⟨x,b1,bad1⟩:=q
  obtain rfl:bad1=true:=this
  exact hg.bad b1
 ·have hw:=hf.was bs
  unfold rdP at h ⊢
  generalize f bs false=q at *
  obtain ⟨x,b1,bad1⟩:=q
  simp only at h hw ⊢
  cases bad1 with
  | true=>rw [hg.bad b1] at h;cases h
  | false=>
   obtain ⟨a1,a2⟩:=hw rfl
   obtain ⟨c1,c2⟩:=hg.was b1 h
   rw [a1,c1,a2,c2,List.append_assoc]
   exact ⟨rfl,rfl⟩
def rdM {α β:Type} (e:α→β) (f:Pz α):Pz β:=λ bs bad=>(e (f bs bad).1,(f bs bad).2)
theorem backM {α β:Type} {f:Pz α} {ok:α→Bool} {b:α→List SV} (e:α→β) (d:β→α) (hd:∀ y,e (d y)=y) (hf:Back f ok b):Back (rdM e f) (λ y=>ok (d y)) (λ y=>b (d y)):=λ y bs rest ho h=>by
 obtain ⟨b1,e1,h1⟩:=hf (d y) bs rest ho h
 refine ⟨b1,?_,h1⟩
 unfold rdM
 rw [e1,hd]
theorem saidM {α β:Type} {f:Pz α} {ok:α→Bool} {b:α→List SV} (e:α→β) (d:β→α) (hd:∀ x,d (e x)=x) (hf:Said f ok b):Said (rdM e f) (λ y=>ok (d y)) (λ y=>b (d y)):=
 ⟨λ bs=>hf.bad bs,λ bs h=>by
  have:=hf.was bs h
  unfold rdM
  simp only [hd]
  exact this⟩
end
end Go.Proofs
end
section
/- LadderForms: the law of reading, for whole reports. -/
namespace Go.Proofs
open Go.Sh
set_option maxRecDepth 100000
noncomputable section
def toRow (x:List UInt8 × List Int):Row:=⟨x.1,x.2⟩
def unRow (x:Row):List UInt8 × List Int:=(x.var,x.set)
def toEdg (x:List UInt8 × Int × List UInt8):Edg:=⟨x.1,x.2.1,x.2.2⟩
def unEdg (x:Edg):List UInt8 × Int × List UInt8:=(x.src,x.pc,x.dst)
abbrev RDt:Type:=List UInt8 × List (List UInt8) × List Row × List Edg × List (List UInt8) × List (List UInt8)
def toRD (x:RDt):RD:=⟨x.1,x.2.1,x.2.2.1,x.2.2.2.1,x.2.2.2.2.1,x.2.2.2.2.2⟩
def unRD (x:RD):RDt:=(x.entry,x.sites,x.sets,x.edges,x.reach,x.inits)
def rdRow (g:Bool):Pz Row:=rdM toRow (rdP rdT (rdC g rdN))
def rdEdg:Pz Edg:=rdM toEdg (rdP rdT (rdP rdN rdT))
def rdRD (g:Bool):Pz RD:=rdM toRD (rdP rdT (rdP (rdC g rdT) (rdP (rdC g (rdRow g)) (rdP (rdC g rdEdg) (rdP (rdC g rdT) (rdC g rdT))))))
theorem be_ne (n:Nat) (x:Int):be (n+1) x≠[]:=λ e=>by have:=congrArg List.length e;rw [be_length] at this;simp at this
theorem bText_ne (s:List UInt8):bText s≠[]:=λ e=>be_ne 1 _ (List.append_eq_nil_iff.mp e).1
theorem bRow_ne (x:Row):bRow x≠[]:=λ e=>bText_ne _ (List.append_eq_nil_iff.mp e).1
theorem bE_ne (x:Edg):bE x≠[]:=λ e=>bText_ne _ (List.append_eq_nil_iff.mp e).1
theorem backRow (g:Bool):Back (rdRow g) okRow bRow:=backM toRow unRow (λ _=>rfl) (backP backT (backC g back2 (be_ne 1)))
theorem saidRow:Said (rdRow false) okRow bRow:=saidM toRow unRow (λ _=>rfl) (saidP saidT (saidC said2))
theorem backEdg:Back rdEdg okE bE:=backM toEdg unEdg (λ _=>rfl) (backP backT (backP back2 backT))
theorem saidEdg:Said rdEdg okE bE:=saidM toEdg unEdg (λ _=>rfl) (saidP saidT (saidP said2 saidT))
def bR (r:RD):List SV:=bText r.entry++(bTexts r.sites++(be 2 r.sets.length++(bRs r.sets++(be 2 r.edges.length++(bEs r.edges++(bTexts r.reach++bTexts r.inits))))))
theorem bD_eq (r:RD):bD r=u8s magicB++bR r:=rfl
def okT' (x:RDt):Bool:=two16 x.1.length&&(okC (λ s=>two16 (s.length:Int)) x.2.1&&(okC okRow x.2.2.1&&(okC okE x.2.2.2.1&&(okC (λ s=>two16 (s.length:Int)) x.2.2.2.2.1&&okC (λ s=>two16 (s.length:Int)) x.2.2.2.2.2))))
def bT' (x:RDt):List SV:=bText x.1++(bC bText x.2.1++(bC bRow x.2.2.1++(bC bE x.2.2.2.1++(bC bText x.2.2.2.2.1++bC bText x.2.2.2.2.2))))
theorem okT'_eq (r:RD):okT' (unRD r)=okD r:=by
 unfold okT' okD okC okTexts okTs okRs okEs unRD
 simp only [Bool.and_assoc]
theorem bT'_eq (r:RD):bT' (unRD r)=bR r:=by
 unfold bT' bR bC bTexts bTs bRs bEs unRD
 simp only [List.append_assoc]
theorem backRD (g:Bool):Back (rdRD g) okD bR:=by
 have h:Back (rdRD g) (λ y=>okT' (unRD y)) (λ y=>bT' (unRD y)):=
  backM toRD unRD (λ _=>rfl) (backP backT (backP (backC g backT bText_ne) (backP (backC g (backRow g) bRow_ne) (backP (backC g backEdg bE_ne) (backP (backC g backT bText_ne) (backC g backT bText_ne))))))
 have e1:(λ y=>okT' (unRD y))=okD:=funext okT'_eq
 have e2:(λ y=>bT' (unRD y))=bR:=funext bT'_eq
 rw [e1,e2] at h
 exact h
theorem saidRD:Said (rdRD false) okD bR:=by
 have h:Said (rdRD false) (λ y=>okT' (unRD y)) (λ y=>bT' (unRD y)):=
  saidM toRD unRD (λ _=>rfl) (saidP saidT (saidP (saidC saidT) (saidP (saidC saidRow) (saidP (saidC saidEdg) (saidP (saidC saidT) (saidC saidT))))))
 have e1:(λ y=>okT' (unRD y))=okD:=funext okT'_eq
 have e2:(λ y=>bT' (unRD y))=bR:=funext bT'_eq
 rw [e1,e2] at h
 exact h
def docD (b:List UInt8):Option RD:=if b.take 4=magicB∧(rdRD false (b.drop 4) false).2.2=false∧(rdRD false (b.drop 4) false).2.1=[] then some (rdRD false (b.drop 4) false).1 else none
def proD (b:List UInt8):RD:=(rdRD true (b.drop 4) false).1
theorem docD_some {b:List UInt8} {r:RD} (h:docD b=some r):okD r=true∧u8s b=bD r∧proD b=r:=by
 unfold docD at h
 split at h
 ·rename_i hc
  obtain ⟨h1,h2,h3⟩:=hc
  cases h
  obtain ⟨a1,a2⟩:=saidRD.was _ h2
  rw [h3] at a2
  refine ⟨a1,?_,?_⟩
  ·rw [bD_eq,← h1]
   have a2:u8s (b.drop 4)=bR (rdRD false (b.drop 4) false).1:=by rw [a2];exact List.append_nil _
   rw [← a2,← u8s_app,List.take_append_drop]
  ·obtain ⟨_,e,_⟩:=backRD true _ _ _ a1 a2
   unfold proD
   rw [e]
 ·cases h
theorem encD_some {b:List UInt8} {r:RD} (hb:4≤b.length) (h:encD r=u8s b):docD b=some r:=by
 unfold encD at h
 cases ho:okD r with
 | false=>
  rw [ho] at h
  have:=congrArg List.length h
  rw [u8s_len] at this
  simp at this
  omega
 | true=>
  rw [ho] at h
  have h:bD r=u8s b:=h
  rw [bD_eq] at h
  obtain ⟨b',rfl,h2⟩:=u8s_split h.symm
  obtain ⟨b2,e,h3⟩:=backRD false r b' [] ho (by rw [h2];simp)
  have hb2:b2=[]:=by cases b2 with | nil=>rfl | cons=>cases h3
  subst hb2
  have ed:(magicB++b').drop 4=b':=rfl
  unfold docD
  rw [ed,e]
  exact if_pos ⟨rfl,rfl,rfl⟩
theorem read_same {b:List UInt8} (hb:4≤b.length):(∀ r,docD b=some r→proD b=r∧encD (proD b)=u8s b)∧(docD b=none→encD (proD b)≠u8s b):=by
 refine ⟨λ r h=>?_,λ h e=>?_⟩
 ·obtain ⟨h1,h2,h3⟩:=docD_some h
  refine ⟨h3,?_⟩
  rw [h3,h2]
  unfold encD
  rw [h1];rfl
 ·rw [encD_some hb e] at h
  cases h
/- how much was read -/
def Sz {α:Type} (f:Pz α) (c:α→Nat) (K:Nat):Prop:=(∀ bs,(f bs true).2.2=true)∧∀ bs bad,c (f bs bad).1+(f bs bad).2.1.length≤bs.length+(if (f bs bad).2.2 then K else 0)
theorem sz2:Sz rdN (λ _=>2) 2:=by
 refine ⟨λ bs=>rfl,λ bs bad=>?_⟩
 show 2+(rd2 bs bad).2.1.length≤bs.length+(if (rd2 bs bad).2.2 then 2 else 0)
 unfold rd2
 split
 ·simp only [if_true];omega
 ·rename_i h
  simp at h
  simp only [List.length_drop,Bool.false_eq_true,if_false]
  omega
theorem szT':Sz rdT (λ s=>s.length+2) 2:=by
 refine ⟨λ bs=>rfl,λ bs bad=>?_⟩
 have h:=sz2.2 bs bad
 have h:2+(rd2 bs bad).2.1.length≤bs.length+(if (rd2 bs bad).2.2 then 2 else 0):=h
 unfold rdT
 split
 ·simp only [List.length_nil,if_true]
  split at h <;> omega
 ·rename_i h2
  simp at h2
  rw [h2.1] at h
  simp only [List.length_take,List.length_drop,Bool.false_eq_true,if_false] at h ⊢
  omega
def sumC {α:Type} (c:α→Nat):List α→Nat
 | []=>0
 | x::l=>c x+sumC c l
theorem szL {α:Type} {f:Pz α} {c:α→Nat} {K:Nat} (g:Bool) (hf:Sz f c K):∀ k,Sz (rdL g f k) (sumC c) K
 | 0=>⟨λ bs=>rfl,λ bs bad=>by show 0+bs.length≤_;omega⟩
 | k+1=>by
  refine ⟨λ bs=>rfl,λ bs bad=>?_⟩
  show sumC c (bB (bad || (g&&bs.isEmpty)) _ _:List α × List UInt8 × Bool).1+(bB (bad || (g&&bs.isEmpty)) _ _:List α × List UInt8 × Bool).2.1.length≤bs.length+(if (bB (bad || (g&&bs.isEmpty)) _ _:List α × List UInt8 × Bool).2.2 then K else 0)
  cases hc:(bad || (g&&bs.isEmpty)) with
  | true=>
   show 0+bs.length≤_
   omega
  | false=>
   have h1:=hf.2 bs bad
   have h2:=(szL g hf k).2 (f bs bad).2.1 (f bs bad).2.2
   show (c (f bs bad).1+sumC c (rdL g f k (f bs bad).2.1 (f bs bad).2.2).1)+(rdL g f k (f bs bad).2.1 (f bs bad).2.2).2.1.length≤bs.length+(if (rdL g f k (f bs bad).2.1 (f bs bad).2.2).2.2 then K else 0)
   generalize f bs bad=q at *
   obtain ⟨x,b1,bad1⟩:=q
   simp only at h1 h2 ⊢
   cases bad1 with
   | true=>
    rw [rdL_bad] at h2 ⊢
    simp only [if_true] at h1 h2 ⊢
    have:sumC c ([]:List α)=0:=rfl
    omega
   | false=>
    simp only [Bool.false_eq_true,if_false] at h1
    omega
theorem szC {α:Type} {f:Pz α} {c:α→Nat} {K:Nat} (g:Bool) (hf:Sz f c K):Sz (rdC g f) (λ l=>sumC c l+2) (K+2):=by
 refine ⟨λ bs=>rfl,λ bs bad=>?_⟩
 have h1:=sz2.2 bs bad
 have h1:2+(rd2 bs bad).2.1.length≤bs.length+(if (rd2 bs bad).2.2 then 2 else 0):=h1
 unfold rdC
 have h2:=(szL g hf (rd2 bs bad).1).2 (rd2 bs bad).2.1 (rd2 bs bad).2.2
 generalize rd2 bs bad=q at *
 obtain ⟨n,b1,bad1⟩:=q
 simp only at h1 h2 ⊢
 cases bad1 with
 | true=>
  rw [rdL_bad] at h2 ⊢
  simp only [if_true] at h1 h2 ⊢
  have:sumC c ([]:List α)=0:=rfl
  omega
 | false=>
  simp only [Bool.false_eq_true,if_false] at h1
  split at h2 <;> split <;> simp_all <;> omega
theorem szP {α β:Type} {f:Pz α} {g:Pz β} {c:α→Nat} {d:β→Nat} {K L:Nat} (hf:Sz f c K) (hg:Sz g d L):Sz (rdP f g) (λ x=>c x.1+d x.2) (K+L):=by
 refine ⟨λ bs=>?_,λ bs bad=>?_⟩
 ·unfold rdP
  have:=hf.1 bs
  generalize f bs true=q at *
  obtain ⟨x,b1,bad1⟩:=q
  obtain rfl:bad1=true:=this
  exact hg.1 b1
 ·have h1:=hf.2 bs bad
  unfold rdP
  have h2:=hg.2 (f bs bad).2.1 (f bs bad).2.2
  generalize f bs bad=q at *
  obtain ⟨x,b1,bad1⟩:=q
  simp only at h1 h2 ⊢
  cases bad1 with
  | true=>
   rw [hg.1 b1] at h2 ⊢
   simp only [if_true] at h1 h2 ⊢
   omega
  | false=>
   simp only [Bool.false_eq_true,if_false] at h1
   split at h2 <;> split <;> simp_all <;> omega
theorem szM {α β:Type} {f:Pz α} {c:α→Nat} {d:β→Nat} {K:Nat} (e:α→β) (hd:∀ x,d (e x)≤c x) (hf:Sz f c K):Sz (rdM e f) d K:=
 ⟨hf.1,λ bs bad=>by
  have h1:=hf.2 bs bad
  have h2:=hd (f bs bad).1
  show d (e (f bs bad).1)+(f bs bad).2.1.length≤bs.length+(if (f bs bad).2.2 then K else 0)
  omega⟩
theorem sum2:∀ l:List Int,sumC (λ _=>2) l=2 * l.length
 | []=>rfl
 | x::l=>by show 2+sumC _ l=2 * (l.length+1);rw [sum2 l];omega
theorem sumT:∀ l:List (List UInt8),sumC (λ s=>s.length+2) l=szT l
 | []=>rfl
 | x::l=>by show x.length+2+sumC _ l=x.length+2+szT l;rw [sumT l]
def cRow (x:Row):Nat:=x.var.length+4+2 * x.set.length
def cEdg (x:Edg):Nat:=x.src.length+x.dst.length+6
theorem sumR:∀ l:List Row,sumC cRow l=szR l
 | []=>rfl
 | x::l=>by show cRow x+sumC _ l=cRow x+szR l;rw [sumR l]
theorem sumE:∀ l:List Edg,sumC cEdg l=szE l
 | []=>rfl
 | x::l=>by show cEdg x+sumC _ l=cEdg x+szE l;rw [sumE l]
theorem szRow' (g:Bool):Sz (rdRow g) cRow (2+(2+2)):=szM toRow (λ x=>by show x.1.length+4+2 * x.2.length≤x.1.length+2+(sumC (λ _=>2) x.2+2);rw [sum2];omega) (szP szT' (szC g sz2))
theorem szEdg':Sz rdEdg cEdg (2+(2+2)):=szM toEdg (λ x=>by show x.1.length+x.2.2.length+6≤x.1.length+2+(2+(x.2.2.length+2));omega) (szP szT' (szP sz2 szT'))
theorem szRD' (g:Bool):Sz (rdRD g) (λ r=>szD r - 16) (2+(2+2+(2+(2+2)+2+(2+(2+2)+2+(2+2+(2+2)))))):=by
 refine szM toRD (λ x=>?_) (szP szT' (szP (szC g szT') (szP (szC g (szRow' g)) (szP (szC g szEdg') (szP (szC g szT') (szC g szT'))))))
 show (x.1.length+szT x.2.1+szR x.2.2.1+szE x.2.2.2.1+szT x.2.2.2.2.1+szT x.2.2.2.2.2+16) - 16≤x.1.length+2+(sumC (λ s=>s.length+2) x.2.1+2+(sumC cRow x.2.2.1+2+(sumC cEdg x.2.2.2.1+2+(sumC (λ s=>s.length+2) x.2.2.2.2.1+2+(sumC (λ s=>s.length+2) x.2.2.2.2.2+2)))))
 rw [sumT,sumT,sumT,sumR,sumE]
 omega
theorem proD_size (g:Bool) (bs:List UInt8) (bad:Bool):szD (rdRD g bs bad).1≤bs.length+64:=by
 have h:=(szRD' g).2 bs bad
 have h:(szD (rdRD g bs bad).1 - 16)+(rdRD g bs bad).2.1.length≤bs.length+(if (rdRD g bs bad).2.2 then 30 else 0):=h
 have h2:16≤szD (rdRD g bs bad).1:=by unfold szD;omega
 split at h <;> omega
end
end Go.Proofs
end
