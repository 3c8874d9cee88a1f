/- LadderForms answers true whatever it is given: the walk, the row. -/
import Derived.Test.YtpjpiigachahkaaGreatDoorTzG6
import Derived.Test.YtpjpiigachahkaaGreatDoorTwNB
import Derived.Test.YtpjpiigachahkaaGreatDoorSh21
import Derived.Test.YtpjpiigachahkaaGreatDoorTie
import Derived.Test.YtpjpiigachahkaaGreatDoorCards
import Derived.LaidMore
import Derived.Lay
import Derived.OpenShut
import Derived.SevenTiedAt
import Derived.Stop.Joined
import Derived.Carry
import Derived.Lib.LaidTab
set_option linter.unusedVariables false
set_option linter.unusedSimpArgs false
set_option linter.unusedSectionVars false
namespace Go.Proofs.YtpjpiigachahkaaGreatDoor
open Go.Sh Go.ChangeShapes Go.WideShapes Go.ChangeAt Go.RowKit Go.Shelf
set_option maxRecDepth 100000
attribute [local instance] powHeld
theorem Tryz.own:ownKnob Tryz.prog.godebug=none:=by kernel_rfl
theorem Tryz.laidOut:laidOutB Tryz.prog=true:=by kernel_rfl
abbrev laid1:List (String × DataW Unit):=Rows.ladderFormsRow.laid
theorem Tryz.edge {Hd:Type} {g:Nat→Option SObj} (d:DataW Hd) (cs:List SV) (r:Rep Tryz.prog g 91 d cs):∃ e:Edg,True∧cs=e.cells:=by
 obtain ⟨hl,hf⟩:=Rep.fields Tryz.underlying91 d cs r
 have hn:cs.length=3:=hl.trans (by kernel_rfl)
 obtain ⟨d0,r0⟩:=hf 0 _ rfl
 obtain ⟨d1,r1⟩:=hf 1 _ rfl
 obtain ⟨d2,r2⟩:=hf 2 _ rfl
 obtain ⟨a,_,e0⟩:=Rep.oneStr Tryz.underlying9 _ _ r0
 obtain ⟨b,_,e1⟩:=Rep.oneInt Tryz.underlying3 _ _ r1
 obtain ⟨c,_,e2⟩:=Rep.oneStr Tryz.underlying9 _ _ r2
 match cs,hn with
 | [x,y,z],_=>
  have e0:[x]=[SV.str a]:=e0
  have e1:[y]=[SV.int .i64 b]:=e1
  have e2:[z]=[SV.str c]:=e2
  refine ⟨⟨a,b,c⟩,trivial,?_⟩
  cases e0;cases e1;cases e2;rfl
theorem str_flat:∀ l:List (List UInt8),l.flatMap (λ z=>[SV.str z])=strs l
 | []=>rfl
 | x::l=>by rw [List.flatMap_cons,str_flat l];rfl
theorem int_flat:∀ l:List Int,l.flatMap (λ z=>[SV.int .i64 z])=ints l
 | []=>rfl
 | x::l=>by rw [List.flatMap_cons,int_flat l];rfl
theorem byte_flat:∀ l:List UInt8,l.flatMap (λ z=>[SV.int .u8 z.toNat])=u8s l
 | []=>rfl
 | x::l=>by rw [List.flatMap_cons,byte_flat l];rfl
theorem Tryz.byte {Hd:Type} {g:Nat→Option SObj} (d:DataW Hd) (cs:List SV) (r:Rep Tryz.prog g 5 d cs):∃ c:UInt8,True∧cs=[SV.int .u8 c.toNat]:=by
 obtain ⟨z,hz,rfl⟩:=Rep.oneInt Tryz.underlying5 _ _ r
 have hz:0≤z∧z < 256:=by
  have h:IntKind.u8.min≤z∧z≤IntKind.u8.max:=by simpa [Lit.wf] using hz
  have e1:IntKind.u8.min=0:=by decide
  have e2:IntKind.u8.max=255:=by decide
  omega
 refine ⟨UInt8.ofNat z.toNat,trivial,?_⟩
 rw [byte_nat hz]
 congr 2
 omega
theorem Tryz.texts {Hd:Type} {h:H} {d:DataW Hd} {x:SV} (r:Rep Tryz.prog h.get 24 d [x]):∃ l:List (List UInt8),View h 1 x l.length (strs l)∧∀ q,isRow x q→q < h.next:=by
 obtain ⟨R,q1,_,_,q2⟩:=Rep.rows (es:=1) (f:=λ z=>[SV.str z]) (ok:=λ z=>z.length≤maxLen) Tryz.underlying24 (by kernel_rfl) (λ d cs r=>Rep.oneStr Tryz.underlying9 d cs r) r
 rw [str_flat] at q1
 exact ⟨R,q1,q2⟩
def RowOk (h:H) (z:Row × SV):Prop:=View h 1 z.2 z.1.set.length (ints z.1.set)∧(∀ q,isRow z.2 q→q < h.next)∧z.2.cells?=some [z.2]
theorem Tryz.rowIs {Hd:Type} {h:H} (d:DataW Hd) (cs:List SV) (r:Rep Tryz.prog h.get 59 d cs):∃ z:Row × SV,RowOk h z∧cs=[.str z.1.var,z.2]:=by
 obtain ⟨hl,hf⟩:=Rep.fields Tryz.underlying59 d cs r
 have hn:cs.length=2:=hl.trans (by kernel_rfl)
 obtain ⟨d0,r0⟩:=hf 0 _ rfl
 obtain ⟨d1,r1⟩:=hf 1 _ rfl
 obtain ⟨a,_,e0⟩:=Rep.oneStr Tryz.underlying9 _ _ r0
 match cs,hn with
 | [x,y],_=>
  have e0:[x]=[SV.str a]:=e0
  have r1:Rep Tryz.prog h.get 57 d1 [y]:=r1
  obtain ⟨l,q1,_,_,q2⟩:=Rep.rows (es:=1) (f:=λ z=>[SV.int .i64 z]) (ok:=λ z=>(Lit.int .i64 z).wf=true) Tryz.underlying57 (by kernel_rfl) (λ d cs r=>Rep.oneInt Tryz.underlying3 d cs r) r1
  rw [int_flat] at q1
  cases e0
  exact ⟨(⟨a,l⟩,y),⟨q1,q2,view_cells q1⟩,rfl⟩
theorem Tryz.report {Hd:Type} {h:H} {d:DataW Hd} {cs:List SV} (r:Rep Tryz.prog h.get 36 d cs):∃ r m,RepV h h.next cs r m:=by
 obtain ⟨hl,hf⟩:=Rep.fields Tryz.underlying36 d cs r
 have hn:cs.length=6:=hl.trans (by kernel_rfl)
 obtain ⟨d0,r0⟩:=hf 0 _ rfl
 obtain ⟨d1,r1⟩:=hf 1 _ rfl
 obtain ⟨d2,r2⟩:=hf 2 _ rfl
 obtain ⟨d3,r3⟩:=hf 3 _ rfl
 obtain ⟨d4,r4⟩:=hf 4 _ rfl
 obtain ⟨d5,r5⟩:=hf 5 _ rfl
 match cs,hn with
 | [x,sv,tv,ev,rv,iv],_=>
  obtain ⟨a,_,e0⟩:=Rep.oneStr Tryz.underlying9 _ _ r0
  have e0:[x]=[SV.str a]:=e0
  have r1:Rep Tryz.prog h.get 24 d1 [sv]:=r1
  have r2:Rep Tryz.prog h.get 22 d2 [tv]:=r2
  have r3:Rep Tryz.prog h.get 23 d3 [ev]:=r3
  have r4:Rep Tryz.prog h.get 24 d4 [rv]:=r4
  have r5:Rep Tryz.prog h.get 24 d5 [iv]:=r5
  obtain ⟨S,s1,s2⟩:=Tryz.texts r1
  obtain ⟨m,t1,_,t3,t2⟩:=Rep.rows (es:=2) (f:=λ z:Row × SV=>[.str z.1.var,z.2]) (ok:=RowOk h) Tryz.underlying22 (by kernel_rfl) (λ d cs r=>Tryz.rowIs d cs r) r2
  obtain ⟨E,k1,_,_,k2⟩:=Rep.rows (es:=3) (f:=Edg.cells) (ok:=λ _=>True) Tryz.underlying23 (by kernel_rfl) (λ d cs r=>Tryz.edge d cs r) r3
  obtain ⟨R,q1,q2⟩:=Tryz.texts r4
  obtain ⟨I,i1,i2⟩:=Tryz.texts r5
  cases e0
  exact ⟨⟨a,S,m.map (·.1),E,R,I⟩,m,⟨⟨sv,tv,ev,rv,iv,rfl,s1,s2,⟨t1,t2,t3⟩,k1,k2,q1,q2,i1,i2⟩,rfl⟩⟩
theorem argIs_struct {P:Program} {cs:List SV} {x:SV} {t:TypeId} {fs:Array Field} (hu:P.underlying t=some (.struct fs)) (a:ArgIs P t cs x):x=.agg cs:=by
 unfold ArgIs at a;rw [hu] at a;exact a
theorem argsRep_len {Hd:Type} {P:Program} {g:Nat→Option SObj}:∀ {ts:List TypeId} {ds:List (DataW Hd)} {xs:List SV},ArgsRep P g ts ds xs→ds.length=ts.length
 | [],[],[],_=>rfl
 | _::_,_::_,_::_,h=>congrArg Nat.succ (argsRep_len h.2)
theorem Tryz.walk4 {Hd:Type} {enc:TypeId × Value→Hd} {W:World} {args:Array Value} {ds:List (DataW Hd)} {ps:List MemPlace} {b:Nat} (hT:HeldAt W.heap.size W) (hA:DataW.TrodAll enc Tryz.prog W 0 (λ _=>true) true [36,36,37] args.toList ds ps) (hval:∀ (j:Nat) t v,([36,36,37]:List TypeId)[j]?=some t→args.toList[j]?=some v→Value.okWide Tryz.prog W .any b t v) :
  ds.length=3∧Calls Tryz.prog 4 args W λ en w'=>en=.returned (.bool true)∧Below W.heap.size W w':=by
 obtain ⟨ι,h,xs,s1,_,l1,r1⟩:=args_outer (n:=8) [36,36,37] args.toList ds ps none0 H.empty (λ t ht=>by
  simp at ht
  rcases ht with rfl | rfl
  ·kernel_rfl
  ·kernel_rfl) hA hval (outer_empty hT)
 refine ⟨argsRep_len r1,?_⟩
 obtain ⟨c,hc⟩:∃ c,Tryz.f4.body=some c:=Option.isSome_iff_exists.1 (by kernel_rfl)
 obtain ⟨d1,_,x1,_,cs1,rfl,rfl,k1,i1,r1⟩:=argsRep_cons r1
 obtain ⟨d2,_,x2,_,cs2,rfl,rfl,k2,i2,r1⟩:=argsRep_cons r1
 obtain ⟨d3,_,x3,_,cs3,rfl,rfl,k3,i3,r1⟩:=argsRep_cons r1
 obtain ⟨rfl,rfl⟩:=argsRep_nil r1
 obtain rfl:=argIs_struct Tryz.underlying36 i1
 obtain rfl:=argIs_struct Tryz.underlying36 i2
 obtain rfl:=argIs_slice Tryz.underlying37 i3
 obtain ⟨r,mr,A⟩:=Tryz.report k1
 obtain ⟨o,mo,B⟩:=Tryz.report k2
 obtain ⟨bs,b1,_,_,b2⟩:=Rep.rows (es:=1) (f:=λ z:UInt8=>[SV.int .u8 z.toNat]) (ok:=λ _=>True) Tryz.underlying37 (by kernel_rfl) (λ d cs r=>Tryz.byte d cs r) k3
 rw [byte_flat] at b1
 obtain ⟨r,h',k7,rfl⟩:=Tryz.law4 A B b1
 refine (outer_lim Tryz.good Tryz.X2_ok k7 s1 l1 Tryz.func4 hc).mono λ en w' ⟨v',ι',e1,e2,e3⟩=>?_
 simp only [VRel] at e2
 subst e2
 exact ⟨e1,e3⟩
theorem law_lifted (os:Os) (started:os.Started) (H:Type) (enc:TypeId × Value→H) :
  ReturnsInHanded {} Tryz.checked os 4 .any (λ w args=>(Rows.ladderFormsSpec.pre enc Tryz.prog Tryz.f4 [] false w args∧laidMetH Tryz.prog laid1 w)∧sizedMet enc Tryz.prog Tryz.f4 (OpenSpec.ofChange Rows.ladderFormsSpec) false w args)
   (Rows.ladderFormsSpec.post enc Tryz.prog Tryz.f4 false true false false):=by
 refine returnsInHanded_of_change_and (C:=Tryz.checked) (X:=λ w _=>laidMetH Tryz.prog laid1 w) (λ _ _ _ hh h=>h.of_heap hh) Tryz.own started (by kernel_rfl) Tryz.func4
  (ChangeSpec.witness_shaped (enc:=enc) (C:=Tryz.checked) (os:=os) (X:=λ w _=>laidMetH Tryz.prog laid1 w) false (World.laidAll Tryz.prog os laid1)
   #[.agg #[.string ⟨#[]⟩,.slice none 0 0,.slice none 0 0,.slice none 0 0,.slice none 0 0,.slice none 0 0],.agg #[.string ⟨#[]⟩,.slice none 0 0,.slice none 0 0,.slice none 0 0,.slice none 0 0,.slice none 0 0],.slice none 0 0] 8 (World.laidAll_os _ _ _)
   (World.shaped_of_ZipB (by kernel_rfl) (by kernel_rfl)) (by kernel_rfl) (by kernel_rfl) (by kernel_rfl)
   (by rw [MakeChecks.laidMetH_plain _ _ _ (by kernel_rfl)];exact laidMet_laidAll _ (by kernel_rfl) (by kernel_rfl))) ?_
 intro W base args ds gs before hval0 hW hcnd _ hL _
 have hval:∀ (j:Nat) t v,Tryz.f4.params[j]?=some t→args[j]?=some v→Value.okWide Tryz.prog W .any base t v:=hval0
 have hW':=hW
 obtain ⟨p,q,hA0,hV,rfl,hfz,hnd⟩:=hW
 have hA:DataW.TrodAll enc Tryz.prog W 0 (λ _=>true) true Tryz.f4.params.toList args.toList ds p:=hA0
 rw [Tryz.params4] at hA hval
 obtain ⟨hlen,hrun⟩:=Tryz.walk4 (heldNone_at _ W) hA (λ j t v e1 e2=>hval j t v (by simpa using e1) (by simpa using e2))
 refine hrun.mono λ e W' ⟨he,hw⟩=>?_
 subst he
 refine ⟨_,rfl,law_post Tryz.laidOut Tryz.underlying4 (by kernel_rfl) ?_ hW' rfl ?_ hw⟩
 ·intro t ht
  rw [Tryz.params4] at ht
  simp at ht
  rcases ht with rfl | rfl
  ·exact ⟨by kernel_rfl,of_decide_eq_true (by kernel_rfl)⟩
  ·exact ⟨by kernel_rfl,of_decide_eq_true (by kernel_rfl)⟩
 ·match ds,hlen with
  | [d0,d1,d2],_=>rfl
end Go.Proofs.YtpjpiigachahkaaGreatDoor
