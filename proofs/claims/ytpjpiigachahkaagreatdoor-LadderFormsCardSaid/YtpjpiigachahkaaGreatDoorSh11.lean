/- General laws of the proof: a shadow machine of the form, its soundness, and a compiled form of it. -/
import Derived.Test.YtpjpiigachahkaaGreatDoorSh9
import Derived.Test.YtpjpiigachahkaaGreatDoorSh10
set_option linter.unusedVariables false
set_option linter.unusedSimpArgs false
set_option linter.unusedSectionVars false
section
/- The compiled machine: tables of functions; closed calls; oracles that are closed calls. -/
namespace Go.Sh
noncomputable def tabOf (l:List (Nat × KF)):Tr KF:=@List.rec (Nat × KF) (λ _=>Tr KF) .leaf (λ x _ t=>t.set x.1 x.2) l
def AllC (P:Program):List (Nat × KF)→Prop
 | []=>True
 | x::l=>Compiled P x.1 x.2∧AllC P l
theorem allC_app {P:Program}:∀ {l l':List (Nat × KF)},AllC P l→AllC P l'→AllC P (l++l')
 | [],_,_,h=>h
 | _::_,_,h,h'=>⟨h.1,allC_app h.2 h'⟩
theorem tabOf_ok {P:Program}:∀ {l:List (Nat × KF)},AllC P l→∀ f kf,(tabOf l).get f=some kf→Compiled P f kf
 | [],_,f,kf,h=>by simp [tabOf,Tr.get_leaf] at h
 | x::l,hl,f,kf,h=>by
  have h:((tabOf l).set x.1 x.2).get f=some kf:=h
  rw [Tr.get_set] at h
  split at h
  ·rename_i e;cases h;subst e;exact hl.1
  ·exact tabOf_ok hl.2 f kf h
@[reducible] def heldNone:Held:=⟨λ _=>True,0,λ _ _ _ _=>trivial⟩
theorem heldNone_at (B:Nat) (w:World):@HeldAt heldNone B w:=⟨Nat.zero_le _,trivial⟩
section
variable [Held] {P:Program} {X:FuncId→Option (List SV→H→Option (SV × H))}
theorem closed_lim (hG:Good P) (hX:OracleOK P X) {f:FuncId} {args:List SV} {v:SV} {h':H} (hr:(lim P X).call f args H.empty=some (v,h')) {us:Array Value} (hl:LRel none0 args us.toList) {fn:Func} {c:Code} (hf:P.funcs[f]?=some fn) (hb:fn.body=some c) (w:World) (hw:HeldAt w.heap.size w) :
  Calls P f us w λ en w'=>∃ v' ι',en=.returned v'∧VRel ι' v v'∧RowKit.Below w.heap.size w w':=by
 rcases lim_ok hG hX f args H.empty v h' hr w.heap.size none0 w us (st_empty w hw) hl with ⟨_,h⟩ | ⟨v',w',h,_⟩
 ·refine Calls.mono h λ en w' ⟨v',h1,ι',h2,h3⟩=>?_
  exact ⟨v',ι',h1,h2,⟨h3.ext.os,h3.ext.tape,h3.ext.output,h3.ext.size,λ b hb=>h3.ext.frame b hb λ id x ob h=>by simp [none0] at h⟩⟩
 ·rw [enter_run hG hf hb us] at h
  cases h
noncomputable def xBool (b:Bool):List SV→H→Option (SV × H)
 | [],h=>some (.bool b,h)
 | _,_=>none
theorem xBool_ok (hG:Good P) (hX:OracleOK P X) {f:FuncId} {b:Bool} {h':H} (hr:(lim P X).call f [] H.empty=some (.bool b,h')) {fn:Func} {c:Code} (hf:P.funcs[f]?=some fn) (hb:fn.body=some c) (hw:∀ B w,Held.nb≤B→HeldAt B w→B≤w.heap.size→HeldAt w.heap.size w) :
  ∀ args h v h',xBool b args h=some (v,h')→∀ B ι w (us:Array Value),St B ι h w→LRel ι args us.toList→Answers P f us w λ v' w'=>∃ ι',VRel ι' v v'∧Moves B ι h w ι' h' w':=by
 intro args h v h1 hx B ι w us hs hl
 unfold xBool at hx
 split at hx
 ·cases hx
  have hus:us=#[]:=by apply Array.ext';exact hl
  subst hus
  refine .inl ⟨enter_run hG hf hb _,(closed_lim hG hX hr (us:=#[]) rfl hf hb w (hw B w hs.held.1 hs.held hs.base)).mono λ en w' ⟨v',ι',h1,h2,h3⟩=>?_⟩
  simp only [VRel] at h2
  subst h2
  exact ⟨_,h1,ι,rfl,.below hs h3⟩
 ·cases hx
end
theorem knext_assoc (r:FR) (a b:T→H→FR):knext (knext r a) b=knext r λ t h=>knext (a t h) b:=by
 cases r with
 | none=>rfl
 | some x=>obtain ⟨fl,t,h⟩:=x;cases fl <;> rfl
theorem cSeq_assoc (a b c:Cd):cSeq (cSeq a b) c=cSeq a (cSeq b c):=by
 funext n q t h
 show knext (knext (a n q t h) (b n q)) (c n q)=knext (a n q t h) λ t h=>knext (b n q t h) (c n q)
 exact knext_assoc _ _ _
theorem eval_cut {A B:Cd} {n:Nat} {c:CF} {t0:T} {h0:H} {good:T→Bool} {R:OF} {f:T→T} (hR:∀ t h m K,good t=true→R c m t h K=K (f t) h) {res:FR}
  (h1:(match A n c t0 h0 with
   | some (.normal,t,_)=>good t
   | _=>false)=true) (h2:knext (A n c t0 h0) (λ t h=>B n c (f t) h)=res):(cSeq A (cSeq (cOps R) B)) n c t0 h0=res:=by
 show knext (A n c t0 h0) (λ t h=>knext (R c h.next t h λ t h=>some (.normal,t,h)) (B n c))=res
 cases hA:A n c t0 h0 with
 | none=>rw [hA] at h1;simp at h1
 | some x=>
  obtain ⟨fl,t,h⟩:=x
  rw [hA] at h1 h2
  cases fl <;> simp only [Bool.false_eq_true] at h1
  rw [← h2]
  show knext (R c h.next t h λ t h=>some (.normal,t,h)) (B n c)=B n c (f t) h
  rw [hR _ _ _ _ h1];rfl
end Go.Sh
end
