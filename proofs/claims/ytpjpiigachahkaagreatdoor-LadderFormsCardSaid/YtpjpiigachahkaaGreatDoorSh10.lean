/- General laws of the proof: a shadow machine of the form, its soundness, and a compiled form of it. -/
import Derived.Test.YtpjpiigachahkaaGreatDoorSh6
import Derived.Lib.Bytealg
set_option linter.unusedVariables false
set_option linter.unusedSimpArgs false
set_option linter.unusedSectionVars false
section
/- The shadow machine: oracles: where a byte stands in a text. -/
namespace Go.Sh
section
variable [Held] {P:Program}
noncomputable def xIndex:List SV→H→Option (SV × H)
 | [.str s,.int .u8 c],h=>some (.int .i64 (Lib.indexByte s c.toNat.toUInt8),h)
 | _,_=>none
theorem xIndex_ok {f : FuncId} {fn : Func} (hf : P.funcs[f]? = some fn) (hb : fn.body = none) (hn : fn.name ≠ "runtime.NumGoroutine") (h1 : Extern.findNext fn = none) (h2 : Extern.find fn = some Extern.BytealgIndexByte.indexByte) :
  ∀ args h v h',xIndex args h=some (v,h')→∀ B ι w (us:Array Value),St B ι h w→LRel ι args us.toList→Answers P f us w λ v' w'=>∃ ι',VRel ι' v v'∧Moves B ι h w ι' h' w':=by
 intro args h v h' hx B ι w us hs hl
 unfold xIndex at hx
 split at hx <;> simp only [Option.some.injEq,Prod.mk.injEq,reduceCtorEq] at hx
 rename_i s c
 obtain ⟨rfl,rfl⟩:=hx
 obtain ⟨a,r,e1,ha,b,r',e2,hb',e3⟩:=hl
 simp only [VRel] at ha hb'
 have hus:us=#[.string ⟨⟨s⟩⟩,.int .u8 c]:=by
  apply Array.ext'
  rw [e1,e2,ha,hb',e3]
 subst hus
 refine .inr ⟨.int .i64 (Lib.indexByte s c.toNat.toUInt8),w,?_,ι,rfl,.refl hs⟩
 have:=Lib.run_indexByteString (P:=P) ⟨⟨s⟩⟩ c w
 unfold callFunc
 simp [hf,hb,hn,h1,h2,this]
end
end Go.Sh
end
section
/- The shadow machine: oracles that leave what is known alone. -/
namespace Go.Sh
section
variable [Held] {P:Program} {B:Nat} {ι:Inj} {h:H} {w w':World}
theorem Moves.below (hs:St B ι h w) (hb:RowKit.Below w.heap.size w w'):Moves B ι h w ι h w':=by
 refine .of hs ⟨λ id b o s hi=>?_,hs.sim.par,hs.sim.sep⟩ hs.fresh (Nat.le_trans hs.base hb.size) ?_ .refl
 ·obtain ⟨ob,h1,h2,h3,h4⟩:=hs.sim.obj _ _ _ _ hi
  exact ⟨ob,h1,h2.mono (Inj.le_refl _) (hb.block b h3),Nat.lt_of_lt_of_le h3 hb.size,h4⟩
 ·exact ⟨Inj.le_refl _,Nat.le_refl _,λ _ _ h=>.inl h,λ _ _ _=>by omega,hb.os,hb.tape,hb.output,hb.size,λ b hk _=>hb.block b hk,λ _ _ h h'=>by rw [h] at h';simp at h',
   λ _ _ _ _ _ h h'=>by rw [h] at h';cases h';exact Iff.rfl,λ _ _ _=>rfl⟩
end
end Go.Sh
end
