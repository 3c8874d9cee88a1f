/- Short names for pieces of compiled code. -/
import Derived.Test.YtpjpiigachahkaaGreatDoorSh11
namespace Go.Kz
open Go.Sh
noncomputable section
abbrev e:=@oEnd
abbrev c:=@xC
abbrev W:=@xW
abbrev q:=@cSeq
abbrev o:=@cOps
abbrev i:=@cCond
abbrev b:=@cBlock
abbrev O:=@cLoop
abbrev x:=@cExit
abbrev r:=@cRet
abbrev k:=@cSkip
abbrev a:=@vAddr
abbrev D:=@lLoad
abbrev n:=@vLen
abbrev P:=@vPick
abbrev T:=@tStore
abbrev Y:=@oLet
abbrev S:=@oSet
abbrev d:=@oDo
abbrev C:=@oCap
abbrev X:=@vIdx
abbrev V:=@sV
abbrev L:=@sL
abbrev M:=@sM
abbrev N:=@sN
abbrev G:=@sG
abbrev F:=@sC
abbrev y:=@way
def R(a n:Nat)(l:List Nat):List Nat:=List.range' a n ++ l
abbrev I:IntKind:=.i64
abbrev z:SV:=.nilslice
abbrev v(f:XF)(r:SV→OF):OF:=oLet (sV f) r
abbrev w(n:Nat)(r:SV→OF):OF:=oLet (sV (xW n)) r
abbrev L'(f:LF)(r:SV→OF):OF:=oLet (sL f) r
abbrev l(a:SV)(r:SV→OF):OF:=oLet (sL (lLoad none (xC a))) r
abbrev M'(f:MF)(r:SV→OF):OF:=oLet (sM f) r
abbrev N'(f:NF)(r:SV→OF):OF:=oLet (sN f) r
abbrev f(n:FuncId)(l:List XF)(r:SV→OF):OF:=oLet (sC n l) r
abbrev g(a:SV)(b:Bool)(x:XF)(r:SV→OF):OF:=oLet (sG (xC a) b (sV x)) r
abbrev g'(a:SV)(b:Bool)(n:Nat)(r:SV→OF):OF:=oLet (sG (xC a) b (sV (xW n))) r
abbrev G'(a:SV)(b:Bool)(s:SF)(r:SV→OF):OF:=oLet (sG (xC a) b s) r
abbrev s(d:Nat)(x:XF)(r:SV→OF):OF:=oSet d (sV x) r
abbrev E(d:Nat)(x:XF):OF:=oSet d (sV x) fun _=>oEnd
abbrev E'(d:Nat)(s:SF):OF:=oSet d s fun _=>oEnd
abbrev d'(m:MF)(r:OF):OF:=oDo (sM m) r
abbrev A(k n:Nat)(r:SV→OF):OF:=oLet (sV (vAddr k (xW n))) r
abbrev B(k:Nat)(a:SV)(r:SV→OF):OF:=oLet (sV (vAddr k (xC a))) r
abbrev Q(p:OF)(b:Cd):Cd:=cSeq (cOps p) b
abbrev x'(n m:Nat):Cd:=cCond (xW n) cSkip (cExit m)
end
end Go.Kz
