/- General laws of the proof: a shadow machine of the form, its soundness, and a compiled form of it. -/
import GoSem.Dispatch
import GoSem.Core.Region
import GoSem.Machine.Frame
set_option linter.unusedVariables false
set_option linter.unusedSimpArgs false
set_option linter.unusedSectionVars false
section
/- The shadow machine: a deterministic evaluator over the model's Code, on a heap of its own: values, heap, operations. -/
namespace Go.Sh
noncomputable section
inductive SV where
  | bool (b:Bool)
  | int (k:IntKind) (n:Int)
  | float (k:FloatKind) (b:Nat)
  | cpx (k:FloatKind) (re im:Nat)
  | str (s:List UInt8)
  | nilptr
  | ptr (id off:Nat)
  | nilslice
  | slice (id off len es : Nat) (cap : Option Nat)      -- es: cells of an element; cap none: not known
  | nilmap
  | map (id:Nat)
  | nilfunc
  | func (f:FuncId) (captured:List SV)
  | niliface
  | iface (t:TypeId) (v:SV)
  | agg (cs:List SV)
  | tuple (vs:List SV)
  deriving Inhabited
inductive Mode where
  | fixed
  | grown (par:Option Nat)
  | stale (par:Option Nat)
  | dead
  | ext
  deriving Inhabited
inductive SObj where
  | cells (cs:List SV) (m:Mode)
  | map (es:List (SV × SV × Nat)) (clock:Nat)
  deriving Inhabited
inductive Tr (α:Type) where
  | leaf
  | node (l:Tr α) (v:Option α) (r:Tr α)
namespace Tr
variable {α:Type}
def get (t:Tr α):Nat→Option α:=
  @Tr.rec α (λ _=>Nat→Option α) (λ _=>none)
    (λ _ v _ gl gr n=>@Bool.rec (λ _=>Option α)
      (@Bool.rec (λ _=>Option α) (gr (Nat.div (Nat.sub n 1) 2)) (gl (Nat.div (Nat.sub n 1) 2)) (Nat.beq (Nat.mod n 2) 1)) v (Nat.beq n 0)) t
def one (x:α) (f:Nat):Nat→Tr α:=
  @Nat.rec (λ _=>Nat→Tr α) (λ _=>.leaf)
    (λ _ g n=>@Bool.rec (λ _=>Tr α)
      (@Bool.rec (λ _=>Tr α) (.node .leaf none (g (Nat.div (Nat.sub n 1) 2))) (.node (g (Nat.div (Nat.sub n 1) 2)) none .leaf) (Nat.beq (Nat.mod n 2) 1)) (.node .leaf (some x) .leaf) (Nat.beq n 0)) f
def set (t:Tr α) (n:Nat) (x:α):Tr α:=
  @Tr.rec α (λ _=>Nat→Tr α) (λ n=>one x (Nat.succ n) n)
    (λ l v r sl sr n=>@Bool.rec (λ _=>Tr α)
      (@Bool.rec (λ _=>Tr α) (.node l v (sr (Nat.div (Nat.sub n 1) 2))) (.node (sl (Nat.div (Nat.sub n 1) 2)) v r) (Nat.beq (Nat.mod n 2) 1)) (.node l (some x) r) (Nat.beq n 0)) t n
end Tr
structure H where
  next:Nat
  low:Nat
  tr:Tr SObj
abbrev T:=Tr SV
def H.empty:H:=⟨0,0,.leaf⟩
def H.push (h:H) (o:SObj):H:=⟨Nat.succ h.next,h.low,h.tr.set h.next o⟩
def H.put (h:H) (id:Nat) (o:SObj):H:=⟨h.next,min h.low id,h.tr.set id o⟩
def H.mark (h:H) (id:Nat) (o:SObj):H:=⟨h.next,h.low,h.tr.set id o⟩
def H.get (h:H) (id:Nat):Option SObj:=@Bool.rec (λ _=>Option SObj) none (h.tr.get id) (Nat.blt id h.next)
def ofScalar:Value→Option SV
  | .bool b=>some (.bool b)
  | .int k n=>some (.int k n)
  | .float k b=>some (.float k b)
  | .complex k a b=>some (.cpx k a b)
  | .string s=>some (.str s.data.toList)
  | .pointer none=>some .nilptr
  | .slice none 0 0=>some .nilslice
  | .map none=>some .nilmap
  | .nilFunc=>some .nilfunc
  | .nilIface=>some .niliface
  | _=>none
def ofScalars:List Value→Option (List SV)
  | []=>some []
  | v::l=>match ofScalar v,ofScalars l with
    | some x,some xs=>some (x::xs)
    | _,_=>none
def ofConst:Value→Option SV
  | .agg cs=>(ofScalars cs.toList).map .agg
  | v=>ofScalar v
def opd (t:T):Operand→Option SV
  | .tmp n=>t.get n
  | .const v=>ofConst v
  | .global _=>none
  | .func f=>some (.func f [])
def opds (t:T):List Operand→Option (List SV)
  | []=>some []
  | x::l=>match opd t x,opds t l with
    | some v,some vs=>some (v::vs)
    | _,_=>none
def SV.cells?:SV→Option (List SV)
  | .agg cs=>some cs
  | .tuple _=>none
  | v=>some [v]
def zeroOf (P:Program) (t:TypeId):Option SV:=((P.info? t).bind (·.zero)).bind ofConst
def zeroCellsOf (P:Program) (t:TypeId):Option (List SV):=(zeroOf P t).bind SV.cells?
def plainCell (P:Program) (t:TypeId):Bool:=
  match P.underlying t with
  | some .bool | some (.int _) | some .string=>true
  | _=>false
def isAggT (P:Program) (t:TypeId):Bool:=match P.underlying t with
  | some (.struct _) | some (.array _ _)=>true
  | _=>false
def eqBytes:List UInt8→List UInt8→Bool
  | [],[]=>true
  | a::x,b::y=>Nat.beq a.toNat b.toNat&&eqBytes x y
  | _,_=>false
def ltBytes:List UInt8→List UInt8→Bool
  | _,[]=>false
  | [],_::_=>true
  | a::x,b::y=>Nat.blt a.toNat b.toNat || (Nat.beq a.toNat b.toNat&&ltBytes x y)
def eqTyped (d:Option TypeDesc) (x y:SV):Option Bool:=
  match d,x,y with
  | some .bool,.bool a,.bool b=>some (a == b)
  | some (.int _),.int k a,.int k' b=>if k=k' then some (decide (a=b)) else none
  | some .string,.str a,.str b=>some (eqBytes a b)
  | _,_,_=>none
def eqFieldsS (P:Program):List Field→List SV→List SV→Option Bool
  | [],[],[]=>some true
  | f::fs,a::x,b::y=>match eqTyped (P.underlying f.type) a b with
    | some true=>eqFieldsS P fs x y
    | some false=>some false
    | none=>none
  | _,_,_=>none
def plainFields (P:Program):List Field→Nat→Bool
  | [],_=>true
  | f :: l, i => f.name != "_" && Nat.beq f.offset i && plainCell P f.type && Nat.beq (P.cellsOf f.type) 1 && plainFields P l (Nat.succ i)
def plainStruct (P:Program) (t:TypeId):Bool:=
  match P.underlying t with
  | some (.struct fs)=>!P.stoodInHeld t&&plainFields P fs.toList 0
  | _=>false
def cmpInt (op:BinOp) (x y:Int):Option Bool:=
  match op with
  | .eql=>some (decide (x=y))
  | .neq=>some (!decide (x=y))
  | .lss=>some (decide (x < y))
  | .leq=>some (decide (x≤y))
  | .gtr=>some (decide (y < x))
  | .geq=>some (decide (y≤x))
  | _=>none
def arithInt (op:BinOp) (k:IntKind) (x y:Int):Option Int:=
  match op with
  | .add=>some (k.wrap (x+y))
  | .sub=>some (k.wrap (x - y))
  | .mul=>some (k.wrap (x * y))
  | .quo=>if y=0 then none else some (k.wrap (x.tdiv y))
  | .rem=>if y=0 then none else some (x.tmod y)
  | .and=>some (k.wrap (BitVec.ofInt k.bits x &&& BitVec.ofInt k.bits y).toNat)
  | .or=>some (k.wrap (BitVec.ofInt k.bits x ||| BitVec.ofInt k.bits y).toNat)
  | .xor=>some (k.wrap (BitVec.ofInt k.bits x ^^^ BitVec.ofInt k.bits y).toNat)
  | .andNot=>some (k.wrap (BitVec.ofInt k.bits x &&& ~~~ BitVec.ofInt k.bits y).toNat)
  | _=>none
def shiftInt (op:BinOp) (k:IntKind) (x y:Int):Option Int:=
  if y < 0 then none else
  match op with
  | .shl=>some (k.wrap (x * 2 ^ (min y.toNat k.bits)))
  | .shr=>some (x.fdiv (2 ^ (min y.toNat k.bits)))
  | _=>none
def strOp (op:BinOp) (x y:List UInt8):Option SV:=
  match op with
  | .add=>if x.length+y.length≤1099511627776 then some (.str (x++y)) else none
  | .eql=>some (.bool (eqBytes x y))
  | .neq=>some (.bool (!eqBytes x y))
  | .lss=>some (.bool (ltBytes x y))
  | .leq=>some (.bool (ltBytes x y || eqBytes x y))
  | .gtr=>some (.bool (!(ltBytes x y || eqBytes x y)))
  | .geq=>some (.bool (!ltBytes x y))
  | _=>none
def fixedAt (get:Nat→Option SObj) (id off:Nat):Bool:=match get id with
  | some (.cells cs .fixed)=>Nat.blt off cs.length
  | _=>false
def isLit:Operand→Bool
  | .const _=>true
  | _=>false
def eqlS (P:Program) (get:Nat→Option SObj) (lit:Bool) (t:TypeId) (x y:SV):Option Bool:=
  match P.underlying t,x,y with
  | some .bool,.bool a,.bool b=>some (a == b)
  | some (.pointer _),.nilptr,.nilptr=>some true
  | some (.pointer _),.nilptr,.ptr _ _=>some false
  | some (.pointer _),.ptr _ _,.nilptr=>some false
  | some (.pointer e),.ptr a o,.ptr b o'=>if fixedAt get a o&&fixedAt get b o'&&!(Nat.beq (P.cellsOf e) 0) then some (Nat.beq a b&&Nat.beq o o') else none
  | some (.slice _),.nilslice,.nilslice=>some true
  | some (.slice _),.nilslice,.slice ..=>some false
  | some (.slice _),.slice ..,.nilslice=>some false
  | some (.map _ _),.nilmap,.nilmap=>some true
  | some (.map _ _),.nilmap,.map _=>some false
  | some (.map _ _),.map _,.nilmap=>some false
  | some (.func ..),.nilfunc,.nilfunc=>some true
  | some (.func ..),.nilfunc,.func ..=>some false
  | some (.func ..),.func ..,.nilfunc=>some false
  | some (.interface _),.niliface,.niliface=>if lit then some true else none
  | some (.interface _),.niliface,.iface ..=>some false
  | some (.interface _),.iface ..,.niliface=>some false
  | some (.struct fs),.agg a,.agg b=>if plainStruct P t&&!P.eqGuardType P.depth t then eqFieldsS P fs.toList a b else none
  | _,_,_=>none
def binS (P:Program) (get:Nat→Option SObj) (lit:Bool) (op:BinOp) (t:TypeId) (a b:SV):Option SV:=
  match op,a,b with
  | .shl,.int k x,.int _ y=>(shiftInt .shl k x y).map (.int k)
  | .shr,.int k x,.int _ y=>(shiftInt .shr k x y).map (.int k)
  | op,.int k x,.int k' y=>if k=k' then (match cmpInt op x y with
      | some c=>some (.bool c)
      | none=>(arithInt op k x y).map (.int k)) else none
  | op,.str x,.str y=>strOp op x y
  | .eql,x,y=>(eqlS P get lit t x y).map .bool
  | .neq,x,y=>(eqlS P get lit t x y).map λ c=>.bool (!c)
  | _,_,_=>none
def unS (op:UnOp) (x:SV):Option SV:=
  match op,x with
  | .neg,.int k n=>some (.int k (k.wrap (0 - n)))
  | .not,.bool b=>some (.bool !b)
  | _,_=>none
def rowCells (get:Nat→Option SObj) (id:Nat):Option (List SV):=match get id with
  | some (.cells _ .dead)=>none
  | some (.cells cs _)=>some cs
  | _=>none
def takeCells (cs:List SV) (off n:Nat):Option (List SV):=if off+n≤cs.length then some ((cs.drop off).take n) else none
def partS (P:Program) (t:TypeId) (cs:List SV) (off:Nat):Option SV:=
  match P.underlying t with
  | some (.struct _)=>(match takeCells cs off (P.cellsOf t) with
    | some l=>some (.agg l)
    | none=>none)
  | some (.array _ _)=>(match takeCells cs off (P.cellsOf t) with
    | some l=>some (.agg l)
    | none=>none)
  | some _=>cs[off]?
  | none=>none
def bytesOf:List SV→Option (List UInt8)
  | []=>some []
  | .int .u8 n::l=>(bytesOf l).map (UInt8.ofNat n.toNat::·)
  | _=>none
def convS (P:Program) (get:Nat→Option SObj) (s d:TypeId) (x:SV):Option SV:=
  match P.underlying s,P.underlying d,x with
  | some _,some (.int k),.int _ n=>some (.int k (k.wrap n))
  | some _,some .string,.str b=>some (.str b)
  | some (.slice e),some .string,.nilslice=>(match P.underlying e with | some (.int .u8)=>some (.str []) | _=>none)
  | some (.slice e),some .string,.slice id off len _ _=>(match P.underlying e with
      | some (.int .u8)=>((rowCells get id).bind λ cs=>(takeCells cs off len).bind bytesOf).map .str
      | _=>none)
  | _,_,_=>none
def fillAny (place:Nat→Option (Nat × Nat)) (cells:List SV):List (Nat × SV)→Option (List SV)
  | []=>some cells
  | (i,v)::rest=>match place i,v.cells? with
    | some (off,size),some vs=>if vs.length=size∧off+size≤cells.length then fillAny place (cells.take off++(vs++cells.drop (off+size))) rest else none
    | _,_=>none
def fillAsc (place:Nat→Option (Nat × Nat)) (cur:Nat) (cells:List SV):List (Nat × SV)→Option (List SV)
  | []=>some cells
  | (i,v)::rest=>match place i,v.cells? with
    | some (off,size),some vs=>if cur≤off∧vs.length=size∧off - cur+size≤cells.length then
        (match fillAsc place (off+size) (cells.drop (off - cur+size)) rest with
         | some r=>some (cells.take (off - cur)++(vs++r))
         | none=>none) else none
    | _,_=>none
def fillS (place:Nat→Option (Nat × Nat)) (cells:List SV) (parts:List (Nat × SV)):Option (List SV):=
  match fillAsc place 0 cells parts with
  | some r=>some r
  | none=>fillAny place cells parts
def fieldPlaces (P:Program):List Field→Option (List (Nat × Nat))
  | []=>some []
  | f::l=>match P.info? f.type,fieldPlaces P l with
    | some i,some r=>some ((f.offset,i.size)::r)
    | _,_=>none
def repeatCells (z:List SV):Nat→List SV
  | 0=>[]
  | n+1=>z++repeatCells z n
def intNat:SV→Option Nat
  | .int _ n=>if 0≤n then some n.toNat else none
  | _=>none
def boundOf (d:Nat):Option SV→Option Nat
  | none=>some d
  | some v=>intNat v
inductive NR where
  | val (v:SV)
  | new (o:SObj) (mk:Nat→SV)
def sliceStr (s:List UInt8) (lo hi mx:Option SV):Option SV:=match mx with
  | some _=>none
  | none=>match boundOf 0 lo,boundOf s.length hi with
    | some l,some h=>if l≤h∧h≤s.length then some (.str ((s.take h).drop l)) else none
    | _,_=>none
def sliceNil (lo hi mx:Option SV):Option SV:=match mx with
  | none=>(match boundOf 0 lo,boundOf 0 hi with
    | some 0,some 0=>some .nilslice
    | _,_=>none)
  | some m=>(match boundOf 0 lo,hi.bind intNat,intNat m with
    | some 0,some 0,some 0=>some .nilslice
    | _,_,_=>none)
def sliceRow (id off len es:Nat) (cap:Option Nat) (lo hi mx:Option SV):Option SV:=match mx with
  | none=>match boundOf 0 lo,boundOf len hi with
    | some l,some h=>if l≤h∧h≤len then
        (match cap with
         | none=>some (.slice id (off+l * es) (h - l) es none)
         | some c=>if c=l then some (.slice id off 0 es (some 0)) else some (.slice id (off+l * es) (h - l) es (some (c - l)))) else none
    | _,_=>none
  | some m=>match boundOf 0 lo,hi.bind intNat,intNat m with
    | some 0,some 0,some 0=>some (.slice id off 0 es (some 0))
    | _,_,_=>none
def sliceArr (get:Nat→Option SObj) (n es id off:Nat) (lo hi mx:Option SV):Option SV:=match mx with
  | some _=>none
  | none=>match boundOf 0 lo,boundOf n hi,rowCells get id with
    | some l,some h,some cs=>if l≤h∧h≤n∧l < n∧off+n * es≤cs.length then some (.slice id (off+l * es) (h - l) es (some (n - l))) else none
    | _,_,_=>none
def sliceS (P:Program) (get:Nat→Option SObj) (t:TypeId) (x:SV) (lo hi mx:Option SV):Option SV:=
  match P.underlying t,x with
  | some .string,.str s=>sliceStr s lo hi mx
  | some (.slice e),.nilslice=>(match P.info? e with | some _=>sliceNil lo hi mx | none=>none)
  | some (.slice e),.slice id off len es cap=>(match P.info? e with
    | some i=>if i.size=es then sliceRow id off len es cap lo hi mx else none
    | none=>none)
  | some (.array n e),.ptr id off=>(match P.info? e with
    | some i=>sliceArr get n i.size id off lo hi mx
    | none=>none)
  | _,_=>none
def eqKey (P:Program) (t:TypeId) (x y:SV):Option Bool:=
  match P.underlying t,x,y with
  | some (.struct fs),.agg a,.agg b=>eqFieldsS P fs.toList a b
  | d,x,y=>eqTyped d x y
def findEntry (P:Program) (t:TypeId) (k:SV):List (SV × SV × Nat)→Nat→Option (Option (Nat × SV × Nat))
  | [],_=>some none
  | (k',v,b)::es,i=>match eqKey P t k k' with
    | some true=>some (some (i,v,b))
    | some false=>findEntry P t k es (Nat.succ i)
    | none=>none
def keyOk (P:Program) (t:TypeId) (k:SV):Bool:=match P.underlying t,k with
  | some (.struct fs),.agg cs=>plainStruct P t&&Nat.ble fs.toList.length cs.length
  | some .bool,.bool _=>true
  | some (.int _),.int _ _=>true
  | some .string,.str _=>true
  | _,_=>false
def mapOf (get:Nat→Option SObj):SV→Option (List (SV × SV × Nat))
  | .nilmap=>some []
  | .map id=>(match get id with
    | some (.map es _)=>some es
    | _=>none)
  | _=>none
def lookupS (P:Program) (get:Nat→Option SObj) (t:TypeId) (x k:SV) (ok:Bool):Option SV:=
  match P.underlying t with
  | some (.map kt et)=>
    if keyOk P kt k then
      match mapOf get x with
      | some es=>match findEntry P kt k es 0 with
        | some (some (_,v,_))=>some (if ok then .tuple [v,.bool true] else v)
        | some none=>(match zeroOf P et with
          | some z=>some (if ok then .tuple [z,.bool false] else z)
          | none=>none)
        | none=>none
      | none=>none
    else none
  | _=>none
def lenS (P:Program) (get:Nat→Option SObj) (t:TypeId) (x:SV):Option Nat:=
  match P.underlying t,x with
  | some .string,.str s=>some s.length
  | some (.slice _),.slice _ _ n _ _=>some n
  | some (.slice _),.nilslice=>some 0
  | some (.map ..),.nilmap=>some 0
  | some (.map ..),.map id=>(match get id with | some (.map es _)=>some es.length | _=>none)
  | some (.array n _),_=>some n
  | _,_=>none
def maxS (big:Bool):SV→List SV→Option SV
  | x,[]=>some x
  | .int k a,.int k' b::l=>if k=k' then maxS big (.int k (if big then (if b > a then b else a) else (if b < a then b else a))) l else none
  | _,_=>none
def nVal (v:Option SV):Option NR:=match v with
  | some v=>some (.val v)
  | none=>none
def nPick (c a b:Option SV):Option NR:=match c with
  | some (.bool true)=>nVal a
  | some (.bool false)=>nVal b
  | _=>none
def nAlloc (z:Option SV):Option NR:=match z with
  | some z=>match z.cells? with
    | some cs=>some (.new (.cells cs .fixed) (.ptr · 0))
    | none=>none
  | none=>none
def nBuild (P:Program) (ty:TypeId) (ps:List (Nat × Operand)) (t:T):Option NR:=
  match opds t (ps.map (·.2)),zeroCellsOf P ty,P.underlying ty with
  | some vs,some z,some (.struct fs)=>(match fieldPlaces P fs.toList with
    | some pl=>(match fillS (pl[·]?) z ((ps.map (·.1)).zip vs) with
      | some cs=>some (.val (.agg cs))
      | none=>none)
    | none=>none)
  | some vs,some z,some (.array _ el)=>(match P.info? el with
    | some i=>(match fillS (λ k=>some (k * i.size,i.size)) z ((ps.map (·.1)).zip vs) with
      | some cs=>some (.val (.agg cs))
      | none=>none)
    | none=>none)
  | _,_,_=>none
def nBuildSlice (P:Program) (ty:TypeId) (n:Nat) (ps:List (Nat × Operand)) (t:T):Option NR:=
  match P.underlying ty with
  | some (.slice el)=>match opds t (ps.map (·.2)),zeroCellsOf P el,P.info? el with
    | some vs,some z,some i=>if n * i.size≤16777216∧z.length=i.size∧0 < i.size then (match fillS (λ k=>some (k * i.size,i.size)) (repeatCells z n) ((ps.map (·.1)).zip vs) with
        | some cs=>some (.new (.cells cs .fixed) (.slice · 0 n i.size (some n)))
        | none=>none) else none
    | _,_,_=>none
  | _=>none
def nLoad (P:Program) (get:Nat→Option SObj) (ty:TypeId) (x:Option SV):Option NR:=
  match x with
  | some (.ptr id off)=>match rowCells get id with
    | some cs=>nVal (partS P ty cs off)
    | none=>none
  | _=>none
def nNil (x:Option SV):Option NR:=match x with
  | some (.ptr id off)=>some (.val (.ptr id off))
  | some (.func f c)=>some (.val (.func f c))
  | _=>none
def nBin (P:Program) (get:Nat→Option SObj) (lit:Bool) (op:BinOp) (ty:TypeId) (x y:Option SV):Option NR:=
  match x,y with
  | some a,some b=>nVal (binS P get lit op ty a b)
  | _,_=>none
def nUn (op:UnOp) (x:Option SV):Option NR:=match x with
  | some a=>nVal (unS op a)
  | none=>none
def nBytes (P:Program) (el:TypeId) (b:List UInt8):Option NR:=match P.underlying el with
  | some (.int .u8)=>if b.length≤1099511627776 then some (.new (.cells (b.map λ c=>.int .u8 c.toNat) (.grown none)) (.slice · 0 b.length 1 none)) else none
  | _=>none
def nConv (P:Program) (get:Nat→Option SObj) (s d:TypeId) (x:Option SV):Option NR:=
  match x with
  | some (.str b)=>(match P.underlying s,P.underlying d with
    | some .string,some (.slice el)=>nBytes P el b
    | some _,some .string=>some (.val (.str b))
    | _,_=>none)
  | some a=>nVal (convS P get s d a)
  | none=>none
def nIface (P:Program) (ty:TypeId) (x:Option SV):Option NR:=match P.underlying ty,x with
  | some (.interface _),_=>none
  | some _,some v=>some (.val (.iface ty v))
  | _,_=>none
def nFunc (f:FuncId) (vs:Option (List SV)):Option NR:=match vs with
  | some vs=>some (.val (.func f vs))
  | none=>none
def nMakeSlice (P:Program) (ty:TypeId) (l c:Option SV):Option NR:=match P.underlying ty,l,c with
  | some (.slice el),some (.int _ n),some (.int _ m)=>match zeroCellsOf P el,P.info? el with
    | some z,some i=>if 0≤n∧n≤m∧m * ((i.bytes+i.size+1:Nat):Int)≤1099511627776∧z.length=i.size∧0 < i.size then some (.new (.cells (repeatCells z m.toNat) .fixed) (.slice · 0 n.toNat i.size (some m.toNat))) else none
    | _,_=>none
  | _,_,_=>none
def nSlice (P:Program) (get:Nat→Option SObj) (ty:TypeId) (x:Option SV) (lo hi mx:Option (List SV)):Option NR:=match x,lo,hi,mx with
  | some v,some l,some h,some m=>nVal (sliceS P get ty v l.head? h.head? m.head?)
  | _,_,_,_=>none
def nFieldAddr (P:Program) (ty:TypeId) (f:Nat) (x:Option SV):Option NR:=match x,P.underlying ty with
  | some (.ptr id off),some (.struct fs)=>(match fs.toList[f]? with
    | some fd=>(match P.info? fd.type with
      | some i=>if i.size=0 then none else some (.val (.ptr id (off+fd.offset)))
      | none=>none)
    | none=>none)
  | _,_=>none
def nField (P:Program) (ty:TypeId) (f:Nat) (x:Option SV):Option NR:=match x,P.underlying ty with
  | some (.agg cs),some (.struct fs)=>(match fs.toList[f]? with
    | some fd=>nVal (partS P fd.type cs fd.offset)
    | none=>none)
  | _,_=>none
def nIndexAddr (P:Program) (ty:TypeId) (x i:Option SV):Option NR:=match P.underlying ty,x,i.bind intNat with
  | some (.slice el),some (.slice id off len _ _),some k=>(match P.info? el with
    | some i=>if k < len then some (.val (.ptr id (off+k * i.size))) else none
    | none=>none)
  | some (.array len el),some (.ptr id off),some k=>(match P.info? el with
    | some i=>if k < len then some (.val (.ptr id (off+k * i.size))) else none
    | none=>none)
  | _,_,_=>none
def nIndex (P:Program) (ty:TypeId) (x i:Option SV):Option NR:=match P.underlying ty,x,i.bind intNat with
  | some (.array len el),some (.agg cs),some k=>(match P.info? el with
    | some i=>if k < len then nVal (partS P el cs (k * i.size)) else none
    | none=>none)
  | some .string,some (.str s),some k=>(match s[k]? with
    | some b=>some (.val (.int .u8 b.toNat))
    | none=>none)
  | _,_,_=>none
def nLookup (P:Program) (get:Nat→Option SObj) (ty:TypeId) (ok:Bool) (x i:Option SV):Option NR:=match x,i with
  | some m,some k=>nVal (lookupS P get ty m k ok)
  | _,_=>none
def nExtract (i:Nat) (x:Option SV):Option NR:=match x with
  | some (.tuple vs)=>nVal vs[i]?
  | _=>none
def nLen (P:Program) (get:Nat→Option SObj) (tys:List TypeId) (xs:Option (List SV)):Option NR:=match xs,tys with
  | some [x],ty::_=>(match lenS P get ty x with
    | some n=>some (.val (.int .i64 n))
    | none=>none)
  | _,_=>none
def nMax (big:Bool) (xs:Option (List SV)):Option NR:=match xs with
  | some (x::l)=>nVal (maxS big x l)
  | _=>none
def nCall (P:Program) (get:Nat→Option SObj) (t:T) (c:Call):Option NR:=
  match c.callee with
  | .builtin .len=>nLen P get c.argTypes.toList (opds t c.args.toList)
  | .builtin .max=>nMax true (opds t c.args.toList)
  | .builtin .min=>nMax false (opds t c.args.toList)
  | _=>none
def nMakeFunc (fn:Fn) (first captured:List Operand) (t:T):Option NR:=match fn,first with
  | .func f,[]=>nFunc f (opds t captured)
  | _,_=>none
def nMakeMap (r:Option Operand):Option NR:=match r with
  | none=>some (.new (.map [] 0) .map)
  | some _=>none
def opN (P:Program) (get:Nat→Option SObj) (t:T) (o:Op):Option NR:=
  match o with
  | .move x=>nVal (opd t x)
  | .assign x=>nVal (opd t x)
  | .pick c a b=>nPick (opd t c) (opd t a) (opd t b)
  | .alloc ty=>nAlloc (zeroOf P ty)
  | .box _ x=>nAlloc (opd t x)
  | .build ty ps=>nBuild P ty ps.toList t
  | .buildSlice ty n ps=>nBuildSlice P ty n ps.toList t
  | .load ty x=>nLoad P get ty (opd t x)
  | .nilCheck x=>nNil (opd t x)
  | .binOp op ty x y _=>nBin P get (isLit x || isLit y) op ty (opd t x) (opd t y)
  | .unOp op _ x=>nUn op (opd t x)
  | .convert s d x=>nConv P get s d (opd t x)
  | .makeInterface ty x=>nIface P ty (opd t x)
  | .makeFunc fn first captured=>nMakeFunc fn first.toList captured.toList t
  | .makeMap _ r=>nMakeMap r
  | .makeSlice ty l c=>nMakeSlice P ty (opd t l) (opd t c)
  | .slice ty x lo hi mx=>nSlice P get ty (opd t x) (opds t lo.toList) (opds t hi.toList) (opds t mx.toList)
  | .fieldAddr ty x f=>nFieldAddr P ty f (opd t x)
  | .field ty x f=>nField P ty f (opd t x)
  | .indexAddr ty x i=>nIndexAddr P ty (opd t x) (opd t i)
  | .index ty x i=>nIndex P ty (opd t x) (opd t i)
  | .lookup ty x i ok=>nLookup P get ty ok (opd t x) (opd t i)
  | .extract x i=>nExtract i (opd t x)
  | .call c=>nCall P get t c
  | _=>none
def killUp:Nat→H→Option Nat→Option H
  | _,h,none=>some h
  | 0,_,some _=>none
  | f+1,h,some id=>match h.get id with
    | some (.cells _ (.stale par))=>killUp f (h.put id (.cells [] .dead)) par
    | some (.cells _ .dead)=>some h
    | _=>none
def SV.isCell:SV→Bool
  | .agg _=>false
  | .tuple _=>false
  | _=>true
def storeCellsS (h:H) (id off:Nat) (vs:List SV):Option H:=
  match h.get id with
  | some (.cells cs m)=>
    if off+vs.length≤cs.length then
      match m with
      | .fixed=>some (h.put id (.cells (cs.take off++(vs++cs.drop (off+vs.length))) .fixed))
      | .grown par=>(match killUp (Nat.succ id) h par with
        | some h=>some (h.put id (.cells (cs.take off++(vs++cs.drop (off+vs.length))) (.grown none)))
        | none=>none)
      | _=>none
    else none
  | _=>none
def srcCells (get:Nat→Option SObj) (size:Nat) (n:Nat):SV→Option (List SV)
  | .nilslice=>some []
  | .slice id off _ _ _=>(match rowCells get id with
    | some cs=>takeCells cs off (n * size)
    | none=>none)
  | .str s=>if Nat.beq size 1 then some ((s.take n).map λ c=>.int .u8 c.toNat) else none
  | _=>none
def srcLen:SV→Option Nat
  | .nilslice=>some 0
  | .slice _ _ n _ _=>some n
  | .str s=>some s.length
  | _=>none
def growRow (h:H) (id off len es n:Nat) (new:List SV):Option (SV × H):=
  match h.get id with
  | some (.cells cs (.grown par))=>
    if off+len * es=cs.length then
      some (.slice h.next 0 (len+n) es none,(h.mark id (.cells cs (.stale par))).push (.cells (cs.drop off++new) (.grown (some id))))
    else none
  | _=>none
def appendKnown (h:H) (id off len es c n:Nat) (new:List SV):Option (SV × H):=
  if len+n≤c then
    match new with
    | []=>some (.slice id off (len+n) es (some c),h)
    | _=>(match storeCellsS h id (off+len * es) new with
      | some h=>some (.slice id off (len+n) es (some c),h)
      | none=>none)
  else match rowCells h.get id with
    | some cs=>(match takeCells cs off (len * es) with
      | some old=>some (.slice h.next 0 (len+n) es none,h.push (.cells (old++new) (.grown none)))
      | none=>none)
    | none=>none
def zeroOk (i:TypeInfo):Bool:=match i.zero with
  | some z=>Nat.beq z.cells.size i.size
  | none=>false
def appendS (h:H) (i:TypeInfo) (s x:SV):Option (SV × H):=
  match srcLen x with
  | none=>none
  | some n=>match srcCells h.get i.size n x with
    | none=>none
    | some new=>
      match s with
      | .nilslice=>
        if n=0 then some (.nilslice,h)
        else if n * (i.bytes+i.size+1)≤1099511627776∧0 < i.size∧zeroOk i then some (.slice h.next 0 n i.size none,h.push (.cells new (.grown none))) else none
      | .slice id off len es cap=>
        if (len+n) * (i.bytes+i.size+1)≤1099511627776∧es=i.size∧0 < es∧zeroOk i then
          match cap with
          | some c=>appendKnown h id off len es c n new
          | none=>if n=0 then some (.slice id off len es none,h) else growRow h id off len es n new
        else none
      | _=>none
def mapPutS (P:Program) (h:H) (t:TypeId) (m k v:SV):Option H:=
  match P.underlying t,m with
  | some (.map kt _),.map id=>if keyOk P kt k then match h.get id with
    | some (.map es c)=>match findEntry P kt k es 0 with
      | some (some (i,_,b))=>some (h.put id (.map (es.set i (k,v,b)) c))
      | some none=>some (h.put id (.map (es++[(k,v,c)]) (Nat.succ c)))
      | none=>none
    | _=>none
    else none
  | _,_=>none
def mapEntryS (P:Program) (h:H) (t:TypeId) (m k:SV):Option (SV × H):=
  match P.underlying t,m with
  | some (.map kt et),.map id=>if keyOk P kt k then match h.get id with
    | some (.map es c)=>match findEntry P kt k es 0 with
      | some (some (i,v,b))=>some (.tuple [v,.int .i64 b],h.put id (.map (es.set i (k,v,b)) c))
      | some none=>match zeroOf P et with
        | some z=>some (.tuple [z,.int .i64 c],h.put id (.map (es++[(k,z,c)]) (Nat.succ c)))
        | none=>none
      | none=>none
    | _=>none
    else none
  | _,_=>none
def setBorn (b:Int) (v:SV):List (SV × SV × Nat)→Option (List (SV × SV × Nat))
  | []=>none
  | (k,w,c)::es=>if (c:Int)=b then some ((k,v,c)::es) else match setBorn b v es with
    | some r=>some ((k,w,c)::r)
    | none=>none
def entryStoreS (h:H) (m s v:SV):Option H:=
  match m,s with
  | .map id,.int _ b=>match h.get id with
    | some (.map es c)=>(match setBorn b v es with
      | some es=>some (h.put id (.map es c))
      | none=>none)
    | _=>none
  | _,_=>none
inductive MR where
  | val (v:SV) (h:H)
  | call (f:FuncId) (args:List SV)
def mVal (h:Option H):Option MR:=match h with
  | some h=>some (.val (.tuple []) h)
  | none=>none
def mPair (r:Option (SV × H)):Option MR:=match r with
  | some (v,h)=>some (.val v h)
  | none=>none
def mStore (P:Program) (h:H) (ty:TypeId) (a x:Option SV):Option MR:=match a,x with
  | some (.ptr id off),some v=>(match v.cells?,P.info? ty with
    | some vs,some i=>if vs.length=i.size then mVal (storeCellsS h id off vs) else none
    | _,_=>none)
  | _,_=>none
def mMapPut (P:Program) (h:H) (ty:TypeId) (m k v:Option SV):Option MR:=match m,k,v with
  | some m,some k,some v=>mVal (mapPutS P h ty m k v)
  | _,_,_=>none
def mMapEntry (P:Program) (h:H) (ty:TypeId) (m k:Option SV):Option MR:=match m,k with
  | some m,some k=>mPair (mapEntryS P h ty m k)
  | _,_=>none
def mEntryStore (h:H) (m s v:Option SV):Option MR:=match m,s,v with
  | some m,some s,some v=>mVal (entryStoreS h m s v)
  | _,_,_=>none
def mAppend (P:Program) (h:H) (tys:List TypeId) (xs:Option (List SV)):Option MR:=match xs,tys with
  | some [s,x],ty::ux::_=>(match P.underlying ty,P.underlying ux with
    | some (.slice _),some (.int _)=>none
    | some (.slice el),some _=>(match P.info? el with
      | some i=>mPair (appendS h i s x)
      | none=>none)
    | _,_=>none)
  | _,_=>none
def copyTo (h:H) (d:SV) (k:Nat) (new:List SV):Option MR:=match d with
  | .slice id off _ _ _=>(match new with
    | []=>some (.val (.int .i64 k) h)
    | _=>(match storeCellsS h id off new with
      | some h=>some (.val (.int .i64 k) h)
      | none=>none))
  | .nilslice=>some (.val (.int .i64 k) h)
  | _=>none
def mCopy (P:Program) (h:H) (tys:List TypeId) (xs:Option (List SV)):Option MR:=match xs,tys with
  | some [d,x],ty::_=>(match P.underlying ty,srcLen d,srcLen x with
    | some (.slice el),some n,some m=>(match P.info? el with
      | some i=>(match srcCells h.get i.size (min m n) x with
        | some new=>copyTo h d (min m n) new
        | none=>none)
      | none=>none)
    | _,_,_=>none)
  | _,_=>none
def clearTo (h:H) (z:List SV) (x:SV):Option MR:=match x with
  | .slice id off len _ _=>(match repeatCells z len with
    | []=>some (.val (.tuple []) h)
    | new=>mVal (storeCellsS h id off new))
  | .nilslice=>some (.val (.tuple []) h)
  | _=>none
def mClear (P:Program) (h:H) (tys:List TypeId) (xs:Option (List SV)):Option MR:=match xs,tys with
  | some [x],ty::_=>(match P.underlying ty with
    | some (.slice el)=>(match zeroCellsOf P el,P.info? el with
      | some z,some i=>if z.length=i.size∧0 < i.size then clearTo h z x else none
      | _,_=>none)
    | _=>none)
  | _,_=>none
def mCallV (f:Option SV) (xs:Option (List SV)):Option MR:=match f,xs with
  | some (.func f cap),some vs=>some (.call f (vs++cap))
  | _,_=>none
def mCall (P:Program) (h:H) (t:T) (c:Call):Option MR:=
  match c.callee with
  | .value f=>mCallV (opd t f) (opds t c.args.toList)
  | .builtin .append=>mAppend P h c.argTypes.toList (opds t c.args.toList)
  | .builtin .copy=>mCopy P h c.argTypes.toList (opds t c.args.toList)
  | .builtin .clear=>mClear P h c.argTypes.toList (opds t c.args.toList)
  | _=>none
def frozeS (h:H) (x:SV):Option (SV × H):=match x with
  | .slice id off len es cap=>(match Nat.blt 0 len,h.get id with
    | true,some (.cells cs .fixed)=>some (.slice id off len es cap,h.put id (.cells cs (.grown none)))
    | _,_=>none)
  | _=>none
def mConv (P:Program) (h:H) (s d:TypeId) (x:Option SV):Option MR:=match x,P.underlying s,P.underlying d with
  | some v,some (.slice _),some (.slice e)=>(match Nat.beq s d,P.underlying e with
    | true,some (.int .u8)=>mPair (frozeS h v)
    | _,_=>none)
  | _,_,_=>none
def opM (P:Program) (h:H) (t:T) (o:Op):Option MR:=
  match o with
  | .convert s d x=>mConv P h s d (opd t x)
  | .store ty a x=>mStore P h ty (opd t a) (opd t x)
  | .mapUpdate ty m k x=>mMapPut P h ty (opd t m) (opd t k) (opd t x)
  | .insert ty m k x=>mMapPut P h ty (opd t m) (opd t k) (opd t x)
  | .mapEntry ty m k=>mMapEntry P h ty (opd t m) (opd t k)
  | .entryStore _ m s x=>mEntryStore h (opd t m) (opd t s) (opd t x)
  | .call c=>mCall P h t c
  | _=>none
end
end Go.Sh
end
section
/- The shadow machine: regions, code, calls. -/
namespace Go.Sh
noncomputable section
inductive Flow where
  | normal
  | exit (id:Nat)
  | goto (l:Nat)
  | ret
  deriving Inhabited
inductive Job where
  | code (c:Code)
  | within (cur body:Code)
structure Ev where
  job:Job→Nat→T→H→Option (Flow × T × H)
  call:FuncId→List SV→H→Option (SV × H)
def putT (n:Nat) (t:T) (dst:Option Tmp) (v:SV):Option T:=
  match dst with
  | none=>some t
  | some d=>if d < n then some (t.set d v) else none
def yieldedS (ops:List Oper) (t:T) (j:Nat):Option (Option Bool):=
  match (ops[j]?).bind (·.dst) with
  | some d=>match t.get d with
    | some (.bool b)=>some (some b)
    | some _=>some none
    | none=>none
  | none=>some none
def stepN (n:Nat) (dst:Option Tmp) (t:T) (h:H):NR→Option (T × H)
  | .val v=>(putT n t dst v).map (·,h)
  | .new ob mk=>(putT n t dst (mk h.next)).map (·,h.push ob)
def stepV (n:Nat) (dst:Option Tmp) (t:T):Option (SV × H)→Option (T × H)
  | some (v,h)=>(putT n t dst v).map (·,h)
  | none=>none
def runM (e:Ev) (h:H):Option MR→Option (SV × H)
  | some (.val v h')=>some (v,h')
  | some (.call f args)=>e.call f args h
  | none=>none
def lower (m low:Nat):Option (SV × H)→Option (SV × H)
  | some (v,h)=>if h.low < m then none else some (v,⟨h.next,min low m,h.tr⟩)
  | none=>none
def getTo (h:H) (m:Nat) (id:Nat):Option SObj:=if id < m then h.get id else none
def SameP (P:Program) (t:T) (h:H) (op:Op):Prop:=∃ ty a x id off v vs cs i,op=.store ty a x∧opd t a=some (.ptr id off)∧opd t x=some v∧v.cells?=some vs∧P.info? ty=some i∧vs.length=i.size ∧
  h.get id=some (.cells cs .fixed)∧off+vs.length≤cs.length∧cs.take off++(vs++cs.drop (off+vs.length))=cs
open Classical in
noncomputable def runS (P:Program) (e:Ev) (m:Nat) (t:T) (h:H) (op:Op):Option (SV × H):=match lower m h.low (runM e ⟨h.next,m,h.tr⟩ (opM P ⟨h.next,m,h.tr⟩ t op)) with
  | some r=>some r
  | none=>if SameP P t h op then some (.tuple [],h) else none
noncomputable def opStep (P:Program) (e:Ev) (n:Nat) (strict:Option Nat) (o:Oper) (t:T) (h:H):Option (T × H):=
  match strict with
  | none=>match opN P h.get t o.op with
    | some r=>stepN n o.dst t h r
    | none=>stepV n o.dst t (runM e h (opM P h t o.op))
  | some m=>match opN P (getTo h m) t o.op with
    | some r=>stepN n o.dst t h r
    | none=>stepV n o.dst t (runS P e m t h o.op)
def wantedS (ops:List Oper) (t:T) (o:Oper):Option Bool:=
  match o.guard with
  | none=>some true
  | some (j,want)=>match yieldedS ops t j with
    | some (some b)=>some (b == want)
    | some none=>some false
    | none=>none
def kindOf (P:Program) (o:Op):Nat:=match o with
  | .store ..=>2
  | .mapUpdate ..=>2
  | .insert ..=>2
  | .mapEntry ..=>2
  | .entryStore ..=>2
  | .call c=>(match c.callee with
    | .builtin .len=>1
    | .builtin .max=>0
    | .builtin .min=>0
    | _=>2)
  | .load ..=>1
  | .lookup ..=>1
  | .convert s d _=>(match P.underlying s,P.underlying d with
    | some (.slice _),some (.slice _)=>2
    | _,_=>1)
  | .slice ty ..=>(match P.underlying ty with
    | some (.array _ _)=>1
    | _=>0)
  | .binOp op ..=>(match op with
    | .eql=>1
    | .neq=>1
    | _=>0)
  | _=>0
def bindsAny (e:Edge):Bool:=match e.ground with
  | .textOnly _=>false
  | .gcOnly _=>false
  | _=>true
def edgeMask (n tab:Nat) (l:List Edge):Nat:=
  @List.rec Edge (λ _=>Nat) 0 (λ e _ r=>@Bool.rec (λ _=>Nat) r (Nat.lor (Nat.lor (Nat.pow 2 e.on) (Nat.mod (Nat.shiftRight tab (Nat.mul e.on n)) (Nat.pow 2 n))) r) (bindsAny e)) l
structure It where
  idx:Nat
  kind:Nat
  mask:Nat
def items (P:Program) (n:Nat):List Oper→Nat→Nat→List It
  | [],_,_=>[]
  | o::l,i,tab=>
    ⟨i,kindOf P o.op,edgeMask n tab o.after.toList⟩::items P n l (Nat.succ i) (Nat.lor tab (Nat.shiftLeft (edgeMask n tab o.after.toList) (Nat.mul i n)))
def bitAt (m i:Nat):Bool:=Nat.beq (Nat.mod (Nat.shiftRight m i) 2) 1
def ordIt (x y:It):Bool:=@Bool.rec (λ _=>Bool) (bitAt x.mask y.idx) (bitAt y.mask x.idx) (Nat.blt x.idx y.idx)
def chainFrom (x:It):List It→Bool
  | []=>true
  | y::l=>match Nat.beq y.kind 2 with
    | true=>ordIt x y&&chainFrom y l
    | false=>chainFrom x l
def chainOk:List It→Bool
  | []=>true
  | y::l=>match Nat.beq y.kind 2 with
    | true=>chainFrom y l
    | false=>chainOk l
def openTo (x y:It):Bool:=Nat.beq (x.kind+y.kind) 3&&!ordIt x y
inductive PC where
  | free
  | hard
  | soft (mask:Nat)
  | keep (s:Bool) (i:Nat)
def PC.strict:PC→Bool
  | .hard=>true
  | .keep s _=>s
  | _=>false
def hardLook (_:List It) (_:It):Bool:=false
def maskOf (x:It):List It→Nat
  | []=>0
  | z::l=>match openTo x z with
    | true=>Nat.lor (Nat.pow 2 z.idx) (maskOf x l)
    | false=>maskOf x l
def softLook (l:List It) (y:It):Bool:=Nat.beq y.kind 1&&(l.any (openTo y)&&!hardLook l y)
def codeIt (l:List It) (x:It):PC:=match Nat.beq x.kind 0 with
  | true=>.free
  | false=>match Nat.beq x.kind 1 with
    | true=>match l.any (openTo x) with
      | false=>.free
      | true=>match hardLook l x with
        | true=>.hard
        | false=>.soft (maskOf x l)
    | false=>match l.any (softLook l) with
      | true=>.keep (l.any λ y=>openTo x y&&hardLook l y) x.idx
      | false=>match l.any (λ y=>openTo x y&&hardLook l y) with
        | true=>.hard
        | false=>.free
def dstOk (d:Tmp) (x:It):List Oper→List It→Bool
  | o::ops,y::l=>(match o.dst with
    | some e=>!(Nat.beq e d) || Nat.beq x.idx y.idx || ordIt x y
    | none=>true)&&dstOk d x ops l
  | _,_=>true
def guardsOk (ops:List Oper) (l:List It):List Oper→List It→Bool
  | o::os,x::xs=>(match o.guard with
    | none=>true
    | some (j,_)=>match (ops[j]?).bind (·.dst) with
      | some d=>dstOk d x ops l
      | none=>true)&&guardsOk ops l os xs
  | _,_=>true
def drawPlan (P:Program) (ops:List Oper):Option (List PC):=
  let l:=items P ops.length ops 0 0
  match chainOk l&&guardsOk ops l ops l with
  | true=>some (l.map (codeIt l))
  | false=>none
def wantRun (w:Option Bool) (yes:Option (T × H)) (no:Option (T × H)):Option (T × H):=
  match w with
  | some true=>yes
  | some false=>no
  | none=>none
def andThen (r:Option (T × H)) (k:T→H→Option (T × H)):Option (T × H):=
  match r with
  | some (t,h)=>k t h
  | none=>none
def skipT (n:Nat) (dst:Option Tmp) (t:T) (h:H):Option (T × H):=(putT n t dst (.tuple [])).map (·,h)
def headC:List PC→PC
  | c::_=>c
  | []=>.free
def strictC (m:Nat) (c:PC):Option Nat:=match c.strict with
  | true=>some m
  | false=>none
structure Past where
  hs:List (Nat × H)
  fresh:Nat
  /-- looks of which the order to some that turn the heap behind them is open: which, and does it look alike there? -/
  late:List (Nat × (H→Bool))
def Past.next (A:Past) (c:PC) (h h':H) (q:Option (H→Bool)):Past:=match c with
  | .keep _ i=>⟨(i,h)::A.hs,h'.next,A.late⟩
  | .soft mask=>(match q with
    | some f=>⟨A.hs,A.fresh,(mask,f)::A.late⟩
    | none=>A)
  | _=>A
def laterBit:PC→List PC→Bool
  | .soft mask,l=>l.any λ c=>match c with
    | .keep _ i=>bitAt mask i
    | _=>false
  | _,_=>false
open Classical in
noncomputable def lookOf (P:Program) (ops:List Oper) (c:PC) (l:List PC) (o:Oper) (t:T) (h:H):Option (H→Bool):=
  if laterBit c l=true∧wantedS ops t o=some true then some λ h'=>decide (opN P h'.get t o.op=opN P h.get t o.op) else none
def LateP (c:PC) (A:Past) (h':H):Prop:=∀ s i,c=.keep s i→∀ x,x ∈ A.late→bitAt x.1 i=true→x.2 h'=true
def mixTo (g h:H) (mk:Nat) (id:Nat):Option SObj:=if id < g.next then g.get id else if mk≤id then h.get id else none
def SoftP (P:Program) (ops:List Oper) (c:PC) (A:Past) (o:Oper) (t:T) (h:H):Prop:=
  ∀ mask,c=.soft mask→wantedS ops t o=some true→∀ x,x ∈ A.hs→bitAt mask x.1=true→opN P (mixTo x.2 h A.fresh) t o.op=opN P h.get t o.op
open Classical in
noncomputable def runOps (P:Program) (e:Ev) (n m:Nat) (ops:List Oper):List Oper→List PC→Past→T→H→Option (T × H)
  | [],_,_,t,h=>some (t,h)
  | o::l,plan,A,t,h=>if SoftP P ops (headC plan) A o t h then
      andThen (wantRun (wantedS ops t o) (opStep P e n (strictC m (headC plan)) o t h) (skipT n o.dst t h)) λ t' h'=>
        if LateP (headC plan) A h' then runOps P e n m ops l plan.tail (A.next (headC plan) h h' (lookOf P ops (headC plan) plan.tail o t h)) t' h' else none
    else none
def past0 (_:H):Past:=⟨[],0,[]⟩
noncomputable def regionStep (P:Program) (e:Ev) (n:Nat) (a:Array Oper) (draw:Bool) (t:T) (h:H):Option (T × H):=
  if draw then match drawPlan P a.toList with
    | some plan=>runOps P e n h.next a.toList a.toList plan (past0 h) t h
    | none=>none
  else runOps P e n h.next a.toList a.toList [] (past0 h) t h
noncomputable def jobStep (P:Program) (e:Ev) (j:Job) (n:Nat) (t:T) (h:H):Option (Flow × T × H):=
  match j with
  | .within cur body=>match e.job (.code cur) n t h with
    | some (.goto l,t',h')=>match findLabel body l with
      | some rest=>e.job (.within rest body) n t' h'
      | none=>some (.goto l,t',h')
    | r=>r
  | .code c=>match c with
    | .skip=>some (.normal,t,h)
    | .label _=>some (.normal,t,h)
    | .exit id=>some (.exit id,t,h)
    | .goto l=>some (.goto l,t,h)
    | .ret=>some (.ret,t,h)
    | .region _ ops draw=>(regionStep P e n ops draw t h).map λ (t,h)=>(.normal,t,h)
    | .seq a b=>match e.job (.code a) n t h with
      | some (.normal,t',h')=>e.job (.code b) n t' h'
      | r=>r
    | .cond c x y=>match opd t c with
      | some (.bool true)=>e.job (.code x) n t h
      | some (.bool false)=>e.job (.code y) n t h
      | _=>none
    | .block id c=>match e.job (.code c) n t h with
      | some (.exit id',t',h')=>if id'=id then some (.normal,t',h') else some (.exit id',t',h')
      | r=>r
    | .loop c=>match e.job (.code c) n t h with
      | some (.normal,t',h')=>e.job (.code (.loop c)) n t' h'
      | r=>r
    | .scope c=>e.job (.within c c) n t h
    | _=>none
def argsT:List SV→Nat→T→T
  | [],_,t=>t
  | v::l,i,t=>argsT l (i+1) (t.set i v)
def resultS (P:Program) (t:T) (h:H):ResultVar→Option SV
  | .tmp i=>t.get i
  | .cell a ty=>match t.get a with
    | some (.ptr id off)=>(match rowCells h.get id with
      | some cs=>partS P ty cs off
      | none=>none)
    | _=>none
def resultsS (P:Program) (t:T) (h:H):List ResultVar→Option (List SV)
  | []=>some []
  | r::l=>match resultS P t h r,resultsS P t h l with
    | some v,some vs=>some (v::vs)
    | _,_=>none
def oneS:List SV→SV
  | [v]=>v
  | vs=>.tuple vs
def callStep (P:Program) (X:FuncId→Option (List SV→H→Option (SV × H))) (e:Ev) (f:FuncId) (args:List SV) (h:H):Option (SV × H):=
  match X f with
  | some g=>g args h
  | none=>
    match P.funcs[f]? with
    | some fn=>match fn.body with
      | some c=>
        if args.length≤fn.ntmps then
        match e.job (.code c) fn.ntmps (argsT args 0 .leaf) h with
        | some (.normal,t,h') | some (.ret,t,h')=>(resultsS P t h' fn.results.toList).map λ vs=>(oneS vs,h')
        | _=>none
        else none
      | none=>none
    | none=>none
noncomputable def ev (P:Program) (X:FuncId→Option (List SV→H→Option (SV × H))):Nat→Ev
  | 0=>⟨λ _ _ _ _=>none,λ _ _ _=>none⟩
  | n+1=>⟨jobStep P (ev P X n),callStep P X (ev P X n)⟩
end
def codeAt (plan:List PC) (i:Nat):PC:=headC (plan.drop i)
theorem codeAt_of {plan:List PC} {i:Nat} {c:PC} (h:plan[i]?=some c):codeAt plan i=c:=by
  have:plan[i]?=(plan.drop i)[0]?:=by simp
  unfold codeAt
  rw [this] at h
  cases hd:plan.drop i with
  | nil=>rw [hd] at h;simp at h
  | cons b l=>rw [hd] at h;simpa [headC] using h
theorem codeAt_some {plan:List PC} {i:Nat} {c:PC} (h:codeAt plan i=c) (hc:c≠.free):plan[i]?=some c:=by
  have:plan[i]?=(plan.drop i)[0]?:=by simp
  unfold codeAt at h
  rw [this]
  cases hd:plan.drop i with
  | nil=>rw [hd] at h;exact absurd h.symm hc
  | cons b l=>rw [hd] at h;simpa [headC] using h
def sAt (plan:List PC) (i:Nat):Bool:=(codeAt plan i).strict
end Go.Sh
end
