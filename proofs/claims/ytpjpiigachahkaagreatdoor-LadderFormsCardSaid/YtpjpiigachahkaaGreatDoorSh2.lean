/- General laws of the proof: a shadow machine of the form, its soundness, and a compiled form of it. -/
import Derived.Test.YtpjpiigachahkaaGreatDoorSh1
set_option linter.unusedVariables false
set_option linter.unusedSimpArgs false
set_option linter.unusedSectionVars false
section
/- The compiled machine: the program's code with all that is known ahead of a run worked out: no types, no orders; each operation a small function. -/
namespace Go.Sh
noncomputable section
inductive Pth where
 | e
 | l (p:Pth)
 | r (p:Pth)
 deriving Inhabited
def getP (p:Pth):T→Option SV:=
 @Pth.rec (λ _=>T→Option SV) (λ t=>@Tr.rec SV (λ _=>Option SV) none (λ _ v _ _ _=>v) t)
  (λ _ ih t=>@Tr.rec SV (λ _=>Option SV) none (λ l _ _ _ _=>ih l) t)
  (λ _ ih t=>@Tr.rec SV (λ _=>Option SV) none (λ _ _ r _ _=>ih r) t) p
def setP (p:Pth) (x:SV):T→T:=
 @Pth.rec (λ _=>T→T) (λ t=>@Tr.rec SV (λ _=>T) (.node .leaf (some x) .leaf) (λ l _ r _ _=>.node l (some x) r) t)
  (λ _ ih t=>@Tr.rec SV (λ _=>T) (.node (ih .leaf) none .leaf) (λ l v r _ _=>.node (ih l) v r) t)
  (λ _ ih t=>@Tr.rec SV (λ _=>T) (.node .leaf none (ih .leaf)) (λ l v r _ _=>.node l v (ih r)) t) p
def wayN (f:Nat):Nat→Pth:=
 @Nat.rec (λ _=>Nat→Pth) (λ _=>.e)
  (λ _ g n=>@Bool.rec (λ _=>Pth) (@Bool.rec (λ _=>Pth) (.r (g (Nat.div (Nat.sub n 1) 2))) (.l (g (Nat.div (Nat.sub n 1) 2))) (Nat.beq (Nat.mod n 2) 1)) .e (Nat.beq n 0)) f
def way (n:Nat):Pth:=wayN (Nat.succ n) n
def ltI (a b:Int):Bool:=@Int.rec (λ _=>Bool) (λ m=>@Int.rec (λ _=>Bool) (λ n=>Nat.blt m n) (λ _=>false) b) (λ m=>@Int.rec (λ _=>Bool) (λ _=>true) (λ n=>Nat.blt n m) b) a
def eqI (a b:Int):Bool:=@Int.rec (λ _=>Bool) (λ m=>@Int.rec (λ _=>Bool) (λ n=>Nat.beq m n) (λ _=>false) b) (λ m=>@Int.rec (λ _=>Bool) (λ _=>false) (λ n=>Nat.beq m n) b) a
def kNum (k:IntKind):Nat:=@IntKind.rec (λ _=>Nat) 0 1 2 3 4 5 6 7 k
def sameK (k k':IntKind):Bool:=Nat.beq (kNum k) (kNum k')
def wrapS (k:IntKind) (n:Int):Int:=@IntKind.rec (λ _=>Int) (k.wrap n) (k.wrap n) (k.wrap n)
 (@Int.rec (λ _=>Int) (λ m=>@Bool.rec (λ _=>Int) (k.wrap n) (.ofNat m) (Nat.ble m 9223372036854775807)) (λ m=>@Bool.rec (λ _=>Int) (k.wrap n) (.negSucc m) (Nat.ble m 9223372036854775807)) n)
 (@Int.rec (λ _=>Int) (λ m=>@Bool.rec (λ _=>Int) (k.wrap n) (.ofNat m) (Nat.ble m 255)) (λ _=>k.wrap n) n) (k.wrap n) (k.wrap n)
 (@Int.rec (λ _=>Int) (λ m=>@Bool.rec (λ _=>Int) (k.wrap n) (.ofNat m) (Nat.ble m 18446744073709551615)) (λ _=>k.wrap n) n) k
def bO {α β:Type} (x:Option α) (k:α→Option β):Option β:=@Option.rec α (λ _=>Option β) none k x
def bB {β:Type} (c:Bool) (a b:β):β:=@Bool.rec (λ _=>β) b a c
def asI (k:IntKind):SV→Option Int
 | .int k' n=>bB (sameK k' k) (some n) none
 | _=>none
def asInt:SV→Option Int
 | .int _ n=>some n
 | _=>none
def asB:SV→Option Bool
 | .bool b=>some b
 | _=>none
def asS:SV→Option (List UInt8)
 | .str s=>some s
 | _=>none
def asP:SV→Option (Nat × Nat)
 | .ptr id off=>some (id,off)
 | _=>none
def asA:SV→Option (List SV)
 | .agg cs=>some cs
 | _=>none
def intN (n:Int):Option Nat:=@Int.rec (λ _=>Option Nat) (λ m=>some m) (λ _=>none) n
abbrev XF:=T→Option SV
def xW (n:Nat):XF:=getP (way n)
def xC (v:SV):XF:=λ _=>some v
def xL (l:List XF) (t:T):Option (List SV):=@List.rec XF (λ _=>Option (List SV)) (some []) (λ x _ r=>bO (x t) λ v=>bO r λ vs=>some (v::vs)) l
def dropX (off:Nat):List SV→Option (List SV):=@Nat.rec (λ _=>List SV→Option (List SV)) (λ l=>some l) (λ _ ih l=>@List.rec SV (λ _=>Option (List SV)) none (λ _ r _=>ih r) l) off
def takeX (n:Nat):List SV→Option (List SV):=@Nat.rec (λ _=>List SV→Option (List SV)) (λ _=>some []) (λ _ ih l=>@List.rec SV (λ _=>Option (List SV)) none (λ a r _=>bO (ih r) λ q=>some (a::q)) l) n
def idxX (off:Nat):List SV→Option SV:=@Nat.rec (λ _=>List SV→Option SV) (λ l=>@List.rec SV (λ _=>Option SV) none (λ a _ _=>some a) l) (λ _ ih l=>@List.rec SV (λ _=>Option SV) none (λ _ r _=>ih r) l) off
def overX (vs:List SV):List SV→Option (List SV):=@List.rec SV (λ _=>List SV→Option (List SV)) (λ cs=>some cs) (λ v _ ih cs=>@List.rec SV (λ _=>Option (List SV)) none (λ _ r _=>bO (ih r) λ q=>some (v::q)) cs) vs
def layX (vs:List SV) (off:Nat):List SV→Option (List SV):=@Nat.rec (λ _=>List SV→Option (List SV)) (overX vs) (λ _ ih cs=>@List.rec SV (λ _=>Option (List SV)) none (λ a r _=>bO (ih r) λ q=>some (a::q)) cs) off
def hasLen (n:Nat):List SV→Bool:=@Nat.rec (λ _=>List SV→Bool) (λ l=>@List.rec SV (λ _=>Bool) true (λ _ _ _=>false) l) (λ _ ih l=>@List.rec SV (λ _=>Bool) false (λ _ r _=>ih r) l) n
def catX (a b:List SV):List SV:=@List.rec SV (λ _=>List SV) b (λ x _ ih=>x::ih) a
def eqB (a:List UInt8):List UInt8→Bool:=@List.rec UInt8 (λ _=>List UInt8→Bool) (λ b=>@List.rec UInt8 (λ _=>Bool) true (λ _ _ _=>false) b)
 (λ x _ ih b=>@List.rec UInt8 (λ _=>Bool) false (λ y r _=>bB (Nat.beq x.toNat y.toNat) (ih r) false) b) a
inductive KD where
 | bool
 | int
 | str
 deriving Inhabited
def eqKD:KD→SV→SV→Option Bool
 | .bool,.bool a,.bool b=>some (a == b)
 | .int,.int k a,.int k' b=>bB (sameK k k') (some (eqI a b)) none
 | .str,.str a,.str b=>some (eqB a b)
 | _,_,_=>none
def eqKs:List KD→List SV→List SV→Option Bool
 | [],[],[]=>some true
 | q::qs,a::x,b::y=>bO (eqKD q a b) λ c=>bB c (eqKs qs x y) (some false)
 | _,_,_=>none
inductive KKey where
 | one (q:KD)
 | many (qs:List KD)
 deriving Inhabited
def eqKK:KKey→SV→SV→Option Bool
 | .one q,x,y=>eqKD q x y
 | .many qs,.agg a,.agg b=>eqKs qs a b
 | _,_,_=>none
def okKK:KKey→SV→Bool
 | .one .bool,.bool _=>true
 | .one .int,.int _ _=>true
 | .one .str,.str _=>true
 | .many qs,.agg cs=>Nat.ble qs.length cs.length
 | _,_=>false
def kfind (q:KKey) (k:SV) (es:List (SV × SV × Nat)):Nat→Option (Option (Nat × SV × Nat)):=
 @List.rec (SV × SV × Nat) (λ _=>Nat→Option (Option (Nat × SV × Nat))) (λ _=>some none)
  (λ x _ r i=>bO (eqKK q k x.1) λ c=>bB c (some (some (i,x.2.1,x.2.2))) (r (Nat.succ i))) es
inductive KEq where
 | bool
 | ptr (sized:Bool)
 | slice
 | map
 | func
 | iface (lit:Bool)
 | struct (qs:List KD)
 deriving Inhabited
def keq (get:Nat→Option SObj):KEq→SV→SV→Option Bool
 | .bool,.bool a,.bool b=>some (a == b)
 | .ptr _,.nilptr,.nilptr=>some true
 | .ptr _,.nilptr,.ptr _ _=>some false
 | .ptr _,.ptr _ _,.nilptr=>some false
 | .ptr s,.ptr a o,.ptr b o'=>if fixedAt get a o&&fixedAt get b o'&&s then some (Nat.beq a b&&Nat.beq o o') else none
 | .slice,.nilslice,.nilslice=>some true
 | .slice,.nilslice,.slice ..=>some false
 | .slice,.slice ..,.nilslice=>some false
 | .map,.nilmap,.nilmap=>some true
 | .map,.nilmap,.map _=>some false
 | .map,.map _,.nilmap=>some false
 | .func,.nilfunc,.nilfunc=>some true
 | .func,.nilfunc,.func ..=>some false
 | .func,.func ..,.nilfunc=>some false
 | .iface lit,.niliface,.niliface=>if lit then some true else none
 | .iface _,.niliface,.iface ..=>some false
 | .iface _,.iface ..,.niliface=>some false
 | .struct qs,.agg a,.agg b=>eqKs qs a b
 | _,_,_=>none
def kpart (s:Option Nat) (cs:List SV) (off:Nat):Option SV:=@Option.rec Nat (λ _=>Option SV) (idxX off cs) (λ n=>bO (dropX off cs) λ r=>bO (takeX n r) λ l=>some (.agg l)) s
def kcat (sizes:List Nat):List SV→Option (List SV):=@List.rec Nat (λ _=>List SV→Option (List SV)) (λ l=>@List.rec SV (λ _=>Option (List SV)) (some []) (λ _ _ _=>none) l)
 (λ n _ ih l=>@List.rec SV (λ _=>Option (List SV)) none (λ v r _=>bO v.cells? λ cs=>bB (hasLen n cs) (bO (ih r) λ q=>some (catX cs q)) none) l) sizes
def kfillV (z:List SV) (pl:List (Nat × Nat)) (vs:List SV):Option (List SV):=fillS (pl[·]?) z ((List.range vs.length).zip vs)
def i2 (k:IntKind) (x y:XF) (f:Int→Int→SV):XF:=λ t=>bO (x t) λ u=>bO (y t) λ v=>bO (asI k u) λ a=>bO (asI k v) λ b=>some (f a b)
def vAdd (k:IntKind) (x y:XF):XF:=i2 k x y λ a b=>.int k (wrapS k (a+b))
def vSub (k:IntKind) (x y:XF):XF:=i2 k x y λ a b=>.int k (wrapS k (a - b))
def vMul (k:IntKind) (x y:XF):XF:=i2 k x y λ a b=>.int k (wrapS k (a * b))
def vLt (k:IntKind) (x y:XF):XF:=i2 k x y λ a b=>.bool (ltI a b)
def vLe (k:IntKind) (x y:XF):XF:=i2 k x y λ a b=>.bool (!ltI b a)
def vGt (k:IntKind) (x y:XF):XF:=i2 k x y λ a b=>.bool (ltI b a)
def vGe (k:IntKind) (x y:XF):XF:=i2 k x y λ a b=>.bool (!ltI a b)
def vEq (k:IntKind) (x y:XF):XF:=i2 k x y λ a b=>.bool (eqI a b)
def vNe (k:IntKind) (x y:XF):XF:=i2 k x y λ a b=>.bool (!eqI a b)
def vAr (op:BinOp) (k:IntKind) (x y:XF):XF:=λ t=>bO (x t) λ u=>bO (y t) λ v=>bO (asI k u) λ a=>bO (asI k v) λ b=>bO (arithInt op k a b) λ c=>some (.int k c)
def vSh (op:BinOp) (k:IntKind) (x y:XF):XF:=λ t=>bO (x t) λ u=>bO (y t) λ v=>bO (asI k u) λ a=>bO (asInt v) λ b=>bO (shiftInt op k a b) λ c=>some (.int k c)
def vSEq (x y:XF):XF:=λ t=>bO (x t) λ u=>bO (y t) λ v=>bO (asS u) λ a=>bO (asS v) λ b=>some (.bool (eqB a b))
def vSNe (x y:XF):XF:=λ t=>bO (x t) λ u=>bO (y t) λ v=>bO (asS u) λ a=>bO (asS v) λ b=>some (.bool (!eqB a b))
def vStr (op:BinOp) (x y:XF):XF:=λ t=>bO (x t) λ u=>bO (y t) λ v=>bO (asS u) λ a=>bO (asS v) λ b=>strOp op a b
def vPick (c a b:XF):XF:=λ t=>bO (c t) λ u=>bO (asB u) λ q=>bB q (a t) (b t)
def vUn (op:UnOp) (x:XF):XF:=λ t=>bO (x t) λ u=>unS op u
def vToI (k:IntKind) (x:XF):XF:=λ t=>bO (x t) λ u=>bO (asInt u) λ n=>some (.int k (wrapS k n))
def vStrId (x:XF):XF:=λ t=>bO (x t) λ u=>bO (asS u) λ s=>some (.str s)
def vCat (sizes:List Nat) (xs:List XF):XF:=λ t=>bO (xL xs t) λ vs=>bO (kcat sizes vs) λ cs=>some (.agg cs)
def vFill (z:List SV) (pl:List (Nat × Nat)) (xs:List XF):XF:=λ t=>bO (xL xs t) λ vs=>bO (kfillV z pl vs) λ cs=>some (.agg cs)
def vIface (ty:TypeId) (x:XF):XF:=λ t=>bO (x t) λ u=>some (.iface ty u)
def vFunc (f:FuncId) (xs:List XF):XF:=λ t=>bO (xL xs t) λ vs=>some (.func f vs)
def vSliceS (x:XF) (lo hi:List XF):XF:=λ t=>bO (x t) λ u=>bO (asS u) λ s=>bO (xL lo t) λ l=>bO (xL hi t) λ h=>sliceStr s l.head? h.head? none
def kslice (size:Nat) (v:SV) (lo hi mx:Option SV):Option SV:=match v with
 | .nilslice=>sliceNil lo hi mx
 | .slice id off len es cap=>if size=es then sliceRow id off len es cap lo hi mx else none
 | _=>none
def vSlice (size:Nat) (x:XF) (lo hi mx:List XF):XF:=λ t=>bO (x t) λ u=>bO (xL lo t) λ l=>bO (xL hi t) λ h=>bO (xL mx t) λ m=>kslice size u l.head? h.head? m.head?
def vAddr (off:Nat) (x:XF):XF:=λ t=>bO (x t) λ u=>bO (asP u) λ p=>some (.ptr p.1 (p.2+off))
def vField (s:Option Nat) (off:Nat) (x:XF):XF:=λ t=>bO (x t) λ u=>bO (asA u) λ cs=>kpart s cs off
def atIdx (size:Nat) (k:Nat):SV→Option SV
 | .slice id off len _ _=>bB (Nat.blt k len) (some (.ptr id (off+k * size))) none
 | _=>none
def vIdx (size:Nat) (x i:XF):XF:=λ t=>bO (x t) λ u=>bO (i t) λ j=>bO (asInt j) λ n=>bO (intN n) λ k=>atIdx size k u
def vIdxP (len size:Nat) (x i:XF):XF:=λ t=>bO (x t) λ u=>bO (asP u) λ p=>bO (i t) λ j=>bO (asInt j) λ n=>bO (intN n) λ k=>bB (Nat.blt k len) (some (.ptr p.1 (p.2+k * size))) none
def vIdxA (len size:Nat) (s:Option Nat) (x i:XF):XF:=λ t=>bO (x t) λ u=>bO (asA u) λ cs=>bO (i t) λ j=>bO (asInt j) λ n=>bO (intN n) λ k=>bB (Nat.blt k len) (kpart s cs (k * size)) none
def vIdxS (x i:XF):XF:=λ t=>bO (x t) λ u=>bO (asS u) λ s=>bO (i t) λ j=>bO (asInt j) λ n=>bO (intN n) λ k=>bO s[k]? λ b=>some (.int .u8 b.toNat)
def vExtract (i:Nat) (x:XF):XF:=λ t=>bO (x t) λ u=>match u with
 | .tuple vs=>vs[i]?
 | _=>none
def vLenS (x:XF):XF:=λ t=>bO (x t) λ u=>bO (asS u) λ s=>some (.int .i64 s.length)
def lenV:SV→Option Nat
 | .slice _ _ n _ _=>some n
 | .nilslice=>some 0
 | _=>none
def vLen (x:XF):XF:=λ t=>bO (x t) λ u=>bO (lenV u) λ n=>some (.int .i64 n)
def vLenA (n:Nat) (x:XF):XF:=λ t=>bO (x t) λ _=>some (.int .i64 n)
def vMax (big:Bool) (xs:List XF):XF:=λ t=>bO (xL xs t) λ vs=>match vs with
 | v::l=>maxS big v l
 | []=>none
def nilV:SV→Option SV
 | .ptr id off=>some (.ptr id off)
 | .func f c=>some (.func f c)
 | _=>none
def vNil (x:XF):XF:=λ t=>bO (x t) nilV
abbrev LF:=(Nat→Option SObj)→T→Option SV
def lLoad (s:Option Nat) (x:XF):LF:=λ g t=>bO (x t) λ u=>bO (asP u) λ p=>bO (rowCells g p.1) λ cs=>kpart s cs p.2
def lEq (q:KEq) (x y:XF):LF:=λ g t=>bO (x t) λ a=>bO (y t) λ b=>bO (keq g q a b) λ c=>some (.bool c)
def lNe (q:KEq) (x y:XF):LF:=λ g t=>bO (x t) λ a=>bO (y t) λ b=>bO (keq g q a b) λ c=>some (.bool (!c))
def strOf (g:Nat→Option SObj):SV→Option SV
 | .nilslice=>some (.str [])
 | .slice id off len _ _=>bO (rowCells g id) λ cs=>bO (dropX off cs) λ r=>bO (takeX len r) λ l=>bO (bytesOf l) λ b=>some (.str b)
 | _=>none
def lToStr (x:XF):LF:=λ g t=>bO (x t) (strOf g)
def lSliceA (n size:Nat) (x:XF) (lo hi mx:List XF):LF:=λ g t=>bO (x t) λ u=>bO (asP u) λ p=>bO (xL lo t) λ l=>bO (xL hi t) λ h=>bO (xL mx t) λ m=>sliceArr g n size p.1 p.2 l.head? h.head? m.head?
def klookup (g:Nat→Option SObj) (q:KKey) (z:Option SV) (ok:Bool) (x k:SV):Option SV:=
 bB (okKK q k) (bO (mapOf g x) λ es=>bO (kfind q k es 0) λ r=>match r with
  | some (_,v,_)=>some (bB ok (.tuple [v,.bool true]) v)
  | none=>bO z λ z=>some (bB ok (.tuple [z,.bool false]) z)) none
def lLookup (q:KKey) (z:Option SV) (ok:Bool) (x i:XF):LF:=λ g t=>bO (x t) λ m=>bO (i t) λ k=>klookup g q z ok m k
def lenM (g:Nat→Option SObj):SV→Option Nat
 | .nilmap=>some 0
 | .map id=>(match g id with
  | some (.map es _)=>some es.length
  | _=>none)
 | _=>none
def lLenM (x:XF):LF:=λ g t=>bO (x t) λ u=>bO (lenM g u) λ n=>some (.int .i64 n)
abbrev NF:=T→Option NR
def aAlloc (z:List SV):NF:=λ _=>some (.new (.cells z .fixed) (.ptr · 0))
def aBox (x:XF):NF:=λ t=>bO (x t) λ u=>bO u.cells? λ cs=>some (.new (.cells cs .fixed) (.ptr · 0))
def aRow (n size:Nat) (sizes:List Nat) (xs:List XF):NF:=λ t=>bO (xL xs t) λ vs=>bO (kcat sizes vs) λ cs=>some (.new (.cells cs .fixed) (.slice · 0 n size (some n)))
def aRowFill (n size:Nat) (z:List SV) (pl:List (Nat × Nat)) (xs:List XF):NF:=λ t=>bO (xL xs t) λ vs=>bO (kfillV (repeatCells z n) pl vs) λ cs=>some (.new (.cells cs .fixed) (.slice · 0 n size (some n)))
def aToBytes (x:XF):NF:=λ t=>bO (x t) λ u=>bO (asS u) λ b=>bB (Nat.ble b.length 1099511627776) (some (.new (.cells (b.map λ c=>.int .u8 c.toNat) (.grown none)) (.slice · 0 b.length 1 none))) none
def aNewMap:NF:=λ _=>some (.new (.map [] 0) .map)
def aMakeSlice (bytes size:Nat) (z:List SV) (l c:XF):NF:=λ t=>bO (l t) λ u=>bO (c t) λ v=>bO (asInt u) λ n=>bO (asInt v) λ m=>bO (intN n) λ n=>bO (intN m) λ m=>
 bB (Nat.ble n m&&Nat.ble (m * (bytes+size+1)) 1099511627776) (some (.new (.cells (repeatCells z m) .fixed) (.slice · 0 n size (some m)))) none
def storeX (h:H) (id off:Nat) (vs:List SV):Option H:=match h.get id with
 | some (.cells cs m)=>bO (layX vs off cs) λ cs=>(match m with
  | .fixed=>some (h.put id (.cells cs .fixed))
  | .grown par=>bO (killUp (Nat.succ id) h par) λ h=>some (h.put id (.cells cs (.grown none)))
  | _=>none)
 | _=>none
abbrev MF:=H→T→Option (SV × H)
def kmapPut (h:H) (q:KKey) (k v:SV):SV→Option H
 | .map id=>bB (okKK q k) (match h.get id with
  | some (.map es c)=>bO (kfind q k es 0) λ r=>(match r with
   | some (i,_,b)=>some (h.put id (.map (es.set i (k,v,b)) c))
   | none=>some (h.put id (.map (es++[(k,v,c)]) (Nat.succ c))))
  | _=>none) none
 | _=>none
def kmapEntry (h:H) (q:KKey) (z:Option SV) (k:SV):SV→Option (SV × H)
 | .map id=>bB (okKK q k) (match h.get id with
  | some (.map es c)=>bO (kfind q k es 0) λ r=>(match r with
   | some (i,v,b)=>some (.tuple [v,.int .i64 b],h.put id (.map (es.set i (k,v,b)) c))
   | none=>bO z λ z=>some (.tuple [z,.int .i64 c],h.put id (.map (es++[(k,z,c)]) (Nat.succ c))))
  | _=>none) none
 | _=>none
def kappend (h:H) (bytes size:Nat) (n:Nat) (new:List SV):SV→Option (SV × H)
 | .nilslice=>bB (Nat.beq n 0) (some (.nilslice,h)) (bB (Nat.ble (n * (bytes+size+1)) 1099511627776) (some (.slice h.next 0 n size none,h.push (.cells new (.grown none)))) none)
 | .slice id off len es cap=>bB (Nat.ble ((len+n) * (bytes+size+1)) 1099511627776&&Nat.beq es size)
   (match cap with
    | some c=>appendKnown h id off len es c n new
    | none=>bB (Nat.beq n 0) (some (.slice id off len es none,h)) (growRow h id off len es n new)) none
 | _=>none
def tStore (size:Nat) (a x:XF):MF:=λ h t=>bO (a t) λ u=>bO (asP u) λ p=>bO (x t) λ v=>bO v.cells? λ vs=>bB (hasLen size vs) (bO (storeX h p.1 p.2 vs) λ h=>some (.tuple [],h)) none
def tMapPut (q:KKey) (m k v:XF):MF:=λ h t=>bO (m t) λ m=>bO (k t) λ k=>bO (v t) λ v=>bO (kmapPut h q k v m) λ h=>some (.tuple [],h)
def tMapEntry (q:KKey) (z:Option SV) (m k:XF):MF:=λ h t=>bO (m t) λ m=>bO (k t) λ k=>kmapEntry h q z k m
def tFroze (x:XF):MF:=λ h t=>bO (x t) λ u=>frozeS h u
def tEntryStore (m s v:XF):MF:=λ h t=>bO (m t) λ m=>bO (s t) λ s=>bO (v t) λ v=>bO (entryStoreS h m s v) λ h=>some (.tuple [],h)
def tAppend (bytes size:Nat) (s x:XF):MF:=λ h t=>bO (s t) λ s=>bO (x t) λ x=>bO (srcLen x) λ n=>bO (srcCells h.get size n x) λ new=>kappend h bytes size n new s
def copyS (h:H) (d:SV) (k:Nat) (new:List SV):Option (SV × H):=match d with
 | .slice id off _ _ _=>(match new with
  | []=>some (.int .i64 k,h)
  | _=>bO (storeX h id off new) λ h=>some (.int .i64 k,h))
 | .nilslice=>some (.int .i64 k,h)
 | _=>none
def tCopy (size:Nat) (d x:XF):MF:=λ h t=>bO (d t) λ d=>bO (x t) λ x=>bO (srcLen d) λ n=>bO (srcLen x) λ m=>bO (srcCells h.get size (min m n) x) λ new=>copyS h d (min m n) new
def clearS (h:H) (z:List SV) (x:SV):Option (SV × H):=match x with
 | .slice id off len _ _=>(match repeatCells z len with
  | []=>some (.tuple [],h)
  | new=>bO (storeX h id off new) λ h=>some (.tuple [],h))
 | .nilslice=>some (.tuple [],h)
 | _=>none
def tClear (z:List SV) (x:XF):MF:=λ h t=>bO (x t) λ u=>clearS h z u
abbrev CF:=FuncId→List SV→H→Option (SV × H)
abbrev FR:=Option (Flow × T × H)
abbrev SF:=CF→Nat→T→H→(SV→H→FR)→FR
def on2 (r:Option (SV × H)) (k:SV→H→FR):FR:=bO r λ p=>@Prod.rec SV H (λ _=>FR) k p
def sV (f:XF):SF:=λ _ _ t h k=>bO (f t) λ v=>k v h
def sL (f:LF):SF:=λ _ _ t h k=>bO (f h.get t) λ v=>k v h
def sLs (f:LF):SF:=λ _ m t h k=>bO (f (getTo h m) t) λ v=>k v h
def eqS1:SV→SV→Bool
 | .bool a,.bool b=>a == b
 | .int k a,.int k' b=>sameK k k'&&eqI a b
 | .str a,.str b=>eqB a b
 | .nilptr,.nilptr=>true
 | .ptr a o,.ptr b o'=>Nat.beq a b&&Nat.beq o o'
 | .nilslice,.nilslice=>true
 | .slice a o n s none,.slice b o' n' s' none=>Nat.beq a b&&(Nat.beq o o'&&(Nat.beq n n'&&Nat.beq s s'))
 | .slice a o n s (some c),.slice b o' n' s' (some c')=>Nat.beq a b&&(Nat.beq o o'&&(Nat.beq n n'&&(Nat.beq s s'&&Nat.beq c c')))
 | .nilmap,.nilmap=>true
 | .map a,.map b=>Nat.beq a b
 | .nilfunc,.nilfunc=>true
 | .niliface,.niliface=>true
 | _,_=>false
def eqSL:List SV→List SV→Bool
 | [],[]=>true
 | a::l,b::r=>eqS1 a b&&eqSL l r
 | _,_=>false
def eqSV:SV→SV→Bool
 | .agg a,.agg b=>eqSL a b
 | .tuple a,.tuple b=>eqSL a b
 | a,b=>eqS1 a b
def sameV (f:LF) (h:H) (fresh:Nat) (t:T) (v:SV):List H→Bool
 | []=>true
 | g::l=>match f (mixTo g h fresh) t with
  | some u=>eqSV u v&&sameV f h fresh t v l
  | none=>false
def sLo (gs:List H) (fresh:Nat) (f:LF):SF:=λ _ _ t h k=>bO (f h.get t) λ v=>bB (sameV f h fresh t v gs) (k v h) none
def sN (f:NF):SF:=λ _ _ t h k=>bO (f t) λ r=>@NR.rec (λ _=>FR) (λ v=>k v h) (λ ob mk=>k (mk h.next) (h.push ob)) r
def sM (f:MF):SF:=λ _ _ t h k=>on2 (f h t) k
def sMs (f:MF):SF:=λ _ m t h k=>on2 (lower m h.low (f ⟨h.next,m,h.tr⟩ t)) k
def sC (f:FuncId) (xs:List XF):SF:=λ c _ t h k=>bO (xL xs t) λ vs=>on2 (c f vs h) k
def sameSt (size:Nat) (a x:XF):H→T→Bool:=λ h t=>match a t,x t with
 | some (.ptr id off),some v=>(match v.cells?,h.get id with
  | some vs,some (.cells cs .fixed)=>hasLen size vs&&(match layX vs off cs with
   | some cs'=>eqSL cs' cs
   | none=>false)
  | _,_=>false)
 | _,_=>false
def sMt (q:H→T→Bool) (f:MF):SF:=λ _ m t h k=>match f ⟨h.next,m,h.tr⟩ t with
 | some (v,h1)=>bB (Nat.blt h1.low m) (bB (q h t) (k (.tuple []) h) none) (k v ⟨h1.next,min h.low m,h1.tr⟩)
 | none=>none
def sCs (f:FuncId) (xs:List XF):SF:=λ c m t h k=>bO (xL xs t) λ vs=>on2 (lower m h.low (c f vs ⟨h.next,m,h.tr⟩)) k
def asF:SV→Option (FuncId × List SV)
 | .func f c=>some (f,c)
 | _=>none
def sX (f:XF) (xs:List XF):SF:=λ c _ t h k=>bO (f t) λ u=>bO (asF u) λ p=>bO (xL xs t) λ vs=>on2 (c p.1 (vs++p.2) h) k
def sXs (f:XF) (xs:List XF):SF:=λ c m t h k=>bO (f t) λ u=>bO (asF u) λ p=>bO (xL xs t) λ vs=>on2 (lower m h.low (c p.1 (vs++p.2) ⟨h.next,m,h.tr⟩)) k
def isB (w:Bool):SV→Bool
 | .bool b=>b == w
 | _=>false
def sG (x:XF) (w:Bool) (s:SF):SF:=λ c m t h k=>bO (x t) λ b=>bB (isB w b) (s c m t h k) (k (.tuple []) h)
abbrev OF:=CF→Nat→T→H→(T→H→FR)→FR
def oSet (d:Nat) (s:SF) (r:SV→OF):OF:=λ c m t h k=>s c m t h λ v h=>r v c m (setP (way d) v t) h k
def oLet (s:SF) (r:SV→OF):OF:=λ c m t h k=>s c m t h λ v h=>r v c m t h k
def oDo (s:SF) (r:OF):OF:=λ c m t h k=>s c m t h λ _ h=>r c m t h k
def oCap (r:H→OF):OF:=λ c m t h k=>r h c m t h k
def seeL (f:LF):T→H→H→Bool:=λ t h h'=>match f h.get t,f h'.get t with
 | some u,some v=>eqSV u v
 | _,_=>false
def seeV (f:XF):T→H→H→Bool:=λ t _ _=>match f t with
 | some _=>true
 | none=>false
def seeN (f:NF):T→H→H→Bool:=λ t _ _=>match f t with
 | some _=>true
 | none=>false
def seeNo:T→H→H→Bool:=λ _ _ _=>false
def seeG (x:XF) (w:Bool) (q:T→H→H→Bool):T→H→H→Bool:=λ t h h'=>match x t with
 | some b=>bB (isB w b) (q t h h') true
 | none=>false
def oSee (q:T→H→H→Bool) (r:(H→Bool)→OF):OF:=λ c m t h k=>r (q t h) c m t h k
def allH (h:H):List (H→Bool)→Bool
 | []=>true
 | f::l=>f h&&allH h l
def oLate (l:List (H→Bool)) (r:OF):OF:=λ c m t h k=>bB (allH h l) (r c m t h k) none
def oEnd:OF:=λ _ _ t h k=>k t h
def oNo:OF:=λ _ _ _ _ _=>none
abbrev Cd:=Nat→CF→T→H→FR
def knext (r:FR) (k:T→H→FR):FR:=match r with
 | some (.normal,t,h)=>k t h
 | some (.exit id,t,h)=>some (.exit id,t,h)
 | some (.goto l,t,h)=>some (.goto l,t,h)
 | some (.ret,t,h)=>some (.ret,t,h)
 | none=>none
def kjump (r:FR) (k:Nat→T→H→FR):FR:=match r with
 | some (.goto l,t,h)=>k l t h
 | some (.exit id,t,h)=>some (.exit id,t,h)
 | some (.normal,t,h)=>some (.normal,t,h)
 | some (.ret,t,h)=>some (.ret,t,h)
 | none=>none
def kleave (id:Nat) (r:FR):FR:=match r with
 | some (.exit id',t,h)=>bB (Nat.beq id' id) (some (.normal,t,h)) (some (.exit id',t,h))
 | some (.goto l,t,h)=>some (.goto l,t,h)
 | some (.normal,t,h)=>some (.normal,t,h)
 | some (.ret,t,h)=>some (.ret,t,h)
 | none=>none
def kbranch (c:Option SV) (a b:FR):FR:=bO c λ v=>bO (asB v) λ q=>bB q a b
def cNo:Cd:=λ _ _ _ _=>none
def cSkip:Cd:=λ _ _ t h=>some (.normal,t,h)
def cRet:Cd:=λ _ _ t h=>some (.ret,t,h)
def cExit (id:Nat):Cd:=λ _ _ t h=>some (.exit id,t,h)
def cGoto (l:Nat):Cd:=λ _ _ t h=>some (.goto l,t,h)
def cOps (o:OF):Cd:=λ _ c t h=>o c h.next t h λ t h=>some (.normal,t,h)
def cSeq (a b:Cd):Cd:=λ n c t h=>knext (a n c t h) (b n c)
def cCond (x:XF) (a b:Cd):Cd:=λ n c t h=>kbranch (x t) (a n c t h) (b n c t h)
def cBlock (id:Nat) (a:Cd):Cd:=λ n c t h=>kleave id (a n c t h)
def cLoop (a:Cd):Cd:=λ n c=>@Nat.rec (λ _=>T→H→FR) (λ _ _=>none) (λ k ih t h=>knext (a (Nat.succ k) c t h) ih) n
def behind (ls:List (Nat × Cd)) (l:Nat):Option Cd:=match ls with
 | []=>none
 | x::r=>bB (Nat.beq x.1 l) (some x.2) (behind r l)
def kscope (ls:List (Nat × Cd)) (n:Nat) (c:CF):Cd→T→H→FR:=@Nat.rec (λ _=>Cd→T→H→FR) (λ _ _ _=>none)
 (λ k ih a t h=>kjump (a (Nat.succ k) c t h) λ l t h=>match behind ls l with
  | some b=>ih b t h
  | none=>none) n
def cScope (a:Cd) (ls:List (Nat × Cd)):Cd:=λ n c=>kscope ls n c a
inductive RF where
 | tmp (p:Pth)
 | cell (p:Pth) (s:Option Nat)
def kres (t:T) (h:H):RF→Option SV
 | .tmp p=>getP p t
 | .cell p s=>bO (getP p t) λ u=>bO (asP u) λ a=>bO (rowCells h.get a.1) λ cs=>kpart s cs a.2
def kresL (t:T) (h:H) (l:List RF):Option (List SV):=@List.rec RF (λ _=>Option (List SV)) (some []) (λ r _ q=>bO (kres t h r) λ v=>bO q λ vs=>some (v::vs)) l
structure KF where
 slots:List Pth
 body:Cd
 results:List RF
def kfin (rs:List RF) (r:FR):Option (SV × H):=match r with
 | some (.normal,t,h)=>bO (kresL t h rs) λ vs=>some (oneS vs,h)
 | some (.ret,t,h)=>bO (kresL t h rs) λ vs=>some (oneS vs,h)
 | _=>none
def argsP:List Pth→List SV→T→Option T
 | p::ps,v::vs,t=>argsP ps vs (setP p v t)
 | [],[],t=>some t
 | _,_,_=>none
def kenter (fn:KF) (n:Nat) (c:CF) (args:List SV) (h:H):Option (SV × H):=bO (argsP fn.slots args .leaf) λ t=>kfin fn.results (fn.body n c t h)
def kcall (K:FuncId→Option KF) (X:FuncId→Option (List SV→H→Option (SV × H))) (n:Nat):CF:=
 @Nat.rec (λ _=>CF) (λ _ _ _=>none) (λ k ih f args h=>
  @Option.rec (List SV→H→Option (SV × H)) (λ _=>Option (SV × H)) (bO (K f) λ fn=>kenter fn (Nat.succ k) ih args h) (λ g=>g args h) (X f)) n
end
end Go.Sh
end
section
/- The compiled machine: the compiler. -/
namespace Go.Sh
noncomputable section
inductive KK where
 | v (f:XF)
 | l (f:LF)
 | n (f:NF)
 | m (f:MF)
 | c (f:FuncId) (xs:List XF)
 | x (f:XF) (xs:List XF)
def mV (r:Option XF):Option KK:=bO r λ f=>some (.v f)
abbrev Known:=List (Nat × SV)
def findS (d:Nat):Known→Option SV
 | []=>none
 | s::l=>bB (Nat.beq s.1 d) (some s.2) (findS d l)
abbrev Rd:=Nat→Option XF
def compX (σ:Rd):Operand→Option XF
 | .tmp n=>σ n
 | .const v=>bO (ofConst v) λ x=>some (xC x)
 | .global _=>none
 | .func f=>some (xC (.func f []))
def compXs (σ:Rd):List Operand→Option (List XF)
 | []=>some []
 | x::l=>bO (compX σ x) λ k=>bO (compXs σ l) λ ks=>some (k::ks)
def kdOf:Option TypeDesc→Option KD
 | some .bool=>some .bool
 | some (.int _)=>some .int
 | some .string=>some .str
 | _=>none
def kdsOf (P:Program):List Field→Option (List KD)
 | []=>some []
 | f::l=>bO (kdOf (P.underlying f.type)) λ q=>bO (kdsOf P l) λ qs=>some (q::qs)
def keyTo (P:Program) (t:TypeId):Option KKey:=match P.underlying t with
 | some (.struct fs)=>bB (plainStruct P t) (bO (kdsOf P fs.toList) λ qs=>some (.many qs)) none
 | d=>bO (kdOf d) λ q=>some (.one q)
def keqTo (P:Program) (lit:Bool) (t:TypeId):Option KEq:=match P.underlying t with
 | some .bool=>some .bool
 | some (.pointer e)=>some (.ptr (!(Nat.beq (P.cellsOf e) 0)))
 | some (.slice _)=>some .slice
 | some (.map _ _)=>some .map
 | some (.func ..)=>some .func
 | some (.interface _)=>some (.iface lit)
 | some (.struct fs)=>bB (plainStruct P t&&!P.eqGuardType P.depth t) (bO (kdsOf P fs.toList) λ qs=>some (.struct qs)) none
 | _=>none
def partTo (P:Program) (t:TypeId):Option (Option Nat):=match P.underlying t with
 | some (.struct _)=>some (some (P.cellsOf t))
 | some (.array _ _)=>some (some (P.cellsOf t))
 | some _=>some none
 | none=>none
def contig (cur stop:Nat):List (Nat × Nat)→Bool
 | []=>Nat.beq cur stop
 | x::l=>Nat.beq x.1 cur&&contig (cur+x.2) stop l
def placesTo (place:Nat→Option (Nat × Nat)):List Nat→Option (List (Nat × Nat))
 | []=>some []
 | i::l=>bO (place i) λ x=>bO (placesTo place l) λ r=>some (x::r)
def compFill {β:Type} (z:List SV) (place:Nat→Option (Nat × Nat)) (is:List Nat) (cat:List Nat→β) (fill:List (Nat × Nat)→β):Option β:=
 bO (placesTo place is) λ pl=>bB (contig 0 z.length pl) (some (cat (pl.map (·.2)))) (some (fill pl))
def compBin (k:IntKind) (x y:XF):BinOp→XF
 | .add=>vAdd k x y
 | .sub=>vSub k x y
 | .mul=>vMul k x y
 | .lss=>vLt k x y
 | .leq=>vLe k x y
 | .gtr=>vGt k x y
 | .geq=>vGe k x y
 | .eql=>vEq k x y
 | .neq=>vNe k x y
 | .shl=>vSh .shl k x y
 | .shr=>vSh .shr k x y
 | op=>vAr op k x y
def compCall (P:Program) (σ:Rd) (c:Call):Option KK:=match c.callee with
 | .value (.func f)=>bO (compXs σ c.args.toList) λ xs=>some (.c f xs)
 | .value f=>bO (compX σ f) λ f=>bO (compXs σ c.args.toList) λ xs=>some (.x f xs)
 | .builtin .len=>bO (compXs σ c.args.toList) λ xs=>(match xs,c.argTypes.toList with
  | [x],ty::_=>(match P.underlying ty with
   | some .string=>some (.v (vLenS x))
   | some (.slice _)=>some (.v (vLen x))
   | some (.map ..)=>some (.l (lLenM x))
   | some (.array n _)=>some (.v (vLenA n x))
   | _=>none)
  | _,_=>none)
 | .builtin .max=>bO (compXs σ c.args.toList) λ xs=>some (.v (vMax true xs))
 | .builtin .min=>bO (compXs σ c.args.toList) λ xs=>some (.v (vMax false xs))
 | .builtin .append=>bO (compXs σ c.args.toList) λ xs=>(match xs,c.argTypes.toList with
  | [s,x],ty::ux::_=>(match P.underlying ty,P.underlying ux with
   | some (.slice _),some (.int _)=>none
   | some (.slice el),some _=>bO (P.info? el) λ i=>bB (Nat.blt 0 i.size&&zeroOk i) (some (.m (tAppend i.bytes i.size s x))) none
   | _,_=>none)
  | _,_=>none)
 | .builtin .copy=>bO (compXs σ c.args.toList) λ xs=>(match xs,c.argTypes.toList with
  | [d,x],ty::_=>(match P.underlying ty with
   | some (.slice el)=>bO (P.info? el) λ i=>some (.m (tCopy i.size d x))
   | _=>none)
  | _,_=>none)
 | .builtin .clear=>bO (compXs σ c.args.toList) λ xs=>(match xs,c.argTypes.toList with
  | [x],ty::_=>(match P.underlying ty with
   | some (.slice el)=>bO (zeroCellsOf P el) λ z=>bO (P.info? el) λ i=>bB (Nat.beq z.length i.size&&Nat.blt 0 i.size) (some (.m (tClear z x))) none
   | _=>none)
  | _,_=>none)
 | _=>none
def compMap (P:Program) (σ:Rd) (ty:TypeId) (m k x:Operand):Option KK:=match P.underlying ty with
 | some (.map kt _)=>bO (compX σ m) λ m=>bO (compX σ k) λ k=>bO (compX σ x) λ x=>bO (keyTo P kt) λ q=>some (.m (tMapPut q m k x))
 | _=>none
def compK (P:Program) (σ:Rd) (o:Op):Option KK:=
 match o with
 | .move x=>mV (compX σ x)
 | .assign x=>mV (compX σ x)
 | .pick c a b=>bO (compX σ c) λ c=>bO (compX σ a) λ a=>bO (compX σ b) λ b=>some (.v (vPick c a b))
 | .alloc ty=>bO (zeroCellsOf P ty) λ cs=>some (.n (aAlloc cs))
 | .box _ x=>bO (compX σ x) λ x=>some (.n (aBox x))
 | .build ty ps=>bO (compXs σ (ps.toList.map (·.2))) λ xs=>bO (zeroCellsOf P ty) λ z=>(match P.underlying ty with
  | some (.struct fs)=>bO (fieldPlaces P fs.toList) λ pl=>compFill z (pl[·]?) (ps.toList.map (·.1)) (λ ns=>.v (vCat ns xs)) (λ pl=>.v (vFill z pl xs))
  | some (.array _ el)=>bO (P.info? el) λ i=>compFill z (λ k=>some (k * i.size,i.size)) (ps.toList.map (·.1)) (λ ns=>.v (vCat ns xs)) (λ pl=>.v (vFill z pl xs))
  | _=>none)
 | .buildSlice ty n ps=>(match P.underlying ty with
  | some (.slice el)=>bO (compXs σ (ps.toList.map (·.2))) λ xs=>bO (zeroCellsOf P el) λ z=>bO (P.info? el) λ i=>
    bB (Nat.ble (n * i.size) 16777216&&Nat.beq z.length i.size&&Nat.blt 0 i.size)
     (compFill (repeatCells z n) (λ k=>some (k * i.size,i.size)) (ps.toList.map (·.1)) (λ ns=>.n (aRow n i.size ns xs)) (λ pl=>.n (aRowFill n i.size z pl xs))) none
  | _=>none)
 | .load ty x=>bO (compX σ x) λ x=>bO (partTo P ty) λ s=>some (.l (lLoad s x))
 | .nilCheck x=>bO (compX σ x) λ x=>some (.v (vNil x))
 | .binOp op ty x y _=>bO (compX σ x) λ a=>bO (compX σ y) λ b=>(match P.underlying ty with
  | some (.int k)=>some (.v (compBin k a b op))
  | some .string=>(match op with
   | .eql=>some (.v (vSEq a b))
   | .neq=>some (.v (vSNe a b))
   | _=>some (.v (vStr op a b)))
  | _=>bO (keqTo P (isLit x || isLit y) ty) λ q=>(match op with
   | .eql=>some (.l (lEq q a b))
   | .neq=>some (.l (lNe q a b))
   | _=>none))
 | .unOp op _ x=>bO (compX σ x) λ x=>some (.v (vUn op x))
 | .convert s d x=>bO (compX σ x) λ a=>(match P.underlying s,P.underlying d with
  | some .string,some (.slice el)=>(match P.underlying el with
   | some (.int .u8)=>some (.n (aToBytes a))
   | _=>none)
  | some (.slice e),some .string=>(match P.underlying e with
   | some (.int .u8)=>some (.l (lToStr a))
   | _=>none)
  | some .string,some .string=>some (.v (vStrId a))
  | some (.int _),some (.int k)=>some (.v (vToI k a))
  | some (.slice _),some (.slice e)=>(match Nat.beq s d,P.underlying e with
   | true,some (.int .u8)=>some (.m (tFroze a))
   | _,_=>none)
  | _,_=>none)
 | .makeInterface ty x=>bO (compX σ x) λ a=>(match P.underlying ty with
  | some (.interface _)=>none
  | some _=>some (.v (vIface ty a))
  | none=>none)
 | .makeFunc (.func f) first captured=>(match first.toList with
  | []=>bO (compXs σ captured.toList) λ xs=>some (.v (vFunc f xs))
  | _=>none)
 | .makeMap _ none=>some (.n aNewMap)
 | .makeSlice ty l c=>(match P.underlying ty with
  | some (.slice el)=>bO (compX σ l) λ l=>bO (compX σ c) λ c=>bO (zeroCellsOf P el) λ z=>bO (P.info? el) λ i=>
    bB (Nat.beq z.length i.size&&Nat.blt 0 i.size) (some (.n (aMakeSlice i.bytes i.size z l c))) none
  | _=>none)
 | .slice ty x lo hi mx=>bO (compX σ x) λ a=>bO (compXs σ lo.toList) λ l=>bO (compXs σ hi.toList) λ h=>bO (compXs σ mx.toList) λ m=>(match P.underlying ty with
  | some .string=>(match m with
   | []=>some (.v (vSliceS a l h))
   | _=>none)
  | some (.slice e)=>bO (P.info? e) λ i=>some (.v (vSlice i.size a l h m))
  | some (.array n e)=>bO (P.info? e) λ i=>some (.l (lSliceA n i.size a l h m))
  | _=>none)
 | .fieldAddr ty x f=>bO (compX σ x) λ a=>(match P.underlying ty with
  | some (.struct fs)=>bO fs.toList[f]? λ fd=>bO (P.info? fd.type) λ i=>bB (Nat.beq i.size 0) none (some (.v (vAddr fd.offset a)))
  | _=>none)
 | .field ty x f=>bO (compX σ x) λ a=>(match P.underlying ty with
  | some (.struct fs)=>bO fs.toList[f]? λ fd=>bO (partTo P fd.type) λ s=>some (.v (vField s fd.offset a))
  | _=>none)
 | .indexAddr ty x i=>bO (compX σ x) λ a=>bO (compX σ i) λ b=>(match P.underlying ty with
  | some (.slice el)=>bO (P.info? el) λ i=>some (.v (vIdx i.size a b))
  | some (.array len el)=>bO (P.info? el) λ i=>some (.v (vIdxP len i.size a b))
  | _=>none)
 | .index ty x i=>bO (compX σ x) λ a=>bO (compX σ i) λ b=>(match P.underlying ty with
  | some (.array len el)=>bO (P.info? el) λ i=>bO (partTo P el) λ s=>some (.v (vIdxA len i.size s a b))
  | some .string=>some (.v (vIdxS a b))
  | _=>none)
 | .lookup ty x i ok=>bO (compX σ x) λ a=>bO (compX σ i) λ b=>(match P.underlying ty with
  | some (.map kt et)=>bO (keyTo P kt) λ q=>some (.l (lLookup q (zeroOf P et) ok a b))
  | _=>none)
 | .extract x i=>bO (compX σ x) λ x=>some (.v (vExtract i x))
 | .call c=>compCall P σ c
 | .store ty a x=>bO (compX σ a) λ a=>bO (compX σ x) λ x=>bO (P.info? ty) λ i=>some (.m (tStore i.size a x))
 | .mapUpdate ty m k x=>compMap P σ ty m k x
 | .insert ty m k x=>compMap P σ ty m k x
 | .mapEntry ty m k=>(match P.underlying ty with
  | some (.map kt et)=>bO (compX σ m) λ m=>bO (compX σ k) λ k=>bO (keyTo P kt) λ q=>some (.m (tMapEntry q (zeroOf P et) m k))
  | _=>none)
 | .entryStore _ m s x=>bO (compX σ m) λ m=>bO (compX σ s) λ s=>bO (compX σ x) λ x=>some (.m (tEntryStore m s x))
 | _=>none
def maskHs (mask:Nat):List (Nat × H)→List H
 | []=>[]
 | x::l=>match bitAt mask x.1 with
  | true=>x.2::maskHs mask l
  | false=>maskHs mask l
def opTo (c:PC) (A:Past) (k:KK):SF:=match k with
 | .v f=>sV f
 | .l f=>(match c with
  | .soft mask=>sLo (maskHs mask A.hs) A.fresh f
  | .hard=>sLs f
  | .keep true _=>sLs f
  | .keep false _=>sL f
  | .free=>sL f)
 | .n f=>sN f
 | .m f=>(match c.strict with
  | true=>sMs f
  | false=>sM f)
 | .c f xs=>(match c.strict with
  | true=>sCs f xs
  | false=>sC f xs)
 | .x f xs=>(match c.strict with
  | true=>sXs f xs
  | false=>sX f xs)
def slotOf (ops:List Oper):Option (Nat × Bool)→Option (Option (Nat × Bool))
 | none=>some none
 | some (j,w)=>bO ((ops[j]?).bind (·.dst)) λ g=>some (some (g,w))
def guardTo (σ:Rd) (o:SF):Option (Nat × Bool)→Option SF
 | none=>some o
 | some (g,w)=>bO (σ g) λ f=>some (sG f w o)
def readOf (subs:Known):Rd:=λ n=>@Option.rec SV (λ _=>Option XF) (some (xW n)) (λ v=>some (xC v)) (findS n subs)
def strike (d:Nat):Known→Known
 | []=>[]
 | s::l=>bB (Nat.beq s.1 d) (strike d l) (s::strike d l)
def movedOf:Op→Option Operand
 | .move x=>some x
 | .assign x=>some x
 | _=>none
def knownOf (subs:Known):Operand→Option SV
 | .tmp n=>findS n subs
 | .const v=>ofConst v
 | .func f=>some (.func f [])
 | .global _=>none
def sameTo (P:Program) (σ:Rd) (c:PC) (o:Op):Option (H→T→Bool):=match c.strict,o with
 | true,.store ty a x=>bO (compX σ a) λ a=>bO (compX σ x) λ x=>bO (P.info? ty) λ i=>some (sameSt i.size a x)
 | _,_=>none
def opToS (P:Program) (σ:Rd) (c:PC) (A:Past) (o:Op) (k:KK):SF:=match k with
 | .m f=>(match sameTo P σ c o with
  | some q=>sMt q f
  | none=>opTo c A (.m f))
 | k=>opTo c A k
def compO (P:Program) (subs:Known) (g:Option (Nat × Bool)) (c:PC) (A:Past) (o:Oper):Option SF:=
 bO (compK P (readOf subs) o.op) λ k=>guardTo (readOf subs) (opToS P (readOf subs) c A o.op k) g
def hasN (d:Nat):List Nat→Bool
 | []=>false
 | k::l=>Nat.beq k d || hasN d l
def struck (el:List Nat) (subs:Known) (g:Option (Nat × Bool)) (o:Oper):Option (Nat × SV):=match g with
 | some _=>none
 | none=>bO o.dst λ d=>bO (movedOf o.op) λ x=>bB (hasN d el) (bO (knownOf subs x) λ v=>some (d,v)) none
def alsoOf (g:Option (Nat × Bool)) (d:Nat) (o:Oper):Option Nat:=match g,o.op with
 | none,.move (.tmp s)=>bB (Nat.beq s d) none (some s)
 | none,.assign (.tmp s)=>bB (Nat.beq s d) none (some s)
 | _,_=>none
def knows (also:Option Nat) (d:Nat) (v:SV) (subs:Known):Known:=match also with
 | some s=>(d,v)::(s,v)::strike d subs
 | none=>(d,v)::strike d subs
def lateFs (i:Nat):List (Nat × (H→Bool))→List (H→Bool)
 | []=>[]
 | x::l=>match bitAt x.1 i with
  | true=>x.2::lateFs i l
  | false=>lateFs i l
def lookK:KK→T→H→H→Bool
 | .l f=>seeL f
 | .v f=>seeV f
 | .n f=>seeN f
 | _=>seeNo
def lookG (σ:Rd) (q:T→H→H→Bool):Option (Nat × Bool)→Option (T→H→H→Bool)
 | none=>some q
 | some (g,w)=>bO (σ g) λ f=>some (seeG f w q)
def lookTo (P:Program) (subs:Known) (g:Option (Nat × Bool)) (o:Oper):T→H→H→Bool:=
 match bO (compK P (readOf subs) o.op) λ k=>lookG (readOf subs) (lookK k) g with
 | some q=>q
 | none=>seeNo
def capOf (c:PC) (l:List PC) (A:Past) (q:T→H→H→Bool) (f:(H→Past)→OF):OF:=match c with
 | .keep s i=>oCap λ h=>f λ h'=>A.next (.keep s i) h h' none
 | .soft mask=>(match laterBit (.soft mask) l with
  | true=>oSee q λ g=>f λ _=>A.next (.soft mask) .empty .empty (some g)
  | false=>f λ _=>A)
 | _=>f λ _=>A
def capTo (c:PC) (A:Past) (B:H→Past) (f:Past→OF):OF:=match c with
 | .keep _ i=>(match lateFs i A.late with
  | []=>oCap λ h'=>f (B h')
  | x::r=>oCap λ h'=>oLate (x::r) (f (B h')))
 | _=>f (B .empty)
def compOs (P:Program) (n:Nat) (el:List Nat) (ops:List Oper):List Oper→List PC→Past→Known→OF
 | [],_,_,_=>oEnd
 | o::l,plan,A,subs=>match slotOf ops o.guard with
  | none=>oNo
  | some g=>match struck el subs g o with
   | some s=>match Nat.blt s.1 n with
    | false=>oNo
    | true=>match headC plan with
     | .free=>@List.rec (Nat × SV) (λ _=>(Known→OF)→OF) (λ k=>k []) (λ x _ ih k=>ih λ xs=>k (x::xs)) (s::strike s.1 subs) λ subs=>compOs P n el ops l plan.tail A subs
     | _=>oNo
   | none=>match compO P subs g (headC plan) A o with
    | none=>oNo
    | some s=>match o.dst with
     | none=>capOf (headC plan) plan.tail A (lookTo P subs g o) λ B=>oDo s (capTo (headC plan) A B λ A=>compOs P n el ops l plan.tail A subs)
     | some d=>match Nat.blt d n with
      | false=>oNo
      | true=>match hasN d el with
       | true=>capOf (headC plan) plan.tail A (lookTo P subs g o) λ B=>oLet s λ v=>@List.rec (Nat × SV) (λ _=>(Known→OF)→OF) (λ k=>k []) (λ x _ ih k=>ih λ xs=>k (x::xs)) (knows (alsoOf g d o) d v subs) λ subs=>capTo (headC plan) A B λ A=>compOs P n el ops l plan.tail A subs
       | false=>capOf (headC plan) plan.tail A (lookTo P subs g o) λ B=>oSet d s λ v=>@List.rec (Nat × SV) (λ _=>(Known→OF)→OF) (λ k=>k []) (λ x _ ih k=>ih λ xs=>k (x::xs)) (knows (alsoOf g d o) d v subs) λ subs=>capTo (headC plan) A B λ A=>compOs P n el ops l plan.tail A subs
def compR (P:Program) (n:Nat) (el:List Nat) (ops:List Oper) (draw:Bool):OF:=
 match draw with
 | false=>compOs P n el ops ops [] ⟨[],0,[]⟩ []
 | true=>match drawPlan P ops with
  | some plan=>compOs P n el ops ops plan ⟨[],0,[]⟩ []
  | none=>oNo
def labels:Code→List Nat
 | .label l=>[l]
 | .seq a b=>labels a++labels b
 | _=>[]
def labsTo (f:Code→Cd) (c:Code):List Nat→List (Nat × Cd)
 | []=>[]
 | l::r=>@Option.rec Code (λ _=>List (Nat × Cd)) (labsTo f c r) (λ x=>(l,f x)::labsTo f c r) (findLabel c l)
def compC (P:Program) (n:Nat) (el:List Nat):Nat→Code→Cd
 | 0,_=>cNo
 | _+1,.skip=>cSkip
 | _+1,.label _=>cSkip
 | _+1,.ret=>cRet
 | _+1,.exit id=>cExit id
 | _+1,.goto l=>cGoto l
 | _+1,.region _ ops draw=>cOps (compR P n el ops.toList draw)
 | k+1,.seq a b=>cSeq (compC P n el k a) (compC P n el k b)
 | k+1,.cond c a b=>(match compX (readOf []) c with
  | some c=>cCond c (compC P n el k a) (compC P n el k b)
  | none=>cNo)
 | k+1,.block id c=>cBlock id (compC P n el k c)
 | k+1,.loop c=>cLoop (compC P n el k c)
 | k+1,.scope c=>cScope (compC P n el k c) (labsTo (compC P n el k) c (labels c))
 | _+1,_=>cNo
def compRes (P:Program):List ResultVar→Option (List RF)
 | []=>some []
 | .tmp i::l=>bO (compRes P l) λ r=>some (.tmp (way i)::r)
 | .cell a ty::l=>bO (partTo P ty) λ s=>bO (compRes P l) λ r=>some (.cell (way a) s::r)
def waysTo (m:Nat):Nat→List Pth
 | 0=>[]
 | k+1=>way m::waysTo (m+1) k
def compF (P:Program) (el:List Nat) (fn:Func):Option KF:=
 bO fn.body λ c=>bO (compRes P fn.results.toList) λ r=>
  bB (Nat.ble (fn.params.size+fn.nfree) fn.ntmps&&el.all (Nat.ble (fn.params.size+fn.nfree))) (some ⟨waysTo 0 (fn.params.size+fn.nfree),compC P fn.ntmps el 400 c,r⟩) none
end
end Go.Sh
end
