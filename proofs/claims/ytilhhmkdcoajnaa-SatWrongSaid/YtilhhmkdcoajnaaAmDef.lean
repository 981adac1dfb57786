/- The abstract machine: values, memory, operations and code, evaluated without a tape; conditions: none (it only computes). -/
import GoSem.Dispatch
import Derived.Test.YtilhhmkdcoajnaaAmTree
namespace Go.Proofs.Ytilhhmkdcoajnaa.Am
open Go
noncomputable section
inductive AV where
  | bool (b:Bool)
  | int (k:IntKind) (n:Int)
  | str (s:List Nat)
  | ptr (a:Option (Nat×Nat))
  | slice (a:Option (Nat×Nat)) (len:Nat) (cap:Option Nat)
  | map (r:Option Nat)
  | func (f:FuncId) (first cap:List AV)
  | yield (l:Nat)
  | nilFunc
  | iface (t:TypeId) (v:AV)
  | nilIface
  | agg (cs:List AV)
  | tuple (vs:List AV)
def undefA:AV:=.tuple []
def AV.cells:AV→List AV
  | .agg cs=>cs
  | v=>[v]
def AV.isCell:AV→Bool
  | .agg _ | .tuple _=>false
  | _=>true
def allCells:List AV→Bool
  | []=>true
  | v::l=>v.isCell && allCells l
inductive RMode where
  | ro | own | sealed
structure ARow where
  elem:TypeId
  sz:Nat
  n:Nat
  c:Tree AV
  spare:Bool
  mode:RMode
  par:Option Nat
  bytes:Bool
inductive CX where
  | loc (i:Nat)
  | var (j:Nat)
  | const (v:AV)
inductive Made where
  | ptr | slice (n:Nat) | map
structure ALoop where
  state:LoopState
  pending:Option Code
  fn:FuncId
  var:List AV
  params:Array Tmp
  assign:Code
  body:Code
  dfr:Nat
inductive AObj where
  | row (r:ARow)
  | map (es:List (AV×AV×Nat)) (clock:Nat)
  | loop (l:ALoop)
  | mark
  | iter (s:List Nat) (pos:Nat)
structure ASt where
  next:Nat
  heap:Tree AObj
def ofScalar:Value→Option AV
  | .bool b=>some (.bool b)
  | .int k n=>some (.int k n)
  | .string s=>some (.str (s.data.toList.map (fun(b:UInt8)=>b.toNat)))
  | .pointer none=>some (.ptr none)
  | .slice none 0 0=>some (.slice none 0 (some 0))
  | .map none=>some (.map none)
  | .nilFunc=>some .nilFunc
  | .nilIface=>some .nilIface
  | _=>none
def ofScalars:List Value→Option (List AV)
  | []=>some []
  | v::l=>(ofScalar v).bind fun a=>(ofScalars l).bind fun r=>some (a::r)
def ofValue:Value→Option AV
  | .agg cs=>(ofScalars cs.toList).bind fun l=>some (.agg l)
  | .tuple vs=>(ofScalars vs.toList).bind fun l=>some (.tuple l)
  | v=>ofScalar v
def guardB{α:Type}(b:Bool)(x:Option α):Option α:=bif b then x else none
def runP{α:Type}(P:Program):Sem α→Option α
  | .pure a=>some a
  | .program k=>runP P (k P)
  | .mark _ k=>runP P k
  | _=>none
def inRange(k:IntKind):Int→Bool
  | .ofNat m=>match k with
    | .i64=>Nat.ble m 9223372036854775807
    | .u64=>Nat.ble m 18446744073709551615
    | .i32=>Nat.ble m 2147483647
    | .u32=>Nat.ble m 4294967295
    | .u8=>Nat.ble m 255
    | .i8=>Nat.ble m 127
    | .u16=>Nat.ble m 65535
    | .i16=>Nat.ble m 32767
  | .negSucc m=>match k with
    | .i64=>Nat.ble m 9223372036854775807
    | .i32=>Nat.ble m 2147483647
    | .i8=>Nat.ble m 127
    | .i16=>Nat.ble m 32767
    | _=>false
def wrapA(k:IntKind)(n:Int):Int:=bif inRange k n then n else k.wrap n
def ltI:Int→Int→Bool
  | .ofNat a,.ofNat b=>Nat.blt a b
  | .ofNat _,.negSucc _=>false
  | .negSucc _,.ofNat _=>true
  | .negSucc a,.negSucc b=>Nat.blt b a
def eqI:Int→Int→Bool
  | .ofNat a,.ofNat b=>Nat.beq a b
  | .negSucc a,.negSucc b=>Nat.beq a b
  | _,_=>false
def natOf:Int→Option Nat
  | .ofNat m=>some m
  | .negSucc _=>none
def strEq:List Nat→List Nat→Bool
  | [],[]=>true
  | a::x,b::y=>bif Nat.beq a b then strEq x y else false
  | _,_=>false
def strLt:List Nat→List Nat→Bool
  | _,[]=>false
  | [],_::_=>true
  | a::x,b::y=>bif Nat.blt a b then true else bif Nat.beq a b then strLt x y else false
def strOp(op:BinOp)(x y:List Nat):Option AV:=
  match op with
  | .add=>guardB (Nat.ble (x.length+y.length) 1152921504606846976) (some (.str (x++y)))
  | .eql=>some (.bool (strEq x y))
  | .neq=>some (.bool (!strEq x y))
  | .lss=>some (.bool (strLt x y))
  | .leq=>some (.bool (strLt x y || strEq x y))
  | .gtr=>some (.bool (!(strLt x y || strEq x y)))
  | .geq=>some (.bool (!strLt x y))
  | _=>none
def aggT(P:Program)(t:TypeId):Option Bool:=
  match P.underlying t with
  | some (.struct _) | some (.array _ _)=>some true
  | some _=>some false
  | none=>none
def sizeT(P:Program)(t:TypeId):Option Nat:=match P.info? t with
  | some i=>some i.size
  | none=>none
def zeroT(P:Program)(t:TypeId):Option AV:=match P.info? t with
  | some i=>match i.zero with
    | some v=>ofValue v
    | none=>none
  | none=>none
def bytesT(P:Program)(t:TypeId):Option Nat:=match P.info? t with
  | some i=>some i.bytes
  | none=>none
def rowAt(s:ASt)(i:Nat):Option ARow:=match s.heap.get i with
  | some (.row r)=>some r
  | _=>none
def newObj(s:ASt)(o:AObj):ASt:={ next:=s.next+1,heap:=s.heap.set s.next o }
def mkRow(elem:TypeId)(sz:Nat)(cells:List AV):AObj:=
  .row { elem,sz,n:=cells.length,c:=Tree.fill .leaf 0 cells,spare:=false,mode:=.own,par:=none,bytes:=false }
def setObj(s:ASt)(i:Nat)(o:AObj):ASt:={ s with heap:=s.heap.set i o }
def delObj(s:ASt)(i:Nat):ASt:={ s with heap:=s.heap.del i }
def loadN(s:ASt)(i off n:Nat):Option (List AV):=
  (rowAt s i).bind fun r=>guardB (Nat.ble (off+n) r.n) (r.c.take off n)
def load1(s:ASt)(i off:Nat):Option AV:=
  (rowAt s i).bind fun r=>guardB (Nat.blt off r.n) (r.c.get off)
def unshare(s:ASt)(i:Nat)(r:ARow):ASt:=match r.par with
  | none=>s
  | some p=>bif Nat.beq p i then s else delObj s p
def isOwn:RMode→Bool
  | .own=>true
  | _=>false
def storeN(s:ASt)(i off:Nat)(vs:List AV):Option ASt:=
  match vs with
  | []=>some s
  | _::_=>(rowAt s i).bind fun r =>
    guardB (isOwn r.mode && Nat.ble (off+vs.length) r.n && allCells vs)
      (some (setObj (unshare s i r) i (.row { r with c:=r.c.fill off vs,par:=none })))
def loadV(P:Program)(s:ASt)(t:TypeId):AV→Option AV
  | .ptr (some (i,o))=>(aggT P t).bind fun g=>match g with
    | true=>(sizeT P t).bind fun n=>(loadN s i o n).bind fun l=>some (.agg l)
    | false=>load1 s i o
  | _=>none
def storeV(P:Program)(s:ASt)(t:TypeId)(a v:AV):Option ASt:=
  match a with
  | .ptr (some (i,o))=>(sizeT P t).bind fun n=>guardB (Nat.beq v.cells.length n) (storeN s i o v.cells)
  | _=>none
def isPtrT(P:Program)(t:TypeId):Bool:=match P.underlying t with
  | some (.pointer _)=>true
  | _=>false
def isSliceT(P:Program)(t:TypeId):Bool:=match P.underlying t with
  | some (.slice _)=>true
  | _=>false
def isMapT(P:Program)(t:TypeId):Bool:=match P.underlying t with
  | some (.map ..)=>true
  | _=>false
def isFuncT(P:Program)(t:TypeId):Bool:=match P.underlying t with
  | some (.func ..)=>true
  | _=>false
def isBoolT(P:Program)(t:TypeId):Bool:=match P.underlying t with
  | some .bool=>true
  | _=>false
def eqV(P:Program)(t:TypeId):AV→AV→Option Bool
  | .bool a,.bool b=>guardB (isBoolT P t) (some (a == b))
  | .ptr none,.ptr b=>guardB (isPtrT P t) (some b.isNone)
  | .ptr a,.ptr none=>guardB (isPtrT P t) (some a.isNone)
  | .slice none _ _,.slice b _ _=>guardB (isSliceT P t) (some b.isNone)
  | .slice a _ _,.slice none _ _=>guardB (isSliceT P t) (some a.isNone)
  | .map none,.map b=>guardB (isMapT P t) (some b.isNone)
  | .map a,.map none=>guardB (isMapT P t) (some a.isNone)
  | .nilFunc,.nilFunc=>guardB (isFuncT P t) (some true)
  | .func ..,.nilFunc=>guardB (isFuncT P t) (some false)
  | .nilFunc,.func ..=>guardB (isFuncT P t) (some false)
  | _,_=>none
def sameKind:IntKind→IntKind→Bool
  | .i8,.i8 | .i16,.i16 | .i32,.i32 | .i64,.i64 | .u8,.u8 | .u16,.u16 | .u32,.u32 | .u64,.u64=>true
  | _,_=>false
def intOp(P:Program)(op:BinOp)(k:IntKind)(a b:Int):Option AV:=
  match op with
  | .add=>some (.int k (wrapA k (a+b)))
  | .sub=>some (.int k (wrapA k (a - b)))
  | .mul=>some (.int k (wrapA k (a * b)))
  | .eql=>some (.bool (eqI a b))
  | .neq=>some (.bool (!eqI a b))
  | .lss=>some (.bool (ltI a b))
  | .leq=>some (.bool (!ltI b a))
  | .gtr=>some (.bool (ltI b a))
  | .geq=>some (.bool (!ltI a b))
  | .quo | .rem=>(runP P (Op.intDiv op k a b)).bind ofValue
  | .shl | .shr=>none
  | _=>(runP P (Op.intBits op k a b)).bind ofValue
def binA(P:Program)(op:BinOp)(t:TypeId)(x y:AV):Option AV:=
  match x,y with
  | .int k a,.int k' b=>match op with
    | .shl | .shr=>(runP P (Op.shift op k a k' b)).bind ofValue
    | _=>guardB (sameKind k k') (intOp P op k a b)
  | .str a,.str b=>strOp op a b
  | x,y=>match op with
    | .eql=>(eqV P t x y).bind fun b=>some (.bool b)
    | .neq=>(eqV P t x y).bind fun b=>some (.bool (!b))
    | _=>none
def unA(P:Program)(op:UnOp):AV→Option AV
  | .int k n=>match op with
    | .neg=>some (.int k (wrapA k (0 - n)))
    | .xor=>(runP P (Op.unary .xor (.int k n))).bind ofValue
    | _=>none
  | .bool b=>match op with
    | .not=>some (.bool (!b))
    | _=>none
  | _=>none
def fillA(place:Nat→Option (Nat×Nat))(cells:List AV):List (Nat×AV)→Option (List AV)
  | []=>some cells
  | (i,v)::rest=>(place i).bind fun p =>
    guardB (Nat.beq v.cells.length p.2 && Nat.ble (p.1+v.cells.length) cells.length)
      (fillA place (cells.take p.1++(v.cells++cells.drop (p.1+v.cells.length))) rest)
def fieldSizes(P:Program):List Field→Option (List (Nat×Nat))
  | []=>some []
  | f::l=>(sizeT P f.type).bind fun n=>(fieldSizes P l).bind fun r=>some ((f.offset,n)::r)
def buildA(P:Program)(t:TypeId)(parts:List (Nat×AV)):Option AV:=
  (zeroT P t).bind fun z=>match P.underlying t with
    | some (.struct fields)=>(fieldSizes P fields.toList).bind fun places =>
      (fillA (fun i=>places[i]?) z.cells parts).bind fun l=>some (.agg l)
    | some (.array _ e)=>(sizeT P e).bind fun n =>
      (fillA (fun i=>some (i * n,n)) z.cells parts).bind fun l=>some (.agg l)
    | _=>none
def rep(l:List AV):Nat→List AV
  | 0=>[]
  | n+1=>l++rep l n
def sliceRowA(P:Program)(t:TypeId)(len:Nat)(parts:List (Nat×AV)):Option AObj:=
  match P.underlying t with
  | some (.slice e)=>(sizeT P e).bind fun n=>guardB (Nat.ble (len * n) 16777216) <|
    (zeroT P e).bind fun z=>guardB (Nat.beq z.cells.length n) <|
      (fillA (fun i=>some (i * n,n)) (rep z.cells len) parts).bind fun l=>some (mkRow e n l)
  | _=>none
def convA(P:Program)(s:ASt)(src dst:TypeId)(x:AV):Option AV:=
  match P.underlying src,P.underlying dst,x with
  | some _,some (.int k),.int _ n=>some (.int k (wrapA k n))
  | some _,some .string,.str l=>some (.str l)
  | some (.slice e),some .string,.slice a len _=>match P.underlying e with
    | some (.int .u8)=>match a with
      | none=>some (.str [])
      | some (i,o)=>(loadN s i o len).bind fun l=>(bytesOf l).bind fun b=>some (.str b)
    | _=>none
  | _,_,_=>none
where
  bytesOf:List AV→Option (List Nat)
    | []=>some []
    | .int .u8 (.ofNat n)::l=>guardB (Nat.blt n 256) ((bytesOf l).bind fun r=>some (n::r))
    | _::_=>none
def idxOf:AV→Option Nat
  | .int _ n=>natOf n
  | _=>none
def boundA(x:AV)(y:Nat):Option Nat:=(idxOf x).bind fun i=>guardB (Nat.ble i y) (some i)
def sliceA(P:Program)(s:ASt)(t:TypeId)(x:AV)(lo hi mx:Option AV):Option AV:=
  match x with
  | .str l=>(match mx with | some _=>none | none=>some ()).bind fun _ =>
    (match hi with | some h=>boundA h l.length | none=>some l.length).bind fun h =>
    (match lo with | some v=>boundA v h | none=>some 0).bind fun o =>
    (match P.underlying t with | some .string=>some () | _=>none).bind fun _=>some (.str ((l.drop o).take (h - o)))
  | .slice a len cap=>match P.underlying t with
    | some (.slice e)=>(sizeT P e).bind fun n =>
      (match cap with
        | some c=>some c
        | none=>match a with
          | none=>none
          | some (i,o)=>(rowAt s i).bind fun r=>guardB (Nat.ble o r.n && Nat.beq n r.sz && !Nat.beq n 0) (some ((r.n - o) / n))).bind fun far =>
      (match mx with | some m=>(boundA m far).bind fun c=>guardB (cap.isSome || Nat.blt 0 far) (some (some c)) | none=>some cap).bind fun m =>
      (match hi,m with
        | some h,some c=>boundA h c
        | some h,none=>boundA h far
        | none,some c=>(match mx with | none=>some len | some _=>(fun(_:Nat)=>none) c)
        | none,none=>some len).bind fun h =>
      (match lo with | some v=>boundA v h | none=>some 0).bind fun l =>
      some (.slice
        (match a with
          | none=>none
          | some (i,o)=>match m with
            | some c=>bif Nat.beq c l then some (i,o)else some (i,o+l * n)
            | none=>some (i,o+l * n))
        (h - l) (match m with | some c=>some (c - l) | none=>none))
    | _=>none
  | .ptr (some (i,o))=>match P.underlying t with
    | some (.array len e)=>arr len e i o
    | some (.pointer u)=>match P.underlying u with
      | some (.array len e)=>arr len e i o
      | _=>none
    | _=>none
  | _=>none
where
  arr (len:Nat) (e:TypeId) (i o:Nat):Option AV:=(sizeT P e).bind fun n =>
    (match mx with | some m=>boundA m len | none=>some len).bind fun m =>
    (match hi with | some h=>boundA h m | none=>match mx with | none=>some len | some _=>none).bind fun h =>
    (match lo with | some v=>boundA v h | none=>some 0).bind fun l =>
    some (.slice (some (i,bif Nat.beq m l then o else o+l * n)) (h - l) (some (m - l)))
def fieldAddrA(P:Program)(t:TypeId)(x:AV)(f:Nat):Option AV:=
  match x with
  | .ptr (some (i,o))=>match P.underlying t with
    | some (.struct fs)=>(fs[f]?).bind fun fd=>(sizeT P fd.type).bind fun n =>
      guardB (!Nat.beq n 0) (some (.ptr (some (i,o+fd.offset))))
    | _=>none
  | _=>none
def partA(P:Program)(t:TypeId)(cs:List AV)(off:Nat):Option AV:=
  (aggT P t).bind fun g=>match g with
    | true=>(sizeT P t).bind fun n=>some (.agg ((cs.drop off).take n))
    | false=>cs[off]?
def fieldA(P:Program)(t:TypeId)(x:AV)(f:Nat):Option AV:=
  match x with
  | .agg cs=>match P.underlying t with
    | some (.struct fs)=>(fs[f]?).bind fun fd=>partA P fd.type cs fd.offset
    | _=>none
  | _=>none
def indexAddrA(P:Program)(t:TypeId)(x ix:AV):Option AV:=
  (idxOf ix).bind fun k=>match x with
    | .ptr (some (i,o))=>match P.underlying t with
      | some (.array len e)=>(sizeT P e).bind fun n=>guardB (Nat.blt k len) (some (.ptr (some (i,o+k * n))))
      | _=>none
    | .slice (some (i,o)) len _=>match P.underlying t with
      | some (.slice e)=>(sizeT P e).bind fun n=>guardB (Nat.blt k len) (some (.ptr (some (i,o+k * n))))
      | _=>none
    | _=>none
def indexA(P:Program)(t:TypeId)(x ix:AV):Option AV:=
  (idxOf ix).bind fun k=>match x with
    | .agg cs=>match P.underlying t with
      | some (.array len e)=>(sizeT P e).bind fun n=>guardB (Nat.blt k len) (partA P e cs (k * n))
      | _=>none
    | .str l=>match P.underlying t with
      | some .string=>(l[k]?).bind fun b=>some (.int .u8 (.ofNat b))
      | _=>none
    | _=>none
def nilCheckA:AV→Option AV
  | .ptr none | .nilIface | .nilFunc=>none
  | v=>some v
def Rp(x:AV)(i:Nat):Option AV:=
  match x with
  | .tuple vs=>vs[i]?
  | _=>none
def Ro(c a b:AV):Option AV:=
  match c with
  | .bool true=>some a
  | .bool false=>some b
  | _=>none
def minMax(mx:Bool):AV→List AV→Option AV
  | v,[]=>some v
  | .int k a,.int k' b::l=>guardB (sameKind k k') (minMax mx (.int k (bif (bif mx then ltI a b else ltI b a)then b else a)) l)
  | _,_=>none
def keyEq:AV→AV→Option Bool
  | .int k a,.int k' b=>guardB (sameKind k k') (some (eqI a b))
  | .str a,.str b=>some (strEq a b)
  | .agg a,.agg b=>keysEq a b
  | _,_=>none
where
  keysEq:List AV→List AV→Option Bool
  | [],[]=>some true
  | .int k a::x,.int k' b::y=>guardB (sameKind k k') ((keysEq x y).bind fun r=>some (eqI a b && r))
  | .str a::x,.str b::y=>(keysEq x y).bind fun r=>some (strEq a b && r)
  | _,_=>none
def findA(k:AV):List (AV×AV×Nat)→Nat→Option (Option (Nat×AV×Nat))
  | [],_=>some none
  | (k',v,b)::l,i=>(keyEq k k').bind fun e=>match e with
    | true=>some (some (i,v,b))
    | false=>findA k l (i+1)
def simpleKey(P:Program)(t:TypeId):AV→Bool
  | .int k _=>match P.underlying t with
    | some (.int k')=>sameKind k k'
    | _=>false
  | .str _=>match P.underlying t with
    | some .string=>true
    | _=>false
  | _=>false
def lookupA(P:Program)(s:ASt)(t:TypeId)(m k:AV)(ok:Bool):Option AV:=
  match P.underlying t with
  | some (.map kt et)=>guardB (simpleKey P kt k) <|
    (match m with
      | .map none=>some []
      | .map (some i)=>match s.heap.get i with
        | some (.map es _)=>some es
        | _=>none
      | _=>none).bind fun es=>(findA k es 0).bind fun r =>
      (match r with
        | some (_,v,_)=>some (v,true)
        | none=>(zeroT P et).bind fun z=>some (z,false)).bind fun p=>some (bif ok then .tuple [p.1,.bool p.2]else p.1)
  | _=>none
def setNth(es:List (AV×AV×Nat))(i:Nat)(v:AV):List (AV×AV×Nat):=
  match es,i with
  | [],_=>[]
  | (k,_,b)::l,0=>(k,v,b)::l
  | e::l,i+1=>e::setNth l i v
def updateA(P:Program)(s:ASt)(t:TypeId)(m k v:AV):Option ASt:=
  match P.underlying t,m with
  | some (.map kt _),.map (some i)=>guardB (simpleKey P kt k) <| match s.heap.get i with
    | some (.map es clock)=>(findA k es 0).bind fun r=>match r with
      | some (j,_,_)=>some (setObj s i (.map (setNth es j v) clock))
      | none=>some (setObj s i (.map (es++[(k,v,clock)]) (clock+1)))
    | _=>none
  | _,_=>none
def delNth(es:List (AV×AV×Nat))(i:Nat):List (AV×AV×Nat):=
  match es,i with
  | [],_=>[]
  | _::l,0=>l
  | e::l,i+1=>e::delNth l i
def deleteA(P:Program)(s:ASt)(t:TypeId)(m k:AV):Option ASt:=
  match P.underlying t with
  | some (.map kt _)=>guardB (simpleKey P kt k) <| match m with
    | .map none=>some s
    | .map (some i)=>match s.heap.get i with
      | some (.map es clock)=>(findA k es 0).bind fun r=>match r with
        | some (j,_,_)=>some (setObj s i (.map (delNth es j) clock))
        | none=>some s
      | _=>none
    | _=>none
  | _=>none
def lenA(P:Program)(s:ASt)(t:TypeId):AV→Option AV
  | .str l=>match P.underlying t with
    | some .string=>some (.int .i64 (.ofNat l.length))
    | _=>none
  | .slice _ n _=>match P.underlying t with
    | some (.slice _)=>some (.int .i64 (.ofNat n))
    | _=>none
  | .map none=>match P.underlying t with
    | some (.map ..)=>some (.int .i64 (.ofNat 0))
    | _=>none
  | .map (some i)=>match P.underlying t with
    | some (.map ..)=>match s.heap.get i with
      | some (.map es _)=>some (.int .i64 (.ofNat es.length))
      | _=>none
    | _=>none
  | _=>none
def capA(P:Program)(s:ASt)(t:TypeId):AV→Option AV
  | .slice a _ cap=>match P.underlying t with
    | some (.slice e)=>match cap with
      | some c=>some (.int .i64 (.ofNat c))
      | none=>match a with
        | some (i,o)=>(sizeT P e).bind fun n=>(rowAt s i).bind fun r=>guardB (!r.spare && Nat.ble o r.n && Nat.beq n r.sz && !Nat.beq n 0) (some (.int .i64 (.ofNat ((r.n - o) / n))))
        | none=>none
    | _=>none
  | _=>none
def Made.val(i:Nat):Made→AV
  | .ptr=>.ptr (some (i,0))
  | .slice n=>.slice (some (i,0)) n (some n)
  | .map=>.map (some i)
def allocA(P:Program)(e:TypeId):Option (AObj×Made):=(zeroT P e).bind fun z=>some (mkRow e 0 z.cells,.ptr)
def boxA(e:TypeId)(v:AV):Option (AObj×Made):=some (mkRow e 0 v.cells,.ptr)
def makeSliceA(P:Program)(t:TypeId)(l c:AV):Option (AObj×Made):=
  match P.underlying t,l,c with
    | some (.slice e),.int .i64 (.ofNat l),.int .i64 (.ofNat c)=>(bytesT P e).bind fun by_=>(sizeT P e).bind fun n =>
      guardB (Nat.beq l c && Nat.ble (by_ * c) 1099511627776 && Nat.ble c 1099511627776) <|
      (zeroT P e).bind fun z=>guardB (Nat.beq z.cells.length n) (some (mkRow e n (rep z.cells c),.slice c))
    | _,_,_=>none
def isIntT(P:Program)(t:TypeId):Bool:=match P.underlying t with
  | some (.int _)=>true
  | _=>false
def srcN(s:ASt)(i o n size:Nat):Option (List AV):=bif Nat.beq n 0 then some []else loadN s i o (n * size)
def srcCells(P:Program)(s:ASt)(e:TypeId)(size:Nat):AV→Option (Nat×List AV)
  | .int _ (.ofNat n)=>guardB (Nat.ble n 1099511627776 && Nat.blt 0 n) ((zeroT P e).bind fun z=>guardB (Nat.beq z.cells.length size) (some (n,rep z.cells n)))
  | .slice none _ _=>some (0,[])
  | .slice (some (i,o)) n _=>(srcN s i o n size).bind fun l=>some (n,l)
  | .str l=>guardB (Nat.beq size 1) (some (l.length,l.map fun b=>.int .u8 (.ofNat b)))
  | _=>none
def isSliceOrStr(P:Program)(t:TypeId):Bool:=match P.underlying t with
  | some (.slice _) | some .string=>true
  | _=>false
def grownRow(e:TypeId)(sz:Nat)(c:Tree AV)(n:Nat)(par:Option Nat):AObj:=
  .row { elem:=e,sz,n,c,spare:=true,mode:=.own,par,bytes:=false }
def zeroOk(P:Program)(e:TypeId)(size:Nat):Bool:=match zeroT P e with
  | some z=>Nat.beq z.cells.length size
  | none=>false
def appFresh(P:Program)(s:ASt)(e:TypeId)(size n:Nat)(cells:List AV):Option (AV×ASt):=
  guardB (zeroOk P e size) (some (.slice (some (s.next,0)) n none,newObj s (grownRow e size (Tree.fill .leaf 0 cells) cells.length none)))
def sealOld(s:ASt)(i:Nat)(r:ARow)(ends:Bool):ASt:=
  bif ends then setObj (unshare s i r) i (.row { r with mode:=.sealed,par:=none })else delObj (unshare s i r) i
def appSpare(P:Program)(s:ASt)(e:TypeId)(size i o len:Nat)(src:Nat×List AV)(r:ARow)(old:List AV):Option (AV×ASt):=
  guardB (isOwn r.mode && zeroOk P e size) <|
    let ends:=Nat.beq (o+len * size) r.n
    let s2:=sealOld s i r ends
    some (.slice (some (s.next,0)) (len+src.1) none,
      newObj s2 (grownRow e size (bif Nat.beq o 0 then r.c.fill (len * size) src.2 else Tree.fill .leaf 0 (old++src.2)) (old++src.2).length (bif ends then some i else none)))
def appOpen(P:Program)(s:ASt)(e:TypeId)(size i o len:Nat)(src:Nat×List AV)(r:ARow):Option (AV×ASt):=
  guardB (Nat.beq size r.sz) <|
  bif Nat.ble (o+(len+src.1) * size) r.n then
    (storeN s i (o+len * size) src.2).bind fun s'=>some (.slice (some (i,o)) (len+src.1) none,s')
  else (loadN s i o (len * size)).bind fun old =>
    bif r.spare then appSpare P s e size i o len src r old else appFresh P s e size (len+src.1) (old++src.2)
def appExact(P:Program)(s:ASt)(e:TypeId)(size i o len c:Nat)(src:Nat×List AV):Option (AV×ASt):=
  bif Nat.ble (len+src.1) c then
    (storeN s i (o+len * size) src.2).bind fun s'=>some (.slice (some (i,o)) (len+src.1) (some c),s')
  else (loadN s i o (len * size)).bind fun old=>appFresh P s e size (len+src.1) (old++src.2)
def appTo(P:Program)(s:ASt)(e:TypeId)(size:Nat)(a:Option (Nat×Nat))(len:Nat)(cap:Option Nat)(src:Nat×List AV):Option (AV×ASt):=
  match a with
  | none=>bif Nat.beq src.1 0 then some (.slice none 0 (some 0),s)else appFresh P s e size src.1 src.2
  | some (i,o)=>match cap with
    | some c=>appExact P s e size i o len c src
    | none=>(rowAt s i).bind fun r=>appOpen P s e size i o len src r
def appendA(P:Program)(s:ASt)(argTypes:List TypeId)(args:List AV):Option (AV×ASt):=
  match argTypes,args with
  | [st,xt],[.slice a len cap,x]=>match P.underlying st with
    | some (.slice e)=>(sizeT P e).bind fun size=>(bytesT P e).bind fun by_ =>
      guardB (!Nat.beq size 0 && (match x with | .int ..=>isIntT P xt | _=>isSliceOrStr P xt)) <|
      (srcCells P s e size x).bind fun src =>
      guardB (allCells src.2 && Nat.ble ((len+src.1) * by_) 1099511627776 && Nat.ble (len+src.1) 1099511627776) <|
      appTo P s e size a len cap src
    | _=>none
  | _,_=>none
def copyA(P:Program)(s:ASt)(argTypes:List TypeId)(args:List AV):Option (AV×ASt):=
  match argTypes,args with
  | dt::_,[.slice a dl _,x]=>match P.underlying dt with
    | some (.slice e)=>(sizeT P e).bind fun size =>
      (match x with | .slice _ n _=>some n | .str l=>some l.length | _=>none).bind fun sl =>
      let n:=bif Nat.ble sl dl then sl else dl
      (match x with
        | .slice none _ _=>some []
        | .slice (some (i,o)) _ _=>loadN s i o (n * size)
        | .str l=>guardB (Nat.beq size 1) (some ((l.take n).map fun b=>.int .u8 (.ofNat b)))
        | _=>none).bind fun cells =>
      (match a with
        | none=>some s
        | some (i,o)=>storeN s i o cells).bind fun s'=>some (.int .i64 (.ofNat n),s')
    | _=>none
  | _,_=>none
def clearA(P:Program)(s:ASt)(argTypes:List TypeId)(args:List AV):Option (AV×ASt):=
  match argTypes,args with
  | t::_,[x]=>match P.underlying t,x with
    | some (.slice _),.slice none _ _=>some (undefA,s)
    | some (.slice _),.slice _ 0 _=>some (undefA,s)
    | some (.slice e),.slice (some (i,o)) n _=>(zeroT P e).bind fun z=>(storeN s i o (rep z.cells n)).bind fun s'=>some (undefA,s')
    | _,_=>none
  | _,_=>none
end
end Go.Proofs.Ytilhhmkdcoajnaa.Am
