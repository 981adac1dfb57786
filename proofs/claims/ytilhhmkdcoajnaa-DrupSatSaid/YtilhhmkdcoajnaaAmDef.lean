/- The abstract machine: values, memory, operations and code, evaluated without a tape; conditions: none (it only computes). -/
import GoSem.Dispatch
import Derived.Test.YtilhhmkdcoajnaaAmTree
namespace Go.Proofs.Ytilhhmkdcoajnaa.Am
open Go
noncomputable section
inductive AV where
  | bool (b:Bool)
  | int (k:IntKind) (n:Int)
  | str (s:List Nat)
  | ptr (a:Option (Nat×Nat))
  | slice (a:Option (Nat×Nat)) (len:Nat) (cap:Option Nat)
  | map (r:Option Nat)
  | func (f:FuncId) (first cap:List AV)
  | yield (l:Nat)
  | nilFunc
  | iface (t:TypeId) (v:AV)
  | nilIface
  | agg (cs:List AV)
  | tuple (vs:List AV)
def Au:AV:=.tuple []
def AV.cells:AV→List AV
  | .agg cs=>cs
  | v=>[v]
def AV.isCell:AV→Bool
  | .agg _ | .tuple _=>false
  | _=>true
def Af:List AV→Bool
  | []=>true
  | v::l=>v.isCell && Af l
inductive da where
  | ro | own | sealed
structure EF where
  elem:TypeId
  sz:Nat
  n:Nat
  c:Aj AV
  spare:Bool
  mode:da
  par:Option Nat
  bytes:Bool
inductive CX where
  | loc (i:Nat)
  | var (j:Nat)
  | const (v:AV)
inductive Bv where
  | ptr | slice (n:Nat) | map
structure FE where
  state:LoopState
  pending:Option Code
  fn:FuncId
  var:List AV
  params:Array Tmp
  assign:Code
  body:Code
  dfr:Nat
inductive Cv where
  | row (r:EF)
  | map (es:List (AV×AV×Nat)) (clock:Nat)
  | loop (l:FE)
  | mark
  | iter (s:List Nat) (pos:Nat)
structure ASt where
  next:Nat
  heap:Aj Cv
def Id:Value→Option AV
  | .bool b=>some (.bool b)
  | .int k n=>some (.int k n)
  | .string s=>some (.str (s.data.toList.map (fun(b:UInt8)=>b.toNat)))
  | .pointer none=>some (.ptr none)
  | .slice none 0 0=>some (.slice none 0 (some 0))
  | .map none=>some (.map none)
  | .nilFunc=>some .nilFunc
  | .nilIface=>some .nilIface
  | _=>none
def Es:List Value→Option (List AV)
  | []=>some []
  | v::l=>(Id v).bind fun a=>(Es l).bind fun r=>some (a::r)
def ofValue:Value→Option AV
  | .agg cs=>(Es cs.toList).bind fun l=>some (.agg l)
  | .tuple vs=>(Es vs.toList).bind fun l=>some (.tuple l)
  | v=>Id v
def AF{α:Type}(b:Bool)(x:Option α):Option α:=bif b then x else none
def Eo{α:Type}(P:Program):Sem α→Option α
  | .pure a=>some a
  | .program k=>Eo P (k P)
  | .mark _ k=>Eo P k
  | _=>none
def B0(k:IntKind):Int→Bool
  | .ofNat m=>match k with
    | .i64=>Nat.ble m 9223372036854775807
    | .u64=>Nat.ble m 18446744073709551615
    | .i32=>Nat.ble m 2147483647
    | .u32=>Nat.ble m 4294967295
    | .u8=>Nat.ble m 255
    | .i8=>Nat.ble m 127
    | .u16=>Nat.ble m 65535
    | .i16=>Nat.ble m 32767
  | .negSucc m=>match k with
    | .i64=>Nat.ble m 9223372036854775807
    | .i32=>Nat.ble m 2147483647
    | .i8=>Nat.ble m 127
    | .i16=>Nat.ble m 32767
    | _=>false
def Du(k:IntKind)(n:Int):Int:=bif B0 k n then n else k.wrap n
def ltI:Int→Int→Bool
  | .ofNat a,.ofNat b=>Nat.blt a b
  | .ofNat _,.negSucc _=>false
  | .negSucc _,.ofNat _=>true
  | .negSucc a,.negSucc b=>Nat.blt b a
def eqI:Int→Int→Bool
  | .ofNat a,.ofNat b=>Nat.beq a b
  | .negSucc a,.negSucc b=>Nat.beq a b
  | _,_=>false
def Ms:Int→Option Nat
  | .ofNat m=>some m
  | .negSucc _=>none
def GI:List Nat→List Nat→Bool
  | [],[]=>true
  | a::x,b::y=>bif Nat.beq a b then GI x y else false
  | _,_=>false
def Lv:List Nat→List Nat→Bool
  | _,[]=>false
  | [],_::_=>true
  | a::x,b::y=>bif Nat.blt a b then true else bif Nat.beq a b then Lv x y else false
def UA(op:BinOp)(x y:List Nat):Option AV:=
  match op with
  | .add=>AF (Nat.ble (x.length+y.length) 1152921504606846976) (some (.str (x++y)))
  | .eql=>some (.bool (GI x y))
  | .neq=>some (.bool (!GI x y))
  | .lss=>some (.bool (Lv x y))
  | .leq=>some (.bool (Lv x y || GI x y))
  | .gtr=>some (.bool (!(Lv x y || GI x y)))
  | .geq=>some (.bool (!Lv x y))
  | _=>none
def Ey(P:Program)(t:TypeId):Option Bool:=
  match P.underlying t with
  | some (.struct _) | some (.array _ _)=>some true
  | some _=>some false
  | none=>none
def BB(P:Program)(t:TypeId):Option Nat:=match P.info? t with
  | some i=>some i.size
  | none=>none
def B9(P:Program)(t:TypeId):Option AV:=match P.info? t with
  | some i=>match i.zero with
    | some v=>ofValue v
    | none=>none
  | none=>none
def CM(P:Program)(t:TypeId):Option Nat:=match P.info? t with
  | some i=>some i.bytes
  | none=>none
def BA(s:ASt)(i:Nat):Option EF:=match s.heap.get i with
  | some (.row r)=>some r
  | _=>none
def AH(s:ASt)(o:Cv):ASt:={ next:=s.next+1,heap:=s.heap.set s.next o }
def AP(elem:TypeId)(sz:Nat)(cells:List AV):Cv:=
  .row { elem,sz,n:=cells.length,c:=Aj.fill .leaf 0 cells,spare:=false,mode:=.own,par:=none,bytes:=false }
def setObj(s:ASt)(i:Nat)(o:Cv):ASt:={ s with heap:=s.heap.set i o }
def Bc(s:ASt)(i:Nat):ASt:={ s with heap:=s.heap.del i }
def loadN(s:ASt)(i off n:Nat):Option (List AV):=
  (BA s i).bind fun r=>AF (Nat.ble (off+n) r.n) (r.c.take off n)
def load1(s:ASt)(i off:Nat):Option AV:=
  (BA s i).bind fun r=>AF (Nat.blt off r.n) (r.c.get off)
def Ax(s:ASt)(i:Nat)(r:EF):ASt:=match r.par with
  | none=>s
  | some p=>bif Nat.beq p i then s else Bc s p
def FL:da→Bool
  | .own=>true
  | _=>false
def CJ(s:ASt)(i off:Nat)(vs:List AV):Option ASt:=
  match vs with
  | []=>some s
  | _::_=>(BA s i).bind fun r =>
    AF (FL r.mode && Nat.ble (off+vs.length) r.n && Af vs)
      (some (setObj (Ax s i r) i (.row { r with c:=r.c.fill off vs,par:=none })))
def AD(P:Program)(s:ASt)(t:TypeId):AV→Option AV
  | .ptr (some (i,o))=>(Ey P t).bind fun g=>match g with
    | true=>(BB P t).bind fun n=>(loadN s i o n).bind fun l=>some (.agg l)
    | false=>load1 s i o
  | _=>none
def AN(P:Program)(s:ASt)(t:TypeId)(a v:AV):Option ASt:=
  match a with
  | .ptr (some (i,o))=>(BB P t).bind fun n=>AF (Nat.beq v.cells.length n) (CJ s i o v.cells)
  | _=>none
def Nw(P:Program)(t:TypeId):Bool:=match P.underlying t with
  | some (.pointer _)=>true
  | _=>false
def EK(P:Program)(t:TypeId):Bool:=match P.underlying t with
  | some (.slice _)=>true
  | _=>false
def Nv(P:Program)(t:TypeId):Bool:=match P.underlying t with
  | some (.map ..)=>true
  | _=>false
def IS(P:Program)(t:TypeId):Bool:=match P.underlying t with
  | some (.func ..)=>true
  | _=>false
def Nt(P:Program)(t:TypeId):Bool:=match P.underlying t with
  | some .bool=>true
  | _=>false
def eqV(P:Program)(t:TypeId):AV→AV→Option Bool
  | .bool a,.bool b=>AF (Nt P t) (some (a == b))
  | .ptr none,.ptr b=>AF (Nw P t) (some b.isNone)
  | .ptr a,.ptr none=>AF (Nw P t) (some a.isNone)
  | .slice none _ _,.slice b _ _=>AF (EK P t) (some b.isNone)
  | .slice a _ _,.slice none _ _=>AF (EK P t) (some a.isNone)
  | .map none,.map b=>AF (Nv P t) (some b.isNone)
  | .map a,.map none=>AF (Nv P t) (some a.isNone)
  | .nilFunc,.nilFunc=>AF (IS P t) (some true)
  | .func ..,.nilFunc=>AF (IS P t) (some false)
  | .nilFunc,.func ..=>AF (IS P t) (some false)
  | _,_=>none
def Bs:IntKind→IntKind→Bool
  | .i8,.i8 | .i16,.i16 | .i32,.i32 | .i64,.i64 | .u8,.u8 | .u16,.u16 | .u32,.u32 | .u64,.u64=>true
  | _,_=>false
def ZY(P:Program)(op:BinOp)(k:IntKind)(a b:Int):Option AV:=
  match op with
  | .add=>some (.int k (Du k (a+b)))
  | .sub=>some (.int k (Du k (a - b)))
  | .mul=>some (.int k (Du k (a * b)))
  | .eql=>some (.bool (eqI a b))
  | .neq=>some (.bool (!eqI a b))
  | .lss=>some (.bool (ltI a b))
  | .leq=>some (.bool (!ltI b a))
  | .gtr=>some (.bool (ltI b a))
  | .geq=>some (.bool (!ltI a b))
  | .quo | .rem=>(Eo P (Op.intDiv op k a b)).bind ofValue
  | .shl | .shr=>none
  | _=>(Eo P (Op.intBits op k a b)).bind ofValue
def AI(P:Program)(op:BinOp)(t:TypeId)(x y:AV):Option AV:=
  match x,y with
  | .int k a,.int k' b=>match op with
    | .shl | .shr=>(Eo P (Op.shift op k a k' b)).bind ofValue
    | _=>AF (Bs k k') (ZY P op k a b)
  | .str a,.str b=>UA op a b
  | x,y=>match op with
    | .eql=>(eqV P t x y).bind fun b=>some (.bool b)
    | .neq=>(eqV P t x y).bind fun b=>some (.bool (!b))
    | _=>none
def unA(P:Program)(op:UnOp):AV→Option AV
  | .int k n=>match op with
    | .neg=>some (.int k (Du k (0 - n)))
    | .xor=>(Eo P (Op.unary .xor (.int k n))).bind ofValue
    | _=>none
  | .bool b=>match op with
    | .not=>some (.bool (!b))
    | _=>none
  | _=>none
def Dm(place:Nat→Option (Nat×Nat))(cells:List AV):List (Nat×AV)→Option (List AV)
  | []=>some cells
  | (i,v)::rest=>(place i).bind fun p =>
    AF (Nat.beq v.cells.length p.2 && Nat.ble (p.1+v.cells.length) cells.length)
      (Dm place (cells.take p.1++(v.cells++cells.drop (p.1+v.cells.length))) rest)
def Bw(P:Program):List Field→Option (List (Nat×Nat))
  | []=>some []
  | f::l=>(BB P f.type).bind fun n=>(Bw P l).bind fun r=>some ((f.offset,n)::r)
def Bz(P:Program)(t:TypeId)(parts:List (Nat×AV)):Option AV:=
  (B9 P t).bind fun z=>match P.underlying t with
    | some (.struct fields)=>(Bw P fields.toList).bind fun places =>
      (Dm (fun i=>places[i]?) z.cells parts).bind fun l=>some (.agg l)
    | some (.array _ e)=>(BB P e).bind fun n =>
      (Dm (fun i=>some (i * n,n)) z.cells parts).bind fun l=>some (.agg l)
    | _=>none
def rep(l:List AV):Nat→List AV
  | 0=>[]
  | n+1=>l++rep l n
def Ad(P:Program)(t:TypeId)(len:Nat)(parts:List (Nat×AV)):Option Cv:=
  match P.underlying t with
  | some (.slice e)=>(BB P e).bind fun n=>AF (Nat.ble (len * n) 16777216) <|
    (B9 P e).bind fun z=>AF (Nat.beq z.cells.length n) <|
      (Dm (fun i=>some (i * n,n)) (rep z.cells len) parts).bind fun l=>some (AP e n l)
  | _=>none
def Cj(P:Program)(s:ASt)(src dst:TypeId)(x:AV):Option AV:=
  match P.underlying src,P.underlying dst,x with
  | some _,some (.int k),.int _ n=>some (.int k (Du k n))
  | some _,some .string,.str l=>some (.str l)
  | some (.slice e),some .string,.slice a len _=>match P.underlying e with
    | some (.int .u8)=>match a with
      | none=>some (.str [])
      | some (i,o)=>(loadN s i o len).bind fun l=>(bytesOf l).bind fun b=>some (.str b)
    | _=>none
  | _,_,_=>none
where
  bytesOf:List AV→Option (List Nat)
    | []=>some []
    | .int .u8 (.ofNat n)::l=>AF (Nat.blt n 256) ((bytesOf l).bind fun r=>some (n::r))
    | _::_=>none
def Cu:AV→Option Nat
  | .int _ n=>Ms n
  | _=>none
def At(x:AV)(y:Nat):Option Nat:=(Cu x).bind fun i=>AF (Nat.ble i y) (some i)
def Ap(P:Program)(s:ASt)(t:TypeId)(x:AV)(lo hi mx:Option AV):Option AV:=
  match x with
  | .str l=>(match mx with | some _=>none | none=>some ()).bind fun _ =>
    (match hi with | some h=>At h l.length | none=>some l.length).bind fun h =>
    (match lo with | some v=>At v h | none=>some 0).bind fun o =>
    (match P.underlying t with | some .string=>some () | _=>none).bind fun _=>some (.str ((l.drop o).take (h - o)))
  | .slice a len cap=>match P.underlying t with
    | some (.slice e)=>(BB P e).bind fun n =>
      (match cap with
        | some c=>some c
        | none=>match a with
          | none=>none
          | some (i,o)=>(BA s i).bind fun r=>AF (Nat.ble o r.n && Nat.beq n r.sz && !Nat.beq n 0) (some ((r.n - o) / n))).bind fun far =>
      (match mx with | some m=>(At m far).bind fun c=>AF (cap.isSome || Nat.blt 0 far) (some (some c)) | none=>some cap).bind fun m =>
      (match hi,m with
        | some h,some c=>At h c
        | some h,none=>At h far
        | none,some c=>(match mx with | none=>some len | some _=>(fun(_:Nat)=>none) c)
        | none,none=>some len).bind fun h =>
      (match lo with | some v=>At v h | none=>some 0).bind fun l =>
      some (.slice
        (match a with
          | none=>none
          | some (i,o)=>match m with
            | some c=>bif Nat.beq c l then some (i,o)else some (i,o+l * n)
            | none=>some (i,o+l * n))
        (h - l) (match m with | some c=>some (c - l) | none=>none))
    | _=>none
  | .ptr (some (i,o))=>match P.underlying t with
    | some (.array len e)=>arr len e i o
    | some (.pointer u)=>match P.underlying u with
      | some (.array len e)=>arr len e i o
      | _=>none
    | _=>none
  | _=>none
where
  arr (len:Nat) (e:TypeId) (i o:Nat):Option AV:=(BB P e).bind fun n =>
    (match mx with | some m=>At m len | none=>some len).bind fun m =>
    (match hi with | some h=>At h m | none=>match mx with | none=>some len | some _=>none).bind fun h =>
    (match lo with | some v=>At v h | none=>some 0).bind fun l =>
    some (.slice (some (i,bif Nat.beq m l then o else o+l * n)) (h - l) (some (m - l)))
def AB(P:Program)(t:TypeId)(x:AV)(f:Nat):Option AV:=
  match x with
  | .ptr (some (i,o))=>match P.underlying t with
    | some (.struct fs)=>(fs[f]?).bind fun fd=>(BB P fd.type).bind fun n =>
      AF (!Nat.beq n 0) (some (.ptr (some (i,o+fd.offset))))
    | _=>none
  | _=>none
def T4(P:Program)(t:TypeId)(cs:List AV)(off:Nat):Option AV:=
  (Ey P t).bind fun g=>match g with
    | true=>(BB P t).bind fun n=>some (.agg ((cs.drop off).take n))
    | false=>cs[off]?
def SO(P:Program)(t:TypeId)(x:AV)(f:Nat):Option AV:=
  match x with
  | .agg cs=>match P.underlying t with
    | some (.struct fs)=>(fs[f]?).bind fun fd=>T4 P fd.type cs fd.offset
    | _=>none
  | _=>none
def AC(P:Program)(t:TypeId)(x ix:AV):Option AV:=
  (Cu ix).bind fun k=>match x with
    | .ptr (some (i,o))=>match P.underlying t with
      | some (.array len e)=>(BB P e).bind fun n=>AF (Nat.blt k len) (some (.ptr (some (i,o+k * n))))
      | _=>none
    | .slice (some (i,o)) len _=>match P.underlying t with
      | some (.slice e)=>(BB P e).bind fun n=>AF (Nat.blt k len) (some (.ptr (some (i,o+k * n))))
      | _=>none
    | _=>none
def Hk(P:Program)(t:TypeId)(x ix:AV):Option AV:=
  (Cu ix).bind fun k=>match x with
    | .agg cs=>match P.underlying t with
      | some (.array len e)=>(BB P e).bind fun n=>AF (Nat.blt k len) (T4 P e cs (k * n))
      | _=>none
    | .str l=>match P.underlying t with
      | some .string=>(l[k]?).bind fun b=>some (.int .u8 (.ofNat b))
      | _=>none
    | _=>none
def AE:AV→Option AV
  | .ptr none | .nilIface | .nilFunc=>none
  | v=>some v
def Rp(x:AV)(i:Nat):Option AV:=
  match x with
  | .tuple vs=>vs[i]?
  | _=>none
def Ro(c a b:AV):Option AV:=
  match c with
  | .bool true=>some a
  | .bool false=>some b
  | _=>none
def DU(mx:Bool):AV→List AV→Option AV
  | v,[]=>some v
  | .int k a,.int k' b::l=>AF (Bs k k') (DU mx (.int k (bif (bif mx then ltI a b else ltI b a)then b else a)) l)
  | _,_=>none
def LT:AV→AV→Option Bool
  | .int k a,.int k' b=>AF (Bs k k') (some (eqI a b))
  | .str a,.str b=>some (GI a b)
  | .agg a,.agg b=>keysEq a b
  | _,_=>none
where
  keysEq:List AV→List AV→Option Bool
  | [],[]=>some true
  | .int k a::x,.int k' b::y=>AF (Bs k k') ((keysEq x y).bind fun r=>some (eqI a b && r))
  | .str a::x,.str b::y=>(keysEq x y).bind fun r=>some (GI a b && r)
  | _,_=>none
def Do(k:AV):List (AV×AV×Nat)→Nat→Option (Option (Nat×AV×Nat))
  | [],_=>some none
  | (k',v,b)::l,i=>(LT k k').bind fun e=>match e with
    | true=>some (some (i,v,b))
    | false=>Do k l (i+1)
def B3(P:Program)(t:TypeId):AV→Bool
  | .int k _=>match P.underlying t with
    | some (.int k')=>Bs k k'
    | _=>false
  | .str _=>match P.underlying t with
    | some .string=>true
    | _=>false
  | _=>false
def C6(P:Program)(s:ASt)(t:TypeId)(m k:AV)(ok:Bool):Option AV:=
  match P.underlying t with
  | some (.map kt et)=>AF (B3 P kt k) <|
    (match m with
      | .map none=>some []
      | .map (some i)=>match s.heap.get i with
        | some (.map es _)=>some es
        | _=>none
      | _=>none).bind fun es=>(Do k es 0).bind fun r =>
      (match r with
        | some (_,v,_)=>some (v,true)
        | none=>(B9 P et).bind fun z=>some (z,false)).bind fun p=>some (bif ok then .tuple [p.1,.bool p.2]else p.1)
  | _=>none
def setNth(es:List (AV×AV×Nat))(i:Nat)(v:AV):List (AV×AV×Nat):=
  match es,i with
  | [],_=>[]
  | (k,_,b)::l,0=>(k,v,b)::l
  | e::l,i+1=>e::setNth l i v
def ED(P:Program)(s:ASt)(t:TypeId)(m k v:AV):Option ASt:=
  match P.underlying t,m with
  | some (.map kt _),.map (some i)=>AF (B3 P kt k) <| match s.heap.get i with
    | some (.map es clock)=>(Do k es 0).bind fun r=>match r with
      | some (j,_,_)=>some (setObj s i (.map (setNth es j v) clock))
      | none=>some (setObj s i (.map (es++[(k,v,clock)]) (clock+1)))
    | _=>none
  | _,_=>none
def delNth(es:List (AV×AV×Nat))(i:Nat):List (AV×AV×Nat):=
  match es,i with
  | [],_=>[]
  | _::l,0=>l
  | e::l,i+1=>e::delNth l i
def KA(P:Program)(s:ASt)(t:TypeId)(m k:AV):Option ASt:=
  match P.underlying t with
  | some (.map kt _)=>AF (B3 P kt k) <| match m with
    | .map none=>some s
    | .map (some i)=>match s.heap.get i with
      | some (.map es clock)=>(Do k es 0).bind fun r=>match r with
        | some (j,_,_)=>some (setObj s i (.map (delNth es j) clock))
        | none=>some s
      | _=>none
    | _=>none
  | _=>none
def Ao(P:Program)(s:ASt)(t:TypeId):AV→Option AV
  | .str l=>match P.underlying t with
    | some .string=>some (.int .i64 (.ofNat l.length))
    | _=>none
  | .slice _ n _=>match P.underlying t with
    | some (.slice _)=>some (.int .i64 (.ofNat n))
    | _=>none
  | .map none=>match P.underlying t with
    | some (.map ..)=>some (.int .i64 (.ofNat 0))
    | _=>none
  | .map (some i)=>match P.underlying t with
    | some (.map ..)=>match s.heap.get i with
      | some (.map es _)=>some (.int .i64 (.ofNat es.length))
      | _=>none
    | _=>none
  | _=>none
def MD(P:Program)(s:ASt)(t:TypeId):AV→Option AV
  | .slice a _ cap=>match P.underlying t with
    | some (.slice e)=>match cap with
      | some c=>some (.int .i64 (.ofNat c))
      | none=>match a with
        | some (i,o)=>(BB P e).bind fun n=>(BA s i).bind fun r=>AF (!r.spare && Nat.ble o r.n && Nat.beq n r.sz && !Nat.beq n 0) (some (.int .i64 (.ofNat ((r.n - o) / n))))
        | none=>none
    | _=>none
  | _=>none
def Bv.val(i:Nat):Bv→AV
  | .ptr=>.ptr (some (i,0))
  | .slice n=>.slice (some (i,0)) n (some n)
  | .map=>.map (some i)
def BE(P:Program)(e:TypeId):Option (Cv×Bv):=(B9 P e).bind fun z=>some (AP e 0 z.cells,.ptr)
def CL(e:TypeId)(v:AV):Option (Cv×Bv):=some (AP e 0 v.cells,.ptr)
def Hm(P:Program)(t:TypeId)(l c:AV):Option (Cv×Bv):=
  match P.underlying t,l,c with
    | some (.slice e),.int .i64 (.ofNat l),.int .i64 (.ofNat c)=>(CM P e).bind fun by_=>(BB P e).bind fun n =>
      AF (Nat.beq l c && Nat.ble (by_ * c) 1099511627776 && Nat.ble c 1099511627776) <|
      (B9 P e).bind fun z=>AF (Nat.beq z.cells.length n) (some (AP e n (rep z.cells c),.slice c))
    | _,_,_=>none
def LQ(P:Program)(t:TypeId):Bool:=match P.underlying t with
  | some (.int _)=>true
  | _=>false
def dS(s:ASt)(i o n size:Nat):Option (List AV):=bif Nat.beq n 0 then some []else loadN s i o (n * size)
def Bg(P:Program)(s:ASt)(e:TypeId)(size:Nat):AV→Option (Nat×List AV)
  | .int _ (.ofNat n)=>AF (Nat.ble n 1099511627776 && Nat.blt 0 n) ((B9 P e).bind fun z=>AF (Nat.beq z.cells.length size) (some (n,rep z.cells n)))
  | .slice none _ _=>some (0,[])
  | .slice (some (i,o)) n _=>(dS s i o n size).bind fun l=>some (n,l)
  | .str l=>AF (Nat.beq size 1) (some (l.length,l.map fun b=>.int .u8 (.ofNat b)))
  | _=>none
def A9(P:Program)(t:TypeId):Bool:=match P.underlying t with
  | some (.slice _) | some .string=>true
  | _=>false
def B6(e:TypeId)(sz:Nat)(c:Aj AV)(n:Nat)(par:Option Nat):Cv:=
  .row { elem:=e,sz,n,c,spare:=true,mode:=.own,par,bytes:=false }
def By(P:Program)(e:TypeId)(size:Nat):Bool:=match B9 P e with
  | some z=>Nat.beq z.cells.length size
  | none=>false
def BV(P:Program)(s:ASt)(e:TypeId)(size n:Nat)(cells:List AV):Option (AV×ASt):=
  AF (By P e size) (some (.slice (some (s.next,0)) n none,AH s (B6 e size (Aj.fill .leaf 0 cells) cells.length none)))
def Cf(s:ASt)(i:Nat)(r:EF)(ends:Bool):ASt:=
  bif ends then setObj (Ax s i r) i (.row { r with mode:=.sealed,par:=none })else Bc (Ax s i r) i
def DF(P:Program)(s:ASt)(e:TypeId)(size i o len:Nat)(src:Nat×List AV)(r:EF)(old:List AV):Option (AV×ASt):=
  AF (FL r.mode && By P e size) <|
    let ends:=Nat.beq (o+len * size) r.n
    let s2:=Cf s i r ends
    some (.slice (some (s.next,0)) (len+src.1) none,
      AH s2 (B6 e size (bif Nat.beq o 0 then r.c.fill (len * size) src.2 else Aj.fill .leaf 0 (old++src.2)) (old++src.2).length (bif ends then some i else none)))
def C2(P:Program)(s:ASt)(e:TypeId)(size i o len:Nat)(src:Nat×List AV)(r:EF):Option (AV×ASt):=
  AF (Nat.beq size r.sz) <|
  bif Nat.ble (o+(len+src.1) * size) r.n then
    (CJ s i (o+len * size) src.2).bind fun s'=>some (.slice (some (i,o)) (len+src.1) none,s')
  else (loadN s i o (len * size)).bind fun old =>
    bif r.spare then DF P s e size i o len src r old else BV P s e size (len+src.1) (old++src.2)
def Cw(P:Program)(s:ASt)(e:TypeId)(size i o len c:Nat)(src:Nat×List AV):Option (AV×ASt):=
  bif Nat.ble (len+src.1) c then
    (CJ s i (o+len * size) src.2).bind fun s'=>some (.slice (some (i,o)) (len+src.1) (some c),s')
  else (loadN s i o (len * size)).bind fun old=>BV P s e size (len+src.1) (old++src.2)
def appTo(P:Program)(s:ASt)(e:TypeId)(size:Nat)(a:Option (Nat×Nat))(len:Nat)(cap:Option Nat)(src:Nat×List AV):Option (AV×ASt):=
  match a with
  | none=>bif Nat.beq src.1 0 then some (.slice none 0 (some 0),s)else BV P s e size src.1 src.2
  | some (i,o)=>match cap with
    | some c=>Cw P s e size i o len c src
    | none=>(BA s i).bind fun r=>C2 P s e size i o len src r
def AY(P:Program)(s:ASt)(argTypes:List TypeId)(args:List AV):Option (AV×ASt):=
  match argTypes,args with
  | [st,xt],[.slice a len cap,x]=>match P.underlying st with
    | some (.slice e)=>(BB P e).bind fun size=>(CM P e).bind fun by_ =>
      AF (!Nat.beq size 0 && (match x with | .int ..=>LQ P xt | _=>A9 P xt)) <|
      (Bg P s e size x).bind fun src =>
      AF (Af src.2 && Nat.ble ((len+src.1) * by_) 1099511627776 && Nat.ble (len+src.1) 1099511627776) <|
      appTo P s e size a len cap src
    | _=>none
  | _,_=>none
def ZJ(P:Program)(s:ASt)(argTypes:List TypeId)(args:List AV):Option (AV×ASt):=
  match argTypes,args with
  | dt::_,[.slice a dl _,x]=>match P.underlying dt with
    | some (.slice e)=>(BB P e).bind fun size =>
      (match x with | .slice _ n _=>some n | .str l=>some l.length | _=>none).bind fun sl =>
      let n:=bif Nat.ble sl dl then sl else dl
      (match x with
        | .slice none _ _=>some []
        | .slice (some (i,o)) _ _=>loadN s i o (n * size)
        | .str l=>AF (Nat.beq size 1) (some ((l.take n).map fun b=>.int .u8 (.ofNat b)))
        | _=>none).bind fun cells =>
      (match a with
        | none=>some s
        | some (i,o)=>CJ s i o cells).bind fun s'=>some (.int .i64 (.ofNat n),s')
    | _=>none
  | _,_=>none
def Ez(P:Program)(s:ASt)(argTypes:List TypeId)(args:List AV):Option (AV×ASt):=
  match argTypes,args with
  | t::_,[x]=>match P.underlying t,x with
    | some (.slice _),.slice none _ _=>some (Au,s)
    | some (.slice _),.slice _ 0 _=>some (Au,s)
    | some (.slice e),.slice (some (i,o)) n _=>(B9 P e).bind fun z=>(CJ s i o (rep z.cells n)).bind fun s'=>some (Au,s')
    | _,_=>none
  | _,_=>none
end
end Go.Proofs.Ytilhhmkdcoajnaa.Am
