/- Code of the model compiled to positions in lists, and its evaluation; conditions: none (it only computes). -/
import Derived.Test.YtilhhmkdcoajnaaAmDef
namespace Go.Proofs.Ytilhhmkdcoajnaa.Am
open Go
noncomputable section
inductive Sh where
  | p1 (f:AV→Option AV)
  | p2 (f:AV→AV→Option AV)
  | p (f:List AV→Option AV)
  | r1 (f:ASt→AV→Option AV)
  | r (f:ASt→List AV→Option AV)
  | mk (f:List AV→Option (AObj×Made))
  | e (f:ASt→List AV→Option (AV×ASt))
  | call (f:FuncId)
  | callv
def Sh.isEff:Sh→Bool
  | .e _ | .call _ | .callv=>true
  | _=>false
def Sh.isRead:Sh→Bool
  | .r1 _ | .r _=>true
  | _=>false
def Rn:List AV→Option AV
  | [c,a,b]=>Ro c a b
  | _=>none
def on2{α:Type}(f:AV→AV→Option α):List AV→Option α
  | [a,b]=>f a b
  | _=>none
def on3{α:Type}(f:AV→AV→AV→Option α):List AV→Option α
  | [a,b,c]=>f a b c
  | _=>none
def withV(x:Option ASt):Option (AV×ASt):=match x with
  | some s=>some (undefA,s)
  | none=>none
def sliceOpnds(P:Program)(t:TypeId)(lo hi mx:Bool)(s:ASt):List AV→Option AV
  | [x]=>match lo,hi,mx with
    | false,false,false=>sliceA P s t x none none none
    | _,_,_=>none
  | [x,a]=>match lo,hi,mx with
    | true,false,false=>sliceA P s t x (some a) none none
    | false,true,false=>sliceA P s t x none (some a) none
    | _,_,_=>none
  | [x,a,b]=>match lo,hi,mx with
    | true,true,false=>sliceA P s t x (some a) (some b) none
    | false,true,true=>sliceA P s t x none (some a) (some b)
    | _,_,_=>none
  | [x,a,b,c]=>match lo,hi,mx with
    | true,true,true=>sliceA P s t x (some a) (some b) (some c)
    | _,_,_=>none
  | _=>none
def zipIdx(is:List Nat)(l:List AV):List (Nat×AV):=is.zip l
def shapeOf(P:Program)(o:Op):Option (Sh×List Operand):=
  match o with
  | .move x | .assign x=>some (.p1 some,[x])
  | .pick c a b=>some (.p Rn,[c,a,b])
  | .build t ps=>some (.p (fun l=>buildA P t (zipIdx (ps.toList.map (·.1)) l)),ps.toList.map (·.2))
  | .nilCheck x=>some (.p1 nilCheckA,[x])
  | .binOp op t x y _=>some (.p2 (binA P op t),[x,y])
  | .unOp op _ x=>some (.p1 (unA P op),[x])
  | .makeFunc fn first captured=>match fn with
    | .func f=>some (.p (fun l=>some (.func f (l.take first.size) (l.drop first.size))),first.toList++captured.toList)
    | _=>none
  | .fieldAddr t x f=>some (.p1 (fun x=>fieldAddrA P t x f),[x])
  | .field t x f=>some (.p1 (fun x=>fieldA P t x f),[x])
  | .indexAddr t x i=>some (.p2 (indexAddrA P t),[x,i])
  | .index t x i=>some (.p2 (indexA P t),[x,i])
  | .extract t i=>some (.p1 (fun x=>Rp x i),[t])
  | .load t a=>some (.r1 (fun s a=>loadV P s t a),[a])
  | .lookup t m k ok=>some (.r (fun s=>on2 (fun m k=>lookupA P s t m k ok)),[m,k])
  | .convert src dst x=>some (.r1 (fun s x=>convA P s src dst x),[x])
  | .slice t x lo hi mx=>some (.r (sliceOpnds P t lo.isSome hi.isSome mx.isSome),[x]++lo.toList++hi.toList++mx.toList)
  | .alloc e=>some (.mk (fun l=>match l with | []=>allocA P e | _=>none),[])
  | .box e x=>some (.mk (fun l=>match l with | [v]=>boxA e v | _=>none),[x])
  | .buildSlice t len ps=>some (.mk (fun l=>(sliceRowA P t len (zipIdx (ps.toList.map (·.1)) l)).bind fun r=>some (r,.slice len)),ps.toList.map (·.2))
  | .makeMap _ none=>some (.mk (fun l=>match l with | []=>some (.map [] 0,.map) | _=>none),[])
  | .makeSlice t l c=>some (.mk (on2 (makeSliceA P t)),[l,c])
  | .store t a x=>some (.e (fun s=>on2 (fun a x=>withV (storeV P s t a x))),[a,x])
  | .mapUpdate t m k x | .insert t m k x=>some (.e (fun s=>on3 (fun m k x=>withV (updateA P s t m k x))),[m,k,x])
  | .call { callee,args,argTypes }=>match callee with
    | .value (.func f)=>some (.call f,args.toList)
    | .value x=>some (.callv,x::args.toList)
    | .invoke ..=>none
    | .builtin b=>match b with
      | .len=>match argTypes[0]? with
        | some t=>some (.r (fun s l=>match l with | [x]=>lenA P s t x | _=>none),args.toList)
        | none=>none
      | .cap=>match argTypes[0]? with
        | some t=>some (.r (fun s l=>match l with | [x]=>capA P s t x | _=>none),args.toList)
        | none=>none
      | .min=>some (.p (fun l=>match l with | v::l=>minMax false v l | []=>none),args.toList)
      | .max=>some (.p (fun l=>match l with | v::l=>minMax true v l | []=>none),args.toList)
      | .append=>some (.e (fun s l=>appendA P s argTypes.toList l),args.toList)
      | .copy=>some (.e (fun s l=>copyA P s argTypes.toList l),args.toList)
      | .clear=>some (.e (fun s l=>clearA P s argTypes.toList l),args.toList)
      | .delete=>match argTypes[0]? with
        | some t=>some (.e (fun s=>on2 (fun m k=>withV (deleteA P s t m k))),args.toList)
        | none=>none
      | _=>none
  | _=>none
def bit(t:Nat):Nat:=Nat.shiftLeft 1 t
def opndBits:List Operand→Nat
  | []=>0
  | .tmp t::l=>Nat.lor (bit t) (opndBits l)
  | _::l=>opndBits l
def exposedOps(P:Program):List Oper→Nat→Nat→Nat
  | [],_,e=>e
  | o::l,wr,e =>
    let rd:=match shapeOf P o.op with
      | some (_,xs)=>opndBits xs
      | none=>0
    exposedOps P l (match o.dst with | some d=>Nat.lor wr (bit d) | none=>wr) (Nat.lor e (Nat.sub rd (Nat.land rd wr)))
def exposed(P:Program):Code→Nat
  | .region _ ops _=>exposedOps P ops.toList 0 0
  | .seq a b=>Nat.lor (exposed P a) (exposed P b)
  | .cond c a b=>Nat.lor (opndBits [c]) (Nat.lor (exposed P a) (exposed P b))
  | .block _ b | .loop b | .scope b=>exposed P b
  | .rangeFunc f ps a b=>Nat.lor (opndBits [f]) (Nat.lor (ps.toList.foldl (fun m t=>Nat.lor m (bit t)) 0) (Nat.lor (exposed P a) (exposed P b)))
  | _=>0
def resultBits:List ResultVar→Nat
  | []=>0
  | .tmp t::l | .cell t _::l=>Nat.lor (bit t) (resultBits l)
def bitsFrom(m:Nat):Nat→Nat→List Nat
  | 0,_=>[]
  | n+1,k=>bif m.testBit k then k::bitsFrom m n (k+1)else bitsFrom m n (k+1)
def argsOf(fn:Func):Nat:=fn.params.size+fn.nfree
def varsOf(P:Program)(fn:Func):List Tmp:=
  List.range (argsOf fn)++match fn.body with
  | none=>[]
  | some c=>bitsFrom (Nat.lor (exposed P c) (resultBits fn.results.toList)) (fn.ntmps - argsOf fn) (argsOf fn)
def placeIn:List Tmp→Tmp→Option Nat
  | [],_=>none
  | a::l,t=>bif Nat.beq a t then some 0 else (placeIn l t).bind fun j=>some (j+1)
def effOf(P:Program)(o:Oper):Bool:=match shapeOf P o.op with
  | some (s,_)=>s.isEff
  | none=>true
def readyAt(b:Array Nat)(done:Nat)(i:Nat):Bool:=Nat.beq (Nat.land (b.getD i 0) done) (b.getD i 0)
def planGo(P:Program)(ops:Array Oper)(b:Array Nat):Nat→Nat→List Nat→List Nat→List Nat
  | 0,_,_,acc=>acc.reverse
  | f+1,done,todo,acc =>
    match todo.find? fun i=>readyAt b done i && !effOf P (ops.getD i default)with
    | some i=>planGo P ops b f (done+2 ^ i) (todo.filter fun j=>!Nat.beq j i) (i::acc)
    | none=>match todo.find? fun i=>readyAt b done i with
      | some i=>planGo P ops b f (done+2 ^ i) (todo.filter fun j=>!Nat.beq j i) (i::acc)
      | none=>acc.reverse
def plan(P:Program)(ops:Array Oper):List Nat:=planGo P ops (Region.before ops) ops.size 0 (List.range ops.size) []
def namesOf(P:Program)(o:Oper):List Tmp:=o.dst.toList++((match shapeOf P o.op with
  | some (_,xs)=>xs
  | none=>[]).filterMap fun x:Operand=>match x with
    | .tmp t=>some t
    | _=>none)
def guardOf(o:Oper):List Nat:=match o.guard with
  | some (j,_)=>[j]
  | none=>[]
def stepOk(P:Program)(ops:Array Oper)(b:Array Nat)(before:List Nat)(i:Nat):Bool:=
  let o:=ops.getD i default
  let anc:=b.getD i 0
  Nat.blt i ops.size && !before.contains i &&
  (List.range ops.size).all (fun j=>!anc.testBit j || before.contains j) &&
  o.after.all (fun e=>!Region.binds .any e || before.contains e.on) &&
  before.all (fun j=>!effOf P (ops.getD j default) || anc.testBit j) &&
  (guardOf o).all (fun j=>anc.testBit j) &&
  before.all (fun j=>let p:=ops.getD j default
    (match o.dst with
      | none=>true
      | some d=>p.dst != some d && (!(namesOf P p).contains d || anc.testBit j)) &&
    (match p.dst with
      | none=>true
      | some d=>!(namesOf P o).contains d || anc.testBit j))
def planOk(P:Program)(ops:Array Oper)(b:Array Nat):List Nat→List Nat→Bool
  | before,[]=>Nat.beq before.length ops.size
  | before,i::l=>stepOk P ops b before i && planOk P ops b (before++[i]) l
inductive CDst where
  | push | set (j:Nat)
structure CRd where
  guard:Option (CX×Bool)
  sh:Sh
  xs:List CX
  ans:CX
structure CItem where
  guard:Option (CX×Bool)
  sh:Sh
  xs:List CX
  dst:CDst
  again:List CRd
structure CSt where
  map:List (Tmp×CX)
  cnt:Nat
def lookT:List (Tmp×CX)→Tmp→Option CX
  | [],_=>none
  | (a,x)::l,t=>bif Nat.beq a t then some x else lookT l t
def relX(cnt:Nat):CX→CX
  | .loc p=>.loc (cnt - 1 - p)
  | x=>x
def slotX(vars:List Tmp)(c:CSt)(t:Tmp):Option CX:=
  match lookT c.map t with
  | some x=>some x
  | none=>(placeIn vars t).bind fun j=>some (.var j)
def opndX(vars:List Tmp)(c:CSt):Operand→Option CX
  | .tmp t=>slotX vars c t
  | .const v=>(ofValue v).bind fun a=>some (.const a)
  | .global _=>none
  | .func f=>some (.const (.func f [] []))
def opndsX(vars:List Tmp)(c:CSt):List Operand→Option (List CX)
  | []=>some []
  | x::l=>(opndX vars c x).bind fun a=>(opndsX vars c l).bind fun r=>some (a::r)
def isVar(j:Nat):CX→Bool
  | .var i=>Nat.beq i j
  | _=>false
def noAlias(j:Nat):List (Tmp×CX)→Bool
  | []=>true
  | (_,x)::l=>!isVar j x && noAlias j l
def aliasOf(vars:List Tmp)(later:List (Option Tmp))(o:Oper)(x:CX):Bool:=
  (match o.op with | .move _=>true | _=>false) && o.guard.isNone &&
  (match o.dst with | some d=>(placeIn vars d).isNone | none=>false) &&
  (match x with
    | .var j=>!(later.any fun d=>match d with
      | some t=>match placeIn vars t with
        | some i=>Nat.beq i j
        | none=>false
      | none=>false)
    | _=>true)
def relG(cnt:Nat):Option (CX×Bool)→Option (CX×Bool)
  | none=>none
  | some (x,b)=>some (relX cnt x,b)
def relRd(cnt:Nat)(r:CRd):CRd:={ guard:=relG cnt r.guard,sh:=r.sh,xs:=r.xs.map (relX cnt),ans:=relX cnt r.ans }
def rdFree(j:Nat)(r:CRd):Bool:=(match r.guard with | none=>true | some (x,_)=>!isVar j x) && r.xs.all fun x=>!isVar j x
def compOps(P:Program)(nt:Nat)(vars:List Tmp)(ops:Array Oper)(b:Array Nat)(draw:Bool):List Nat→CSt→List (Nat×CRd)→Option (List CItem)
  | [],_,_=>some []
  | i::l,c,rs=>(ops[i]?).bind fun o=>(shapeOf P o.op).bind fun sh=>(opndsX vars c sh.2).bind fun xs =>
    match (match xs with | [x]=>bif aliasOf vars (l.map fun j=>(ops.getD j default).dst) o x then some x else none | _=>none),o.dst with
    | some x,some d=>guardB (Nat.blt d nt) (compOps P nt vars ops b draw l { c with map:=(d,x)::c.map } rs)
    | _,_ =>
      (match o.guard with
        | none=>some none
        | some (j,want)=>(ops[j]?).bind fun p=>p.dst.bind fun d=>(slotX vars c d).bind fun x=>some (some (x,want))).bind fun g =>
      (match o.dst with
        | none=>some (CDst.push,{ c with cnt:=c.cnt+1 })
        | some d=>guardB (Nat.blt d nt) <| match placeIn vars d with
          | some j=>guardB (noAlias j c.map && rs.all fun r=>rdFree j r.2) (some (CDst.set j,c))
          | none=>some (CDst.push,{ map:=(d,.loc c.cnt)::c.map,cnt:=c.cnt+1 })).bind fun q =>
      let ag:=match draw,sh.1.isEff with
        | true,true=>rs.filter fun(r:Nat×CRd)=>!(b.getD i 0).testBit r.1
        | _,_=>[]
      let rd:=draw && sh.1.isRead
      guardB (!rd || (match q.1 with | .push=>true | .set _=>false)) <|
      (compOps P nt vars ops b draw l q.2 (bif rd then (i,{ guard:=g,sh:=sh.1,xs,ans:=.loc c.cnt })::rs else rs)).bind fun r =>
        some ({ guard:=relG c.cnt g,sh:=sh.1,xs:=xs.map (relX c.cnt),dst:=q.1,again:=ag.map fun(r:Nat×CRd)=>relRd q.2.cnt r.2 }::r)
inductive CCode where
  | skip
  | ops (l:List CItem)
  | seq (a b:CCode)
  | cond (x:CX) (a b:CCode)
  | block (id:Nat) (c:CCode)
  | loop (c:CCode)
  | rangeFunc (fn:FuncId) (f:CX) (params:Array Tmp) (assign body:Code)
  | exit (id:Nat)
  | ret
  | never
def opsOr:Option (List CItem)→CCode
  | some l=>.ops l
  | none=>.never
def compCode(P:Program)(fn:FuncId)(nt:Nat)(vars:List Tmp):Code→CCode
  | .skip | .label _=>.skip
  | .ret=>.ret
  | .exit id=>.exit id
  | .goto _ | .refuse _=>.never
  | .region _ ops draw=>match draw with
    | false=>opsOr (compOps P nt vars ops #[] false (List.range ops.size) ⟨[],0⟩ [])
    | true=>opsOr (guardB (planOk P ops (Region.before ops) [] (plan P ops)) (compOps P nt vars ops (Region.before ops) true (plan P ops) ⟨[],0⟩ []))
  | .seq a b=>.seq (compCode P fn nt vars a) (compCode P fn nt vars b)
  | .cond c a b=>match opndX vars ⟨[],0⟩ c with
    | some z=>.cond z (compCode P fn nt vars a) (compCode P fn nt vars b)
    | none=>.never
  | .block id c=>.block id (compCode P fn nt vars c)
  | .loop c=>.loop (compCode P fn nt vars c)
  | .scope c=>compCode P fn nt vars c
  | .rangeFunc f ps a b=>match opndX vars ⟨[],0⟩ f with
    | some x=>.rangeFunc fn x ps a b
    | none=>.never
structure CFunc where
  na:Nat
  nv:Nat
  body:CCode
  results:List (CX×Option TypeId)
def compResults(vars:List Tmp):List ResultVar→Option (List (CX×Option TypeId))
  | []=>some []
  | .tmp t::l=>(placeIn vars t).bind fun j=>(compResults vars l).bind fun r=>some ((.var j,none)::r)
  | .cell t ty::l=>(placeIn vars t).bind fun j=>(compResults vars l).bind fun r=>some ((.var j,some ty)::r)
def compFunc(P:Program)(f:FuncId):Option CFunc:=(P.funcs[f]?).bind fun fn=>fn.body.bind fun c =>
  guardB (Nat.ble (argsOf fn) fn.ntmps) <|
  let vars:=varsOf P fn
  (compResults vars fn.results.toList).bind fun r =>
    some { na:=argsOf fn,nv:=vars.length,body:=compCode P f fn.ntmps vars c,results:=r }
def nth (l:List AV):Nat→AV:=
  List.rec (fun _=>undefA) (fun a _ ih i=>Nat.rec a (fun i _=>ih i) i) l
def upd (v:AV) (l:List AV):Nat→List AV:=
  List.rec (fun _=>[]) (fun a l ih i=>Nat.rec (v::l) (fun i _=>a::ih i) i) l
def cev (loc var:List AV) (x:CX):AV:=
  match x with
  | .loc i=>nth loc i
  | .var j=>nth var j
  | .const v=>v
def cevs (loc var:List AV) (l:List CX):List AV:=
  List.rec [] (fun x _ ih=>cev loc var x::ih) l
inductive AExit where
  | normal | exit (id:Nat) | ret
structure ARes where
  exit:AExit
  var:List AV
  marks:List Nat
  st:ASt
def eqA:AV→AV→Bool
  | .bool a,.bool b=>a == b
  | .int k a,.int k' b=>sameKind k k' && eqI a b
  | .str a,.str b=>strEq a b
  | .ptr none,.ptr none=>true
  | .ptr (some (i,o)),.ptr (some (j,p))=>Nat.beq i j && Nat.beq o p
  | .slice none n (some c),.slice none n' (some c')=>Nat.beq n n' && Nat.beq c c'
  | .slice none n none,.slice none n' none=>Nat.beq n n'
  | .slice (some (i,o)) n none,.slice (some (j,p)) n' none=>Nat.beq i j && Nat.beq o p && Nat.beq n n'
  | .slice (some (i,o)) n (some c),.slice (some (j,p)) n' (some c')=>Nat.beq i j && Nat.beq o p && Nat.beq n n' && Nat.beq c c'
  | .map none,.map none=>true
  | .map (some i),.map (some j)=>Nat.beq i j
  | .func f a c,.func g b d=>Nat.beq f g && eqAs a b && eqAs c d
  | .nilFunc,.nilFunc=>true
  | .nilIface,.nilIface=>true
  | .yield i,.yield j=>Nat.beq i j
  | .agg a,.agg b=>eqAs a b
  | .tuple a,.tuple b=>eqAs a b
  | _,_=>false
where
  eqAs:List AV→List AV→Bool
  | [],[]=>true
  | a::x,b::y=>eqA a b && eqAs x y
  | _,_=>false
abbrev NatF:=FuncId→List AV→ASt→Option (AV×ASt)
structure Env where
  P:Program
  nat:NatF
structure Fns where
  code:Option Nat→CCode→List AV→List Nat→ASt→Option ARes
  call:FuncId→List AV→ASt→Option (AV×ASt)
  round:Nat→List AV→ASt→Option (AV×ASt)
def callV(F:Fns)(f:AV)(args:List AV)(s:ASt):Option (AV×ASt):=
  match f with
  | .func f first cap=>F.call f (first++(args++cap)) s
  | .yield l=>F.round l args s
  | _=>none
def withS(s:ASt)(x:Option AV):Option (AV×ASt):=match x with
  | some v=>some (v,s)
  | none=>none
def one{α:Type}(f:AV→Option α):List AV→Option α
  | [a]=>f a
  | _=>none
def readA(sh:Sh)(xs:List AV)(s:ASt):Option AV:=
  match sh with
  | .r1 f=>one (f s) xs
  | .r f=>f s xs
  | _=>none
def madeA(s:ASt)(r:Option (AObj×Made)):Option (AV×ASt):=match r with
  | some p=>some (p.2.val s.next,newObj s p.1)
  | none=>none
def hd1 {α:Type} (f:CX→Option α) (xs:List CX):Option α:=List.rec none (fun x _ _=>f x) xs
def hd2 {α:Type} (f:CX→CX→Option α) (xs:List CX):Option α:=hd1 (fun x=>hd1 (f x) xs.tail) xs
def shP1 (f:AV→Option AV) (xs:List CX) (loc var:List AV) (s:ASt):Option (AV×ASt):=hd1 (fun x=>withS s (f (cev loc var x))) xs
def shP2 (f:AV→AV→Option AV) (xs:List CX) (loc var:List AV) (s:ASt):Option (AV×ASt):=hd2 (fun x y=>withS s (f (cev loc var x) (cev loc var y))) xs
def shR1 (f:ASt→AV→Option AV) (xs:List CX) (loc var:List AV) (s:ASt):Option (AV×ASt):=hd1 (fun x=>withS s (f s (cev loc var x))) xs
def shV (F:Fns) (xs:List CX) (loc var:List AV) (s:ASt):Option (AV×ASt):=hd1 (fun x=>callV F (cev loc var x) (cevs loc var xs.tail) s) xs
def shA (F:Fns) (sh:Sh) (xs:List CX) (loc var:List AV) (s:ASt):Option (AV×ASt):=
  match sh with
  | .p1 f=>shP1 f xs loc var s
  | .p2 f=>shP2 f xs loc var s
  | .p f=>withS s (f (cevs loc var xs))
  | .r1 f=>shR1 f xs loc var s
  | .r f=>withS s (f s (cevs loc var xs))
  | .mk f=>madeA s (f (cevs loc var xs))
  | .e f=>f s (cevs loc var xs)
  | .call f=>F.call f (cevs loc var xs) s
  | .callv=>shV F xs loc var s
def isB(want:Bool):AV→Bool
  | .bool b=>b == want
  | _=>false
def wantedA (loc var:List AV) (g:Option (CX×Bool)):Bool:=
  match g with
  | none=>true
  | some p=>isB p.2 (cev loc var p.1)
def sameA(x:Option AV)(v:AV):Bool:=match x with
  | some u=>eqA u v
  | none=>false
def again1 (s:ASt) (loc var:List AV) (r:CRd):Bool:=
  !wantedA loc var r.guard || sameA (readA r.sh (cevs loc var r.xs) s) (cev loc var r.ans)
def againA (s:ASt) (loc var:List AV) (l:List CRd):Bool:=
  List.rec true (fun r _ ih=>again1 s loc var r && ih) l
abbrev Cont:=List AV→List AV→ASt→Option (List AV×ASt)
def itemDst (ag:List CRd) (d:CDst) (k:Cont) (loc var:List AV) (v:AV) (s:ASt):Option (List AV×ASt):=
  match d with
  | .push=>bif againA s (v::loc) var ag then k (v::loc) var s else none
  | .set j=>bif againA s loc (upd v var j) ag then k loc (upd v var j) s else none
def itemRes (it:CItem) (k:Cont) (loc var:List AV) (r:Option (AV×ASt)):Option (List AV×ASt):=
  match r with
  | none=>none
  | some p=>itemDst it.again it.dst k loc var p.1 p.2
def item1 (F:Fns) (it:CItem) (k:Cont) (loc var:List AV) (s:ASt):Option (List AV×ASt):=
  match wantedA loc var it.guard with
  | true=>itemRes it k loc var (shA F it.sh it.xs loc var s)
  | false=>itemDst [] it.dst k loc var undefA s
def itemsA (F:Fns) (l:List CItem):Cont:=
  List.rec (fun _ var s=>some (var,s)) (fun it _ ih loc var s=>item1 F it ih loc var s) l
def Ql(l:List AV):Nat→List AV
  | 0=>[]
  | n+1=>match l with
    | []=>undefA::Ql [] n
    | a::l=>a::Ql l n
def resultsA (P:Program) (s:ASt) (var:List AV):List (CX×Option TypeId)→Option (List AV)
  | []=>some []
  | (x,none)::l=>(resultsA P s var l).bind fun r=>some (cev [] var x::r)
  | (x,some t)::l=>(loadV P s t (cev [] var x)).bind fun v=>(resultsA P s var l).bind fun r=>some (v::r)
def oneOrTuple:List AV→AV
  | [v]=>v
  | l=>.tuple l
def unmark(s:ASt):List Nat→Option ASt
  | []=>some s
  | i::l=>match s.heap.get i with
    | some .mark=>unmark (delObj s i) l
    | _=>none
def exitCode:AExit→Option Code
  | .normal=>none
  | .ret=>some .ret
  | .exit id=>some (.exit id)
def zipParams (vars:List Tmp) (var:List AV):List Tmp→List AV→Option (List AV)
  | [],[]=>some var
  | t::ts,v::vs=>(placeIn vars t).bind fun j=>zipParams vars (upd v var j) ts vs
  | _,_=>none
def loopAt(s:ASt)(l:Nat):Option ALoop:=match s.heap.get l with
  | some (.loop r)=>some r
  | _=>none
def compIn(P:Program)(f:FuncId)(c:Code):Option CCode:=(P.funcs[f]?).bind fun fn=>some (compCode P f fn.ntmps (varsOf P fn) c)
def varsIn(P:Program)(f:FuncId):List Tmp:=match P.funcs[f]? with
  | some fn=>varsOf P fn
  | none=>[]
def cOps(marks:List Nat)(r:Option (List AV×ASt)):Option ARes:=match r with
  | some p=>some ⟨.normal,p.1,marks,p.2⟩
  | none=>none
def cSeq2(F:Fns)(rnd:Option Nat)(b:CCode)(r:ARes):Option ARes:=match r.exit with
  | .normal=>F.code rnd b r.var r.marks r.st
  | _=>some r
def cSeq(F:Fns)(rnd:Option Nat)(b:CCode)(r:Option ARes):Option ARes:=match r with
  | some r=>cSeq2 F rnd b r
  | none=>none
def cCond(F:Fns)(rnd:Option Nat)(a b:CCode)(var:List AV)(marks:List Nat)(s:ASt)(v:AV):Option ARes:=match v with
  | .bool t=>match t with
    | true=>F.code rnd a var marks s
    | false=>F.code rnd b var marks s
  | _=>none
def cBlock2(id:Nat)(r:ARes):Option ARes:=match r.exit with
  | .exit id'=>bif Nat.beq id' id then some ⟨.normal,r.var,r.marks,r.st⟩else some r
  | _=>some r
def cBlock(id:Nat)(r:Option ARes):Option ARes:=match r with
  | some r=>cBlock2 id r
  | none=>none
def cPending(var:List AV)(marks:List Nat)(s:ASt)(c:Option Code):Option ARes:=match c with
  | none=>some ⟨.normal,var,marks,s⟩
  | some .ret=>some ⟨.ret,var,marks,s⟩
  | some (.exit id)=>some ⟨.exit id,var,marks,s⟩
  | some _=>none
def isBusy:LoopState→Bool
  | .busy=>true
  | _=>false
def isReady:LoopState→Bool
  | .ready=>true
  | _=>false
def cRangeEnd(var:List AV)(marks:List Nat)(l:Nat)(q:Option (AV×ASt)):Option ARes:=
  q.bind fun q=>(loopAt q.2 l).bind fun r=>bif isBusy r.state then none else
    cPending var marks (setObj q.2 l (.loop { r with state:=.exhausted })) r.pending
def cRange2(F:Fns)(var:List AV)(f:AV)(params:Array Tmp)(assign body:Code)(fn:FuncId)(dfr:Nat)(marks:List Nat)(s:ASt):Option ARes:=
  cRangeEnd var marks s.next (callV { F with round:=fun _ _ _=>none } f [.yield s.next] (newObj s (.loop { state:=.ready,pending:=none,fn,var,params,assign,body,dfr })))
def cRange(F:Fns)(rnd:Option Nat)(fn:FuncId)(f:AV)(params:Array Tmp)(assign body:Code)(var:List AV)(marks:List Nat)(s:ASt):Option ARes:=
  match rnd with
  | some l=>(loopAt s l).bind fun r=>cRange2 F var f params assign body fn r.dfr marks s
  | none=>cRange2 F var f params assign body fn s.next (s.next::marks) (newObj s .mark)
def stepC (F:Fns) (rnd:Option Nat) (c:CCode) (var:List AV) (marks:List Nat) (s:ASt):Option ARes:=
  match c with
  | .skip=>some ⟨.normal,var,marks,s⟩
  | .ret=>some ⟨.ret,var,marks,s⟩
  | .exit id=>some ⟨.exit id,var,marks,s⟩
  | .never=>none
  | .ops l=>cOps marks (itemsA F l [] var s)
  | .seq a b=>cSeq F rnd b (F.code rnd a var marks s)
  | .cond x a b=>cCond F rnd a b var marks s (cev [] var x)
  | .block id body=>cBlock id (F.code rnd body var marks s)
  | .loop body=>cSeq F rnd (.loop body) (F.code rnd body var marks s)
  | .rangeFunc fn f params assign body=>cRange F rnd fn (cev [] var f) params assign body var marks s
def isEnd:AExit→Bool
  | .normal | .ret=>true
  | .exit _=>false
def callEnd (P:Program) (cf:CFunc) (r:Option ARes):Option (AV×ASt):=
  r.bind fun r=>bif isEnd r.exit then (unmark r.st r.marks).bind fun s=>(resultsA P s r.var cf.results).bind fun l=>some (oneOrTuple l,s)else none
def callBody (P:Program) (F:Fns) (args:List AV) (s:ASt) (cf:Option CFunc):Option (AV×ASt):=
  cf.bind fun cf=>bif Nat.beq args.length cf.na then callEnd P cf (F.code none cf.body (Ql args cf.nv) [] s)else none
def stepF (E:Env) (F:Fns) (f:FuncId) (args:List AV) (s:ASt):Option (AV×ASt):=
  match E.nat f args s with
  | some p=>some p
  | none=>callBody E.P F args s (compFunc E.P f)
def isNormal:AExit→Bool
  | .normal=>true
  | _=>false
def stateOf:Option Code→LoopState
  | none=>.ready
  | some _=>.done
def roundEnd(l:Nat)(q:Option ARes):Option (AV×ASt):=q.bind fun q=>(loopAt q.st l).bind fun r =>
  some (.bool (exitCode q.exit).isNone,setObj q.st l (.loop { r with state:=stateOf (exitCode q.exit),pending:=exitCode q.exit }))
def roundBody(F:Fns)(l:Nat)(cb:CCode)(q:Option ARes):Option (AV×ASt):=q.bind fun q=>bif isNormal q.exit then
    (loopAt q.st l).bind fun r=>bif isReady r.state then roundEnd l (F.code (some l) cb q.var q.marks (setObj q.st l (.loop { r with state:=.busy })))else none
  else none
def stepR (E:Env) (F:Fns) (l:Nat) (args:List AV) (s:ASt):Option (AV×ASt):=
  (loopAt s l).bind fun r=>(zipParams (varsIn E.P r.fn) r.var r.params.toList args).bind fun var =>
    (compIn E.P r.fn r.assign).bind fun ca=>(compIn E.P r.fn r.body).bind fun cb=>roundBody F l cb (F.code (some l) ca var [] s)
def noFns:Fns:=⟨fun _ _ _ _ _=>none,fun _ _ _=>none,fun _ _ _=>none⟩
def mkFns (E:Env) (F:Fns):Fns:=⟨stepC F,stepF E F,stepR E F⟩
def runA (E:Env) (n:Nat):Fns:=Nat.rec noFns (fun _ F=>mkFns E F) n
end
end Go.Proofs.Ytilhhmkdcoajnaa.Am
