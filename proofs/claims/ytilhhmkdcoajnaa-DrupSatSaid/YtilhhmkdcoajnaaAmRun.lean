/- Code of the model compiled to positions in lists, and its evaluation; conditions: none (it only computes). -/
import Derived.Test.YtilhhmkdcoajnaaAmDef
namespace Go.Proofs.Ytilhhmkdcoajnaa.Am
open Go
noncomputable section
inductive Sh where
  | p1 (f:AV→Option AV)
  | p2 (f:AV→AV→Option AV)
  | p (f:List AV→Option AV)
  | r1 (f:ASt→AV→Option AV)
  | r (f:ASt→List AV→Option AV)
  | mk (f:List AV→Option (Cv×Bv))
  | e (f:ASt→List AV→Option (AV×ASt))
  | call (f:FuncId)
  | callv
def Sh.isEff:Sh→Bool
  | .e _ | .call _ | .callv=>true
  | _=>false
def Sh.isRead:Sh→Bool
  | .r1 _ | .r _=>true
  | _=>false
def Rn:List AV→Option AV
  | [c,a,b]=>Ro c a b
  | _=>none
def on2{α:Type}(f:AV→AV→Option α):List AV→Option α
  | [a,b]=>f a b
  | _=>none
def on3{α:Type}(f:AV→AV→AV→Option α):List AV→Option α
  | [a,b,c]=>f a b c
  | _=>none
def AT(x:Option ASt):Option (AV×ASt):=match x with
  | some s=>some (Au,s)
  | none=>none
def AW(P:Program)(t:TypeId)(lo hi mx:Bool)(s:ASt):List AV→Option AV
  | [x]=>match lo,hi,mx with
    | false,false,false=>Ap P s t x none none none
    | _,_,_=>none
  | [x,a]=>match lo,hi,mx with
    | true,false,false=>Ap P s t x (some a) none none
    | false,true,false=>Ap P s t x none (some a) none
    | _,_,_=>none
  | [x,a,b]=>match lo,hi,mx with
    | true,true,false=>Ap P s t x (some a) (some b) none
    | false,true,true=>Ap P s t x none (some a) (some b)
    | _,_,_=>none
  | [x,a,b,c]=>match lo,hi,mx with
    | true,true,true=>Ap P s t x (some a) (some b) (some c)
    | _,_,_=>none
  | _=>none
def zipIdx(is:List Nat)(l:List AV):List (Nat×AV):=is.zip l
def BZ(P:Program)(o:Op):Option (Sh×List Operand):=
  match o with
  | .move x | .assign x=>some (.p1 some,[x])
  | .pick c a b=>some (.p Rn,[c,a,b])
  | .build t ps=>some (.p (fun l=>Bz P t (zipIdx (ps.toList.map (·.1)) l)),ps.toList.map (·.2))
  | .nilCheck x=>some (.p1 AE,[x])
  | .binOp op t x y _=>some (.p2 (AI P op t),[x,y])
  | .unOp op _ x=>some (.p1 (unA P op),[x])
  | .makeFunc fn first captured=>match fn with
    | .func f=>some (.p (fun l=>some (.func f (l.take first.size) (l.drop first.size))),first.toList++captured.toList)
    | _=>none
  | .fieldAddr t x f=>some (.p1 (fun x=>AB P t x f),[x])
  | .field t x f=>some (.p1 (fun x=>SO P t x f),[x])
  | .indexAddr t x i=>some (.p2 (AC P t),[x,i])
  | .index t x i=>some (.p2 (Hk P t),[x,i])
  | .extract t i=>some (.p1 (fun x=>Rp x i),[t])
  | .load t a=>some (.r1 (fun s a=>AD P s t a),[a])
  | .lookup t m k ok=>some (.r (fun s=>on2 (fun m k=>C6 P s t m k ok)),[m,k])
  | .convert src dst x=>some (.r1 (fun s x=>Cj P s src dst x),[x])
  | .slice t x lo hi mx=>some (.r (AW P t lo.isSome hi.isSome mx.isSome),[x]++lo.toList++hi.toList++mx.toList)
  | .alloc e=>some (.mk (fun l=>match l with | []=>BE P e | _=>none),[])
  | .box e x=>some (.mk (fun l=>match l with | [v]=>CL e v | _=>none),[x])
  | .buildSlice t len ps=>some (.mk (fun l=>(Ad P t len (zipIdx (ps.toList.map (·.1)) l)).bind fun r=>some (r,.slice len)),ps.toList.map (·.2))
  | .makeMap _ none=>some (.mk (fun l=>match l with | []=>some (.map [] 0,.map) | _=>none),[])
  | .makeSlice t l c=>some (.mk (on2 (Hm P t)),[l,c])
  | .store t a x=>some (.e (fun s=>on2 (fun a x=>AT (AN P s t a x))),[a,x])
  | .mapUpdate t m k x | .insert t m k x=>some (.e (fun s=>on3 (fun m k x=>AT (ED P s t m k x))),[m,k,x])
  | .call { callee,args,argTypes }=>match callee with
    | .value (.func f)=>some (.call f,args.toList)
    | .value x=>some (.callv,x::args.toList)
    | .invoke ..=>none
    | .builtin b=>match b with
      | .len=>match argTypes[0]? with
        | some t=>some (.r (fun s l=>match l with | [x]=>Ao P s t x | _=>none),args.toList)
        | none=>none
      | .cap=>match argTypes[0]? with
        | some t=>some (.r (fun s l=>match l with | [x]=>MD P s t x | _=>none),args.toList)
        | none=>none
      | .min=>some (.p (fun l=>match l with | v::l=>DU false v l | []=>none),args.toList)
      | .max=>some (.p (fun l=>match l with | v::l=>DU true v l | []=>none),args.toList)
      | .append=>some (.e (fun s l=>AY P s argTypes.toList l),args.toList)
      | .copy=>some (.e (fun s l=>ZJ P s argTypes.toList l),args.toList)
      | .clear=>some (.e (fun s l=>Ez P s argTypes.toList l),args.toList)
      | .delete=>match argTypes[0]? with
        | some t=>some (.e (fun s=>on2 (fun m k=>AT (KA P s t m k))),args.toList)
        | none=>none
      | _=>none
  | _=>none
def bit(t:Nat):Nat:=Nat.shiftLeft 1 t
def Gn:List Operand→Nat
  | []=>0
  | .tmp t::l=>Nat.lor (bit t) (Gn l)
  | _::l=>Gn l
def K7(P:Program):List Oper→Nat→Nat→Nat
  | [],_,e=>e
  | o::l,wr,e =>
    let rd:=match BZ P o.op with
      | some (_,xs)=>Gn xs
      | none=>0
    K7 P l (match o.dst with | some d=>Nat.lor wr (bit d) | none=>wr) (Nat.lor e (Nat.sub rd (Nat.land rd wr)))
def Em(P:Program):Code→Nat
  | .region _ ops _=>K7 P ops.toList 0 0
  | .seq a b=>Nat.lor (Em P a) (Em P b)
  | .cond c a b=>Nat.lor (Gn [c]) (Nat.lor (Em P a) (Em P b))
  | .block _ b | .loop b | .scope b=>Em P b
  | .rangeFunc f ps a b=>Nat.lor (Gn [f]) (Nat.lor (ps.toList.foldl (fun m t=>Nat.lor m (bit t)) 0) (Nat.lor (Em P a) (Em P b)))
  | _=>0
def Hq:List ResultVar→Nat
  | []=>0
  | .tmp t::l | .cell t _::l=>Nat.lor (bit t) (Hq l)
def Fi(m:Nat):Nat→Nat→List Nat
  | 0,_=>[]
  | n+1,k=>bif m.testBit k then k::Fi m n (k+1)else Fi m n (k+1)
def DS(fn:Func):Nat:=fn.params.size+fn.nfree
def BN(P:Program)(fn:Func):List Tmp:=
  List.range (DS fn)++match fn.body with
  | none=>[]
  | some c=>Fi (Nat.lor (Em P c) (Hq fn.results.toList)) (fn.ntmps - DS fn) (DS fn)
def Bu:List Tmp→Tmp→Option Nat
  | [],_=>none
  | a::l,t=>bif Nat.beq a t then some 0 else (Bu l t).bind fun j=>some (j+1)
def O6(P:Program)(o:Oper):Bool:=match BZ P o.op with
  | some (s,_)=>s.isEff
  | none=>true
def T5(b:Array Nat)(done:Nat)(i:Nat):Bool:=Nat.beq (Nat.land (b.getD i 0) done) (b.getD i 0)
def Sn(P:Program)(ops:Array Oper)(b:Array Nat):Nat→Nat→List Nat→List Nat→List Nat
  | 0,_,_,acc=>acc.reverse
  | f+1,done,todo,acc =>
    match todo.find? fun i=>T5 b done i && !O6 P (ops.getD i default)with
    | some i=>Sn P ops b f (done+2 ^ i) (todo.filter fun j=>!Nat.beq j i) (i::acc)
    | none=>match todo.find? fun i=>T5 b done i with
      | some i=>Sn P ops b f (done+2 ^ i) (todo.filter fun j=>!Nat.beq j i) (i::acc)
      | none=>acc.reverse
def dF(P:Program)(ops:Array Oper):List Nat:=Sn P ops (Region.before ops) ops.size 0 (List.range ops.size) []
def F5(P:Program)(o:Oper):List Tmp:=o.dst.toList++((match BZ P o.op with
  | some (_,xs)=>xs
  | none=>[]).filterMap fun x:Operand=>match x with
    | .tmp t=>some t
    | _=>none)
def Tt(o:Oper):List Nat:=match o.guard with
  | some (j,_)=>[j]
  | none=>[]
def OI(P:Program)(ops:Array Oper)(b:Array Nat)(before:List Nat)(i:Nat):Bool:=
  let o:=ops.getD i default
  let anc:=b.getD i 0
  Nat.blt i ops.size && !before.contains i &&
  (List.range ops.size).all (fun j=>!anc.testBit j || before.contains j) &&
  o.after.all (fun e=>!Region.binds .any e || before.contains e.on) &&
  before.all (fun j=>!O6 P (ops.getD j default) || anc.testBit j) &&
  (Tt o).all (fun j=>anc.testBit j) &&
  before.all (fun j=>let p:=ops.getD j default
    (match o.dst with
      | none=>true
      | some d=>p.dst != some d && (!(F5 P p).contains d || anc.testBit j)) &&
    (match p.dst with
      | none=>true
      | some d=>!(F5 P o).contains d || anc.testBit j))
def FA(P:Program)(ops:Array Oper)(b:Array Nat):List Nat→List Nat→Bool
  | before,[]=>Nat.beq before.length ops.size
  | before,i::l=>OI P ops b before i && FA P ops b (before++[i]) l
inductive Jv where
  | push | set (j:Nat)
structure CRd where
  guard:Option (CX×Bool)
  sh:Sh
  xs:List CX
  ans:CX
structure AA where
  guard:Option (CX×Bool)
  sh:Sh
  xs:List CX
  dst:Jv
  again:List CRd
structure CSt where
  map:List (Tmp×CX)
  cnt:Nat
def EZ:List (Tmp×CX)→Tmp→Option CX
  | [],_=>none
  | (a,x)::l,t=>bif Nat.beq a t then some x else EZ l t
def CY(cnt:Nat):CX→CX
  | .loc p=>.loc (cnt - 1 - p)
  | x=>x
def Ec(vars:List Tmp)(c:CSt)(t:Tmp):Option CX:=
  match EZ c.map t with
  | some x=>some x
  | none=>(Bu vars t).bind fun j=>some (.var j)
def FN(vars:List Tmp)(c:CSt):Operand→Option CX
  | .tmp t=>Ec vars c t
  | .const v=>(ofValue v).bind fun a=>some (.const a)
  | .global _=>none
  | .func f=>some (.const (.func f [] []))
def Ho(vars:List Tmp)(c:CSt):List Operand→Option (List CX)
  | []=>some []
  | x::l=>(FN vars c x).bind fun a=>(Ho vars c l).bind fun r=>some (a::r)
def IV(j:Nat):CX→Bool
  | .var i=>Nat.beq i j
  | _=>false
def Ic(j:Nat):List (Tmp×CX)→Bool
  | []=>true
  | (_,x)::l=>!IV j x && Ic j l
def J6(vars:List Tmp)(later:List (Option Tmp))(o:Oper)(x:CX):Bool:=
  (match o.op with | .move _=>true | _=>false) && o.guard.isNone &&
  (match o.dst with | some d=>(Bu vars d).isNone | none=>false) &&
  (match x with
    | .var j=>!(later.any fun d=>match d with
      | some t=>match Bu vars t with
        | some i=>Nat.beq i j
        | none=>false
      | none=>false)
    | _=>true)
def HJ(cnt:Nat):Option (CX×Bool)→Option (CX×Bool)
  | none=>none
  | some (x,b)=>some (CY cnt x,b)
def Ih(cnt:Nat)(r:CRd):CRd:={ guard:=HJ cnt r.guard,sh:=r.sh,xs:=r.xs.map (CY cnt),ans:=CY cnt r.ans }
def N9(j:Nat)(r:CRd):Bool:=(match r.guard with | none=>true | some (x,_)=>!IV j x) && r.xs.all fun x=>!IV j x
def Ek(P:Program)(nt:Nat)(vars:List Tmp)(ops:Array Oper)(b:Array Nat)(draw:Bool):List Nat→CSt→List (Nat×CRd)→Option (List AA)
  | [],_,_=>some []
  | i::l,c,rs=>(ops[i]?).bind fun o=>(BZ P o.op).bind fun sh=>(Ho vars c sh.2).bind fun xs =>
    match (match xs with | [x]=>bif J6 vars (l.map fun j=>(ops.getD j default).dst) o x then some x else none | _=>none),o.dst with
    | some x,some d=>AF (Nat.blt d nt) (Ek P nt vars ops b draw l { c with map:=(d,x)::c.map } rs)
    | _,_ =>
      (match o.guard with
        | none=>some none
        | some (j,want)=>(ops[j]?).bind fun p=>p.dst.bind fun d=>(Ec vars c d).bind fun x=>some (some (x,want))).bind fun g =>
      (match o.dst with
        | none=>some (Jv.push,{ c with cnt:=c.cnt+1 })
        | some d=>AF (Nat.blt d nt) <| match Bu vars d with
          | some j=>AF (Ic j c.map && rs.all fun r=>N9 j r.2) (some (Jv.set j,c))
          | none=>some (Jv.push,{ map:=(d,.loc c.cnt)::c.map,cnt:=c.cnt+1 })).bind fun q =>
      let ag:=match draw,sh.1.isEff with
        | true,true=>rs.filter fun(r:Nat×CRd)=>!(b.getD i 0).testBit r.1
        | _,_=>[]
      let rd:=draw && sh.1.isRead
      AF (!rd || (match q.1 with | .push=>true | .set _=>false)) <|
      (Ek P nt vars ops b draw l q.2 (bif rd then (i,{ guard:=g,sh:=sh.1,xs,ans:=.loc c.cnt })::rs else rs)).bind fun r =>
        some ({ guard:=HJ c.cnt g,sh:=sh.1,xs:=xs.map (CY c.cnt),dst:=q.1,again:=ag.map fun(r:Nat×CRd)=>Ih q.2.cnt r.2 }::r)
inductive AX where
  | skip
  | ops (l:List AA)
  | seq (a b:AX)
  | cond (x:CX) (a b:AX)
  | block (id:Nat) (c:AX)
  | loop (c:AX)
  | rangeFunc (fn:FuncId) (f:CX) (params:Array Tmp) (assign body:Code)
  | exit (id:Nat)
  | ret
  | never
def iq:Option (List AA)→AX
  | some l=>.ops l
  | none=>.never
def BG(P:Program)(fn:FuncId)(nt:Nat)(vars:List Tmp):Code→AX
  | .skip | .label _=>.skip
  | .ret=>.ret
  | .exit id=>.exit id
  | .goto _ | .refuse _=>.never
  | .region _ ops draw=>match draw with
    | false=>iq (Ek P nt vars ops #[] false (List.range ops.size) ⟨[],0⟩ [])
    | true=>iq (AF (FA P ops (Region.before ops) [] (dF P ops)) (Ek P nt vars ops (Region.before ops) true (dF P ops) ⟨[],0⟩ []))
  | .seq a b=>.seq (BG P fn nt vars a) (BG P fn nt vars b)
  | .cond c a b=>match FN vars ⟨[],0⟩ c with
    | some z=>.cond z (BG P fn nt vars a) (BG P fn nt vars b)
    | none=>.never
  | .block id c=>.block id (BG P fn nt vars c)
  | .loop c=>.loop (BG P fn nt vars c)
  | .scope c=>BG P fn nt vars c
  | .rangeFunc f ps a b=>match FN vars ⟨[],0⟩ f with
    | some x=>.rangeFunc fn x ps a b
    | none=>.never
structure Ar where
  na:Nat
  nv:Nat
  body:AX
  results:List (CX×Option TypeId)
def Cx(vars:List Tmp):List ResultVar→Option (List (CX×Option TypeId))
  | []=>some []
  | .tmp t::l=>(Bu vars t).bind fun j=>(Cx vars l).bind fun r=>some ((.var j,none)::r)
  | .cell t ty::l=>(Bu vars t).bind fun j=>(Cx vars l).bind fun r=>some ((.var j,some ty)::r)
def AQ(P:Program)(f:FuncId):Option Ar:=(P.funcs[f]?).bind fun fn=>fn.body.bind fun c =>
  AF (Nat.ble (DS fn) fn.ntmps) <|
  let vars:=BN P fn
  (Cx vars fn.results.toList).bind fun r =>
    some { na:=DS fn,nv:=vars.length,body:=BG P f fn.ntmps vars c,results:=r }
def nth (l:List AV):Nat→AV:=
  List.rec (fun _=>Au) (fun a _ ih i=>Nat.rec a (fun i _=>ih i) i) l
def upd (v:AV) (l:List AV):Nat→List AV:=
  List.rec (fun _=>[]) (fun a l ih i=>Nat.rec (v::l) (fun i _=>a::ih i) i) l
def cev (loc var:List AV) (x:CX):AV:=
  match x with
  | .loc i=>nth loc i
  | .var j=>nth var j
  | .const v=>v
def D0 (loc var:List AV) (l:List CX):List AV:=
  List.rec [] (fun x _ ih=>cev loc var x::ih) l
inductive Ja where
  | normal | exit (id:Nat) | ret
structure A6 where
  exit:Ja
  var:List AV
  marks:List Nat
  st:ASt
def eqA:AV→AV→Bool
  | .bool a,.bool b=>a == b
  | .int k a,.int k' b=>Bs k k' && eqI a b
  | .str a,.str b=>GI a b
  | .ptr none,.ptr none=>true
  | .ptr (some (i,o)),.ptr (some (j,p))=>Nat.beq i j && Nat.beq o p
  | .slice none n (some c),.slice none n' (some c')=>Nat.beq n n' && Nat.beq c c'
  | .slice none n none,.slice none n' none=>Nat.beq n n'
  | .slice (some (i,o)) n none,.slice (some (j,p)) n' none=>Nat.beq i j && Nat.beq o p && Nat.beq n n'
  | .slice (some (i,o)) n (some c),.slice (some (j,p)) n' (some c')=>Nat.beq i j && Nat.beq o p && Nat.beq n n' && Nat.beq c c'
  | .map none,.map none=>true
  | .map (some i),.map (some j)=>Nat.beq i j
  | .func f a c,.func g b d=>Nat.beq f g && eqAs a b && eqAs c d
  | .nilFunc,.nilFunc=>true
  | .nilIface,.nilIface=>true
  | .yield i,.yield j=>Nat.beq i j
  | .agg a,.agg b=>eqAs a b
  | .tuple a,.tuple b=>eqAs a b
  | _,_=>false
where
  eqAs:List AV→List AV→Bool
  | [],[]=>true
  | a::x,b::y=>eqA a b && eqAs x y
  | _,_=>false
abbrev ak:=FuncId→List AV→ASt→Option (AV×ASt)
structure Env where
  P:Program
  nat:ak
structure Fns where
  code:Option Nat→AX→List AV→List Nat→ASt→Option A6
  call:FuncId→List AV→ASt→Option (AV×ASt)
  round:Nat→List AV→ASt→Option (AV×ASt)
def GY(F:Fns)(f:AV)(args:List AV)(s:ASt):Option (AV×ASt):=
  match f with
  | .func f first cap=>F.call f (first++(args++cap)) s
  | .yield l=>F.round l args s
  | _=>none
def Dy(s:ASt)(x:Option AV):Option (AV×ASt):=match x with
  | some v=>some (v,s)
  | none=>none
def one{α:Type}(f:AV→Option α):List AV→Option α
  | [a]=>f a
  | _=>none
def Eb(sh:Sh)(xs:List AV)(s:ASt):Option AV:=
  match sh with
  | .r1 f=>one (f s) xs
  | .r f=>f s xs
  | _=>none
def PR(s:ASt)(r:Option (Cv×Bv)):Option (AV×ASt):=match r with
  | some p=>some (p.2.val s.next,AH s p.1)
  | none=>none
def hd1 {α:Type} (f:CX→Option α) (xs:List CX):Option α:=List.rec none (fun x _ _=>f x) xs
def hd2 {α:Type} (f:CX→CX→Option α) (xs:List CX):Option α:=hd1 (fun x=>hd1 (f x) xs.tail) xs
def shP1 (f:AV→Option AV) (xs:List CX) (loc var:List AV) (s:ASt):Option (AV×ASt):=hd1 (fun x=>Dy s (f (cev loc var x))) xs
def shP2 (f:AV→AV→Option AV) (xs:List CX) (loc var:List AV) (s:ASt):Option (AV×ASt):=hd2 (fun x y=>Dy s (f (cev loc var x) (cev loc var y))) xs
def shR1 (f:ASt→AV→Option AV) (xs:List CX) (loc var:List AV) (s:ASt):Option (AV×ASt):=hd1 (fun x=>Dy s (f s (cev loc var x))) xs
def shV (F:Fns) (xs:List CX) (loc var:List AV) (s:ASt):Option (AV×ASt):=hd1 (fun x=>GY F (cev loc var x) (D0 loc var xs.tail) s) xs
def shA (F:Fns) (sh:Sh) (xs:List CX) (loc var:List AV) (s:ASt):Option (AV×ASt):=
  match sh with
  | .p1 f=>shP1 f xs loc var s
  | .p2 f=>shP2 f xs loc var s
  | .p f=>Dy s (f (D0 loc var xs))
  | .r1 f=>shR1 f xs loc var s
  | .r f=>Dy s (f s (D0 loc var xs))
  | .mk f=>PR s (f (D0 loc var xs))
  | .e f=>f s (D0 loc var xs)
  | .call f=>F.call f (D0 loc var xs) s
  | .callv=>shV F xs loc var s
def isB(want:Bool):AV→Bool
  | .bool b=>b == want
  | _=>false
def Ba (loc var:List AV) (g:Option (CX×Bool)):Bool:=
  match g with
  | none=>true
  | some p=>isB p.2 (cev loc var p.1)
def T8(x:Option AV)(v:AV):Bool:=match x with
  | some u=>eqA u v
  | none=>false
def Fw (s:ASt) (loc var:List AV) (r:CRd):Bool:=
  !Ba loc var r.guard || T8 (Eb r.sh (D0 loc var r.xs) s) (cev loc var r.ans)
def EP (s:ASt) (loc var:List AV) (l:List CRd):Bool:=
  List.rec true (fun r _ ih=>Fw s loc var r && ih) l
abbrev Vh:=List AV→List AV→ASt→Option (List AV×ASt)
def C5 (ag:List CRd) (d:Jv) (k:Vh) (loc var:List AV) (v:AV) (s:ASt):Option (List AV×ASt):=
  match d with
  | .push=>bif EP s (v::loc) var ag then k (v::loc) var s else none
  | .set j=>bif EP s loc (upd v var j) ag then k loc (upd v var j) s else none
def KF (it:AA) (k:Vh) (loc var:List AV) (r:Option (AV×ASt)):Option (List AV×ASt):=
  match r with
  | none=>none
  | some p=>C5 it.again it.dst k loc var p.1 p.2
def LR (F:Fns) (it:AA) (k:Vh) (loc var:List AV) (s:ASt):Option (List AV×ASt):=
  match Ba loc var it.guard with
  | true=>KF it k loc var (shA F it.sh it.xs loc var s)
  | false=>C5 [] it.dst k loc var Au s
def ET (F:Fns) (l:List AA):Vh:=
  List.rec (fun _ var s=>some (var,s)) (fun it _ ih loc var s=>LR F it ih loc var s) l
def Ql(l:List AV):Nat→List AV
  | 0=>[]
  | n+1=>match l with
    | []=>Au::Ql [] n
    | a::l=>a::Ql l n
def Br (P:Program) (s:ASt) (var:List AV):List (CX×Option TypeId)→Option (List AV)
  | []=>some []
  | (x,none)::l=>(Br P s var l).bind fun r=>some (cev [] var x::r)
  | (x,some t)::l=>(AD P s t (cev [] var x)).bind fun v=>(Br P s var l).bind fun r=>some (v::r)
def Bf:List AV→AV
  | [v]=>v
  | l=>.tuple l
def unmark(s:ASt):List Nat→Option ASt
  | []=>some s
  | i::l=>match s.heap.get i with
    | some .mark=>unmark (Bc s i) l
    | _=>none
def DG:Ja→Option Code
  | .normal=>none
  | .ret=>some .ret
  | .exit id=>some (.exit id)
def DA (vars:List Tmp) (var:List AV):List Tmp→List AV→Option (List AV)
  | [],[]=>some var
  | t::ts,v::vs=>(Bu vars t).bind fun j=>DA vars (upd v var j) ts vs
  | _,_=>none
def A3(s:ASt)(l:Nat):Option FE:=match s.heap.get l with
  | some (.loop r)=>some r
  | _=>none
def E0(P:Program)(f:FuncId)(c:Code):Option AX:=(P.funcs[f]?).bind fun fn=>some (BG P f fn.ntmps (BN P fn) c)
def DV(P:Program)(f:FuncId):List Tmp:=match P.funcs[f]? with
  | some fn=>BN P fn
  | none=>[]
def bu(marks:List Nat)(r:Option (List AV×ASt)):Option A6:=match r with
  | some p=>some ⟨.normal,p.1,marks,p.2⟩
  | none=>none
def HQ(F:Fns)(rnd:Option Nat)(b:AX)(r:A6):Option A6:=match r.exit with
  | .normal=>F.code rnd b r.var r.marks r.st
  | _=>some r
def IE(F:Fns)(rnd:Option Nat)(b:AX)(r:Option A6):Option A6:=match r with
  | some r=>HQ F rnd b r
  | none=>none
def Ov(F:Fns)(rnd:Option Nat)(a b:AX)(var:List AV)(marks:List Nat)(s:ASt)(v:AV):Option A6:=match v with
  | .bool t=>match t with
    | true=>F.code rnd a var marks s
    | false=>F.code rnd b var marks s
  | _=>none
def J7(id:Nat)(r:A6):Option A6:=match r.exit with
  | .exit id'=>bif Nat.beq id' id then some ⟨.normal,r.var,r.marks,r.st⟩else some r
  | _=>some r
def Ks(id:Nat)(r:Option A6):Option A6:=match r with
  | some r=>J7 id r
  | none=>none
def GV(var:List AV)(marks:List Nat)(s:ASt)(c:Option Code):Option A6:=match c with
  | none=>some ⟨.normal,var,marks,s⟩
  | some .ret=>some ⟨.ret,var,marks,s⟩
  | some (.exit id)=>some ⟨.exit id,var,marks,s⟩
  | some _=>none
def LP:LoopState→Bool
  | .busy=>true
  | _=>false
def KD:LoopState→Bool
  | .ready=>true
  | _=>false
def G0(var:List AV)(marks:List Nat)(l:Nat)(q:Option (AV×ASt)):Option A6:=
  q.bind fun q=>(A3 q.2 l).bind fun r=>bif LP r.state then none else
    GV var marks (setObj q.2 l (.loop { r with state:=.exhausted })) r.pending
def FI(F:Fns)(var:List AV)(f:AV)(params:Array Tmp)(assign body:Code)(fn:FuncId)(dfr:Nat)(marks:List Nat)(s:ASt):Option A6:=
  G0 var marks s.next (GY { F with round:=fun _ _ _=>none } f [.yield s.next] (AH s (.loop { state:=.ready,pending:=none,fn,var,params,assign,body,dfr })))
def Kt(F:Fns)(rnd:Option Nat)(fn:FuncId)(f:AV)(params:Array Tmp)(assign body:Code)(var:List AV)(marks:List Nat)(s:ASt):Option A6:=
  match rnd with
  | some l=>(A3 s l).bind fun r=>FI F var f params assign body fn r.dfr marks s
  | none=>FI F var f params assign body fn s.next (s.next::marks) (AH s .mark)
def DC (F:Fns) (rnd:Option Nat) (c:AX) (var:List AV) (marks:List Nat) (s:ASt):Option A6:=
  match c with
  | .skip=>some ⟨.normal,var,marks,s⟩
  | .ret=>some ⟨.ret,var,marks,s⟩
  | .exit id=>some ⟨.exit id,var,marks,s⟩
  | .never=>none
  | .ops l=>bu marks (ET F l [] var s)
  | .seq a b=>IE F rnd b (F.code rnd a var marks s)
  | .cond x a b=>Ov F rnd a b var marks s (cev [] var x)
  | .block id body=>Ks id (F.code rnd body var marks s)
  | .loop body=>IE F rnd (.loop body) (F.code rnd body var marks s)
  | .rangeFunc fn f params assign body=>Kt F rnd fn (cev [] var f) params assign body var marks s
def Tu:Ja→Bool
  | .normal | .ret=>true
  | .exit _=>false
def J8 (P:Program) (cf:Ar) (r:Option A6):Option (AV×ASt):=
  r.bind fun r=>bif Tu r.exit then (unmark r.st r.marks).bind fun s=>(Br P s r.var cf.results).bind fun l=>some (Bf l,s)else none
def GW (P:Program) (F:Fns) (args:List AV) (s:ASt) (cf:Option Ar):Option (AV×ASt):=
  cf.bind fun cf=>bif Nat.beq args.length cf.na then J8 P cf (F.code none cf.body (Ql args cf.nv) [] s)else none
def HW (E:Env) (F:Fns) (f:FuncId) (args:List AV) (s:ASt):Option (AV×ASt):=
  match E.nat f args s with
  | some p=>some p
  | none=>GW E.P F args s (AQ E.P f)
def IT:Ja→Bool
  | .normal=>true
  | _=>false
def HF:Option Code→LoopState
  | none=>.ready
  | some _=>.done
def Ii(l:Nat)(q:Option A6):Option (AV×ASt):=q.bind fun q=>(A3 q.st l).bind fun r =>
  some (.bool (DG q.exit).isNone,setObj q.st l (.loop { r with state:=HF (DG q.exit),pending:=DG q.exit }))
def HD(F:Fns)(l:Nat)(cb:AX)(q:Option A6):Option (AV×ASt):=q.bind fun q=>bif IT q.exit then
    (A3 q.st l).bind fun r=>bif KD r.state then Ii l (F.code (some l) cb q.var q.marks (setObj q.st l (.loop { r with state:=.busy })))else none
  else none
def Jq (E:Env) (F:Fns) (l:Nat) (args:List AV) (s:ASt):Option (AV×ASt):=
  (A3 s l).bind fun r=>(DA (DV E.P r.fn) r.var r.params.toList args).bind fun var =>
    (E0 E.P r.fn r.assign).bind fun ca=>(E0 E.P r.fn r.body).bind fun cb=>HD F l cb (F.code (some l) ca var [] s)
def ns:Fns:=⟨fun _ _ _ _ _=>none,fun _ _ _=>none,fun _ _ _=>none⟩
def nq (E:Env) (F:Fns):Fns:=⟨DC F,HW E F,Jq E F⟩
def D9 (E:Env) (n:Nat):Fns:=Nat.rec ns (fun _ F=>nq E F) n
end
end Go.Proofs.Ytilhhmkdcoajnaa.Am
