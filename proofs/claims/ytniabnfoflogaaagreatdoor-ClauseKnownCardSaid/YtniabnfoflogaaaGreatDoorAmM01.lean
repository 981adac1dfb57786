/- Binary tries over Nat keys, made for evaluation by the kernel: get, set, and their laws; conditions: none. -/
import GoSem.Dispatch
import GoSem.ClaimKeys
import Derived.DeepKeys2
import Derived.CallsIn
import Derived.Laws.Sem
import Derived.MapKept
import Derived.Laws.Entries
import Derived.Laws.Slices
import Derived.Laws.Strings
import Derived.Lib.Hide
import Derived.Laws.CopyRow
import Derived.Laws.Cells
import Derived.RangeFuncRecord
import Derived.Below
namespace Go.Proofs.YtniabnfoflogaaaGreatDoor.Am
noncomputable section
abbrev L7 := @Option.bind_eq_some_iff
abbrev L8 := @Nat.ble_eq
abbrev L9 := @Nat.le_refl
abbrev MA := @Nat.eq_of_beq_eq_true
abbrev MB := @Nat.lt_of_lt_of_le
abbrev MC := @Nat.lt_or_ge
abbrev MD := @Nat.blt_eq
abbrev ME := @List.getElem?_eq_getElem
abbrev MF := @Nat.le_trans
abbrev MG := @List.mem_cons_self
abbrev MH := @Nat.zero_add
abbrev MI := @Nat.add_assoc
abbrev MJ := @List.mem_cons_of_mem
abbrev MK := @Nat.zero_le
abbrev ML := @List.getElem?_append_left
abbrev MM := @Nat.add_mul
abbrev MN := @List.map_cons
abbrev MO := @Option.map_some
abbrev MP := @List.getElem?_append_right
abbrev MQ := @List.getElem?_eq_none
abbrev MR := @Nat.mul_le_mul_right
abbrev MS := @Nat.lt_succ_of_lt
abbrev MT := @Nat.lt_trichotomy
abbrev MU := @List.append_assoc
abbrev MV := @List.mem_of_getElem?
abbrev MW := @Nat.lt_succ_self
abbrev MX := @Int.ofNat_eq_natCast
abbrev MY := @Nat.eq_zero_or_pos
inductive AC (α:Type) where
 | leaf
 | node (v:Option α) (l r:AC α)
namespace AC
variable{α:Type}
def get:AC α→Nat→Option α
 | .leaf,_=>none
 | .node v l r,k=>match k with
  | 0=>v
  | k+1=>bif Nat.beq (k % 2) 0 then l.get (k / 2)else r.get (k / 2)
def val:AC α→Option α
 | .leaf=>none
 | .node v _ _=>v
def left:AC α→AC α
 | .leaf=>.leaf
 | .node _ l _=>l
def right:AC α→AC α
 | .leaf=>.leaf
 | .node _ _ r=>r
def LJ(v:Option α)(l r:AC α):AC α:=
 match l with
 | .leaf=>.node v .leaf r
 | .node x a b=>.node v (.node x a b) r
def LK(v:Option α)(l r:AC α):AC α:=
 match r with
 | .leaf=>.node v l .leaf
 | .node x a b=>.node v l (.node x a b)
def Hr(v:Option α):Nat→AC α→Nat→AC α
 | 0,t,_=>t
 | f+1,t,k=>match k with
  | 0=>.node v t.left t.right
  | k+1=>bif Nat.beq (k % 2) 0 then LJ t.val (Hr v f t.left (k / 2)) t.right
   else LK t.val t.left (Hr v f t.right (k / 2))
def put(t:AC α)(k:Nat)(v:Option α):AC α:=Hr v (k+1) t k
def set(t:AC α)(k:Nat)(v:α):AC α:=t.put k (some v)
def del(t:AC α)(k:Nat):AC α:=t.put k none
theorem beq_no{a b:Nat}(h:¬ a=b):Nat.beq a b=false:=by
 cases e:Nat.beq a b with
 | false=>rfl
 | true=>exact absurd (MA e) h
theorem KU(v:Option α)(l r:AC α):LJ v l r=.node v l r:=by cases l<;>rfl
theorem KV(v:Option α)(l r:AC α):LK v l r=.node v l r:=by cases r<;>rfl
theorem FE(t:AC α):t.get 0=t.val:=by cases t<;>rfl
theorem BI(t:AC α)(k:Nat):t.get (k+1)=if k % 2=0 then t.left.get (k / 2)else t.right.get (k / 2):=by
 cases t with
 | leaf=>simp[get,left,right]
 | node v l r =>
  by_cases h:k % 2=0
  ·simp[get,left,h]
  ·have:Nat.beq (k % 2) 0=false:=beq_no h
   simp[get,right,h,this]
def mapO{β:Type}(f:α→Option β):AC α→AC β
 | .leaf=>.leaf
 | .node v l r=>.node (v.bind f) (mapO f l) (mapO f r)
theorem get_mapO{β:Type}(f:α→Option β):∀ (t:AC α)(k:Nat),(t.mapO f).get k=(t.get k).bind f
 | .leaf,_=>rfl
 | .node v l r,0=>rfl
 | .node v l r,k+1=>by
  show(bif Nat.beq (k % 2) 0 then (mapO f l).get (k / 2)else (mapO f r).get (k / 2))=(bif Nat.beq (k % 2) 0 then l.get (k / 2)else r.get (k / 2)).bind f
  cases Nat.beq (k % 2) 0 with
  | true=>exact get_mapO f l (k / 2)
  | false=>exact get_mapO f r (k / 2)
theorem KG       (v : Option α) : ∀ (f : Nat) (t : AC   α) (k j : Nat), k < f → (Hr   v f t k).get j = if j = k then v else t.get j := by
  intro f
  induction f with
  | zero=>intro t k j h;omega
  | succ f ih =>
    intro t k j h
    cases k with
    | zero =>
      cases j with
      | zero=>simp[Hr,FE,val]
      | succ j=>simp[Hr,BI,left,right]
    | succ k =>
      by_cases hk:k % 2=0
      · have hb:Nat.beq (k % 2) 0=true:=by rw[hk];rfl
        simp only[Hr,hb,cond_true,KU]
        cases j with
        | zero=>simp[FE,val]
        | succ j =>
          by_cases hj:j % 2=0
          · rw[BI,BI,if_pos hj,if_pos hj]
            simp only[left]
            rw[ih _ _ _ (by omega)]
            by_cases e:j=k
            · subst e;simp
            · rw[if_neg (by omega),if_neg (by omega)]
          · rw[BI,BI,if_neg hj,if_neg hj,if_neg (by omega)]
            simp only[right]
      · have hb:Nat.beq (k % 2) 0=false:=beq_no hk
        simp only[Hr,hb,cond_false,KV]
        cases j with
        | zero=>simp[FE,val]
        | succ j =>
          by_cases hj:j % 2=0
          · rw[BI,BI,if_pos hj,if_pos hj,if_neg (by omega)]
            simp only[left]
          · rw[BI,BI,if_neg hj,if_neg hj]
            simp only[right]
            rw[ih _ _ _ (by omega)]
            by_cases e:j=k
            · subst e;simp
            · rw[if_neg (by omega),if_neg (by omega)]
theorem Iy(t:AC α)(k j:Nat)(v:Option α):(t.put k v).get j=if j=k then v else t.get j:=KG v _ t k j (by omega)
theorem get_set(t:AC α)(k j:Nat)(v:α):(t.set k v).get j=if j=k then some v else t.get j:=Iy t k j _
theorem get_del(t:AC α)(k j:Nat):(t.del k).get j=if j=k then none else t.get j:=Iy t k j _
def fill(t:AC α)(k:Nat):List α→AC α
 | []=>t
 | v::l=>fill (t.set k v) (k+1) l
theorem get_fill(l:List α):∀ (t:AC α)(k j:Nat),(t.fill k l).get j=if k≤j∧j<k+l.length then l[j - k]? else t.get j:=by
  induction l with
  | nil=>intro t k j;simp[fill];omega
  | cons v l ih =>
    intro t k j
    simp only[fill,ih,get_set,List.length_cons]
    by_cases h1:k+1≤j∧j<k+1+l.length
    · rw [if_pos h1, if_pos (by omega), show j - k = (j - (k + 1)) + 1 from by omega]
      rfl
    · rw[if_neg h1]
      by_cases h2:j=k
      · subst h2;simp
      · rw[if_neg h2,if_neg (by omega)]
def take(t:AC α)(k:Nat):Nat→Option (List α)
 | 0=>some []
 | n+1=>match t.get k with
  | none=>none
  | some v=>match take t (k+1) n with
   | none=>none
   | some l=>some (v::l)
theorem take_length{t:AC α}{k n:Nat}{l:List α}(h:t.take k n=some l):l.length=n:=by
  induction n generalizing k l with
  | zero=>simp[take]at h;subst h;rfl
  | succ n ih =>
    simp only[take]at h
    split at h
    · cases h
    · split at h
      · cases h
      · rename_i h2;injection h with h;subst h;simp[ih h2]
theorem take_get {t : AC   α} {k n : Nat} {l : List α} (h : t.take k n = some l) (j : Nat) (hj : j < n) : t.get (k + j) = l[j]? := by
  induction n generalizing k l j with
  | zero=>omega
  | succ n ih =>
    simp only[take]at h
    split at h
    · cases h
    · rename_i v hv
      split at h
      · cases h
      · rename_i l' h2
        injection h with h
        subst h
        cases j with
        | zero=>simpa using hv
        | succ j=>rw[show k+(j+1)=k+1+j from by omega,ih h2 j (by omega)];rfl
end AC
end
end Go.Proofs.YtniabnfoflogaaaGreatDoor.Am
namespace Go.Proofs.YtniabnfoflogaaaGreatDoor.Am
open Go
noncomputable section
inductive AV where
 | bool (b:Bool)
 | int (k:IntKind) (n:Int)
 | str (s:List Nat)
 | ptr (a:Option (Nat×Nat))
 | gptr (g o:Nat)
 | slice (a:Option (Nat×Nat)) (len:Nat) (cap:Option Nat)
 | map (r:Option Nat)
 | func (f:FuncId) (first cap:List AV)
 | yield (l:Nat)
 | nilFunc
 | iface (t:TypeId) (v:AV)
 | nilIface
 | agg (cs:List AV)
 | tuple (vs:List AV)
 | junk
def Aw:AV:=.tuple []
def AV.cells:AV→List AV
 | .agg cs=>cs
 | v=>[v]
def AV.isCell:AV→Bool
 | .agg _ | .tuple _ | .junk=>false
 | _=>true
def Bn:List AV→Bool
 | []=>true
 | v::l=>v.isCell && Bn l
inductive HB where
 | ro | own | sealed
structure B3 where
 elem:TypeId
 sz:Nat
 n:Nat
 c:AC AV
 spare:Bool
 mode:HB
 par:Option Nat
 bytes:Bool
 glob:Option Nat:=none
inductive CX where
 | loc (i:Nat)
 | var (j:Nat)
 | const (v:AV)
inductive Made where
 | ptr | slice (n:Nat) | map
structure Ew where
 state:LoopState
 pending:Option Code
 fn:FuncId
 var:List AV
 params:Array Tmp
 assign:Code
 body:Code
 dfr:Nat
inductive AZ where
 | row (r:B3)
 | map (kt:TypeId) (es:List (AV×AV))
 | mapRo (kt:TypeId) (es:List (AV×AV))
 | loop (l:Ew)
 | mark
 | iter (s:List Nat) (pos:Nat)
structure AM where
 next:Nat
 heap:AC AZ
def Dq:Value→Option AV
 | .bool b=>some (.bool b)
 | .int k n=>some (.int k n)
 | .string s=>some (.str (s.data.toList.map (fun(b:UInt8)=>b.toNat)))
 | .pointer none=>some (.ptr none)
 | .slice none 0 0=>some (.slice none 0 (some 0))
 | .map none=>some (.map none)
 | .nilFunc=>some .nilFunc
 | .nilIface=>some .nilIface
 | _=>none
def Bh:List Value→Option (List AV)
 | []=>some []
 | v::l=>(Dq v).bind fun a=>(Bh l).bind fun r=>some (a::r)
def ofValue:Value→Option AV
 | .agg cs=>(Bh cs.toList).bind fun l=>some (.agg l)
 | .tuple vs=>(Bh vs.toList).bind fun l=>some (.tuple l)
 | v=>Dq v
def AG{α:Type}(b:Bool)(x:Option α):Option α:=bif b then x else none
def B8{α:Type}(P:Program):Sem α→Option α
 | .pure a=>some a
 | .program k=>B8 P (k P)
 | .mark _ k=>B8 P k
 | _=>none
def BJ(k:IntKind):Int→Bool
 | .ofNat m=>match k with
  | .i64=>Nat.ble m 9223372036854775807
  | .u64=>Nat.ble m 18446744073709551615
  | .i32=>Nat.ble m 2147483647
  | .u32=>Nat.ble m 4294967295
  | .u8=>Nat.ble m 255
  | .i8=>Nat.ble m 127
  | .u16=>Nat.ble m 65535
  | .i16=>Nat.ble m 32767
 | .negSucc m=>match k with
  | .i64=>Nat.ble m 9223372036854775807
  | .i32=>Nat.ble m 2147483647
  | .i8=>Nat.ble m 127
  | .i16=>Nat.ble m 32767
  | _=>false
def Fw(k:IntKind)(n:Int):Int:=bif BJ k n then n else k.wrap n
def Je:Int→Int→Bool
 | .ofNat a,.ofNat b=>Nat.blt a b
 | .ofNat _,.negSucc _=>false
 | .negSucc _,.ofNat _=>true
 | .negSucc a,.negSucc b=>Nat.blt b a
def Kr:Int→Int→Bool
 | .ofNat a,.ofNat b=>Nat.beq a b
 | .negSucc a,.negSucc b=>Nat.beq a b
 | _,_=>false
def KR:Int→Option Nat
 | .ofNat m=>some m
 | .negSucc _=>none
def A7:List Nat→List Nat→Bool
 | [],[]=>true
 | a::x,b::y=>bif Nat.beq a b then A7 x y else false
 | _,_=>false
def Cu:List Nat→List Nat→Bool
 | _,[]=>false
 | [],_::_=>true
 | a::x,b::y=>bif Nat.blt a b then true else bif Nat.beq a b then Cu x y else false
def JE(op:BinOp)(x y:List Nat):Option AV:=
 match op with
 | .add=>AG (Nat.ble (x.length+y.length) 1152921504606846976) (some (.str (x++y)))
 | .eql=>some (.bool (A7 x y))
 | .neq=>some (.bool (!A7 x y))
 | .lss=>some (.bool (Cu x y))
 | .leq=>some (.bool (Cu x y || A7 x y))
 | .gtr=>some (.bool (!(Cu x y || A7 x y)))
 | .geq=>some (.bool (!Cu x y))
 | _=>none
def Jz(P:Program)(t:TypeId):Option Bool:=
 match P.underlying t with
 | some (.struct _) | some (.array _ _)=>some true
 | some _=>some false
 | none=>none
def Ag(P:Program)(t:TypeId):Option Nat:=match P.info? t with
 | some i=>some i.size
 | none=>none
def B2(P:Program)(t:TypeId):Option AV:=match P.info? t with
 | some i=>match i.zero with
  | some v=>ofValue v
  | none=>none
 | none=>none
def CP(P:Program)(t:TypeId):Option Nat:=match P.info? t with
 | some i=>some i.bytes
 | none=>none
def rowAt(s:AM)(i:Nat):Option B3:=match s.heap.get i with
 | some (.row r)=>some r
 | _=>none
def newObj(s:AM)(o:AZ):AM:={ next:=s.next+1,heap:=s.heap.set s.next o }
def Eb(elem:TypeId)(sz:Nat)(cells:List AV):AZ:=
 .row { elem,sz,n:=cells.length,c:=AC.fill .leaf 0 cells,spare:=false,mode:=.own,par:=none,bytes:=true }
def setObj(s:AM)(i:Nat)(o:AZ):AM:={ s with heap:=s.heap.set i o }
def A2(s:AM)(i:Nat):AM:={ s with heap:=s.heap.del i }
def BF(s:AM)(i off n:Nat):Option (List AV):=
 (rowAt s i).bind fun r=>AG (Nat.ble (off+n) r.n) (r.c.take off n)
def Ea(s:AM)(i off:Nat):Option AV:=
 (rowAt s i).bind fun r=>AG (Nat.blt off r.n) (r.c.get off)
def Aj(s:AM)(i:Nat)(r:B3):AM:=match r.par with
 | none=>s
 | some p=>bif Nat.beq p i then s else A2 s p
def CE:HB→Bool
 | .own=>true
 | _=>false
def Bz(s:AM)(i off:Nat)(vs:List AV):Option AM:=
 match vs with
 | []=>some s
 | _::_=>(rowAt s i).bind fun r =>
  AG (CE r.mode && Nat.ble (off+vs.length) r.n && Bn vs)
   (some (setObj (Aj s i r) i (.row { r with c:=r.c.fill off vs,par:=none })))
def Gl(s:AM)(g:Nat):Option B3:=(rowAt s g).bind fun r=>match r.glob with
 | some g'=>AG (Nat.beq g' g) (some r)
 | none=>none
def Dm(P:Program)(s:AM)(t:TypeId):AV→Option AV
 | .gptr i o=>(Gl s i).bind fun _=>(Jz P t).bind fun g=>match g with
  | true=>(Ag P t).bind fun n=>(BF s i o n).bind fun l=>some (.agg l)
  | false=>Ea s i o
 | .ptr (some (i,o))=>(Jz P t).bind fun g=>match g with
  | true=>(Ag P t).bind fun n=>(BF s i o n).bind fun l=>some (.agg l)
  | false=>Ea s i o
 | _=>none
def Ic(P:Program)(s:AM)(t:TypeId)(a v:AV):Option AM:=
 match a with
 | .ptr (some (i,o))=>(Ag P t).bind fun n=>AG (Nat.beq v.cells.length n) (Bz s i o v.cells)
 | _=>none
def Cm(P:Program)(t:TypeId):Bool:=match P.underlying t with
 | some (.pointer _)=>true
 | _=>false
def Dj(P:Program)(t:TypeId):Bool:=match P.underlying t with
 | some (.slice _)=>true
 | _=>false
def EB(P:Program)(t:TypeId):Bool:=match P.underlying t with
 | some (.map ..)=>true
 | _=>false
def Di(P:Program)(t:TypeId):Bool:=match P.underlying t with
 | some (.func ..)=>true
 | _=>false
def Gm(P:Program)(t:TypeId):Bool:=match P.underlying t with
 | some .bool=>true
 | _=>false
def K3(P:Program)(t:TypeId):AV→AV→Option Bool
 | .bool a,.bool b=>AG (Gm P t) (some (a == b))
 | .ptr none,.ptr b=>AG (Cm P t) (some b.isNone)
 | .ptr a,.ptr none=>AG (Cm P t) (some a.isNone)
 | .slice none _ _,.slice b _ _=>AG (Dj P t) (some b.isNone)
 | .slice a _ _,.slice none _ _=>AG (Dj P t) (some a.isNone)
 | .map none,.map b=>AG (EB P t) (some b.isNone)
 | .map a,.map none=>AG (EB P t) (some a.isNone)
 | .nilFunc,.nilFunc=>AG (Di P t) (some true)
 | .func ..,.nilFunc=>AG (Di P t) (some false)
 | .nilFunc,.func ..=>AG (Di P t) (some false)
 | _,_=>none
def By:IntKind→IntKind→Bool
 | .i8,.i8 | .i16,.i16 | .i32,.i32 | .i64,.i64 | .u8,.u8 | .u16,.u16 | .u32,.u32 | .u64,.u64=>true
 | _,_=>false
def KI(P:Program)(op:BinOp)(k:IntKind)(a b:Int):Option AV:=
 match op with
 | .add=>some (.int k (Fw k (a+b)))
 | .sub=>some (.int k (Fw k (a - b)))
 | .mul=>some (.int k (Fw k (a * b)))
 | .eql=>some (.bool (Kr a b))
 | .neq=>some (.bool (!Kr a b))
 | .lss=>some (.bool (Je a b))
 | .leq=>some (.bool (!Je b a))
 | .gtr=>some (.bool (Je b a))
 | .geq=>some (.bool (!Je a b))
 | .quo | .rem=>(B8 P (Op.intDiv op k a b)).bind ofValue
 | .shl | .shr=>none
 | _=>(B8 P (Op.intBits op k a b)).bind ofValue
def Ky(P:Program)(op:BinOp)(t:TypeId)(x y:AV):Option AV:=
 match x,y with
 | .int k a,.int k' b=>match op with
  | .shl | .shr=>(B8 P (Op.shift op k a k' b)).bind ofValue
  | _=>AG (By k k') (KI P op k a b)
 | .str a,.str b=>JE op a b
 | x,y=>match op with
  | .eql=>(K3 P t x y).bind fun b=>some (.bool b)
  | .neq=>(K3 P t x y).bind fun b=>some (.bool (!b))
  | _=>none
def KL(P:Program)(t:TypeId):Bool:=match P.underlying t with
 | some (.pointer e)=>(match P.info? e with | some j=>!Nat.beq j.size 0 | none=>false)
 | _=>false
def DR(s:AM)(i:Nat):Bool:=match rowAt s i with
 | some r=>CE r.mode && r.par.isNone
 | none=>false
def EI(P:Program)(s:AM)(neg:Bool)(t:TypeId)(x y:AV):Option AV:=
 match x,y with
 | .ptr (some (i,o)),.ptr (some (j,q))=>AG (KL P t && DR s i && DR s j) (some (.bool ((Nat.beq i j && Nat.beq o q) != neg)))
 | x,y=>Ky P (bif neg then .neq else .eql) t x y
def L0(P:Program)(op:UnOp):AV→Option AV
 | .int k n=>match op with
  | .neg=>some (.int k (Fw k (0 - n)))
  | .xor=>(B8 P (Op.unary .xor (.int k n))).bind ofValue
  | _=>none
 | .bool b=>match op with
  | .not=>some (.bool (!b))
  | _=>none
 | _=>none
def FB(place:Nat→Option (Nat×Nat))(cells:List AV):List (Nat×AV)→Option (List AV)
 | []=>some cells
 | (i,v)::rest=>(place i).bind fun p =>
  AG (Nat.beq v.cells.length p.2 && Nat.ble (p.1+v.cells.length) cells.length)
   (FB place (cells.take p.1++(v.cells++cells.drop (p.1+v.cells.length))) rest)
def Bq(P:Program):List Field→Option (List (Nat×Nat))
 | []=>some []
 | f::l=>(Ag P f.type).bind fun n=>(Bq P l).bind fun r=>some ((f.offset,n)::r)
def H7(P:Program)(t:TypeId)(parts:List (Nat×AV)):Option AV:=
 (B2 P t).bind fun z=>match P.underlying t with
  | some (.struct fields)=>(Bq P fields.toList).bind fun places =>
   (FB (fun i=>places[i]?) z.cells parts).bind fun l=>some (.agg l)
  | some (.array _ e)=>(Ag P e).bind fun n =>
   (FB (fun i=>some (i * n,n)) z.cells parts).bind fun l=>some (.agg l)
  | _=>none
def Jt(l:List AV):Nat→List AV
 | 0=>[]
 | n+1=>l++Jt l n
def C3(P:Program)(t:TypeId)(len:Nat)(parts:List (Nat×AV)):Option AZ:=
 match P.underlying t with
 | some (.slice e)=>(Ag P e).bind fun n=>AG (Nat.ble (len * n) 16777216) <|
  (B2 P e).bind fun z=>AG (Nat.beq z.cells.length n) <|
   (FB (fun i=>some (i * n,n)) (Jt z.cells len) parts).bind fun l=>some (Eb e n l)
 | _=>none
def Az(P:Program)(s:AM)(src dst:TypeId)(x:AV):Option AV:=
 match P.underlying src,P.underlying dst,x with
 | some _,some (.int k),.int _ n=>some (.int k (Fw k n))
 | some _,some .string,.str l=>some (.str l)
 | some (.slice e),some .string,.slice a len _=>match P.underlying e with
  | some (.int .u8)=>match a with
   | none=>some (.str [])
   | some (i,o)=>(BF s i o len).bind fun l=>(bytesOf l).bind fun b=>some (.str b)
  | _=>none
 | some (.pointer u),some .unsafePointer,x=>seenPtr u x
 | some .unsafePointer,some (.pointer u),x=>seenPtr u x
 | _,_,_=>none
where
 seenPtr (u:TypeId):AV→Option AV
  | .ptr none=>some (.ptr none)
  | .ptr (some (i,o))=>(rowAt s i).bind fun r=>(Ag P u).bind fun n =>
   AG (CE r.mode && r.bytes && Nat.beq o 0 && Nat.beq r.elem u && Nat.ble n r.n && !Nat.beq n 0) (some (.ptr (some (i,o))))
  | _=>none
 bytesOf:List AV→Option (List Nat)
  | []=>some []
  | .int .u8 (.ofNat n)::l=>AG (Nat.blt n 256) ((bytesOf l).bind fun r=>some (n::r))
  | _::_=>none
def HS:AV→Option Nat
 | .int _ n=>KR n
 | _=>none
def As(x:AV)(y:Nat):Option Nat:=(HS x).bind fun i=>AG (Nat.ble i y) (some i)
def Av(P:Program)(s:AM)(t:TypeId)(x:AV)(lo hi mx:Option AV):Option AV:=
 match x with
 | .str l=>(match mx with | some _=>none | none=>some ()).bind fun _ =>
  (match hi with | some h=>As h l.length | none=>some l.length).bind fun h =>
  (match lo with | some v=>As v h | none=>some 0).bind fun o =>
  (match P.underlying t with | some .string=>some () | _=>none).bind fun _=>some (.str ((l.drop o).take (h - o)))
 | .slice a len cap=>match P.underlying t with
  | some (.slice e)=>(Ag P e).bind fun n =>
   (match cap with
    | some c=>some c
    | none=>match a with
     | none=>none
     | some (i,o)=>(rowAt s i).bind fun r=>AG (Nat.ble o r.n && Nat.beq n r.sz && !Nat.beq n 0) (some ((r.n - o) / n))).bind fun far =>
   (match mx with | some m=>(As m far).bind fun c=>AG (cap.isSome || Nat.blt 0 far) (some (some c)) | none=>some cap).bind fun m =>
   (match hi,m with
    | some h,some c=>As h c
    | some h,none=>As h far
    | none,some c=>(match mx with | none=>some len | some _=>(fun(_:Nat)=>none) c)
    | none,none=>some len).bind fun h =>
   (match lo with | some v=>As v h | none=>some 0).bind fun l =>
   some (.slice
    (match a with
     | none=>none
     | some (i,o)=>match m with
      | some c=>bif Nat.beq c l then some (i,o)else some (i,o+l * n)
      | none=>some (i,o+l * n))
    (h - l) (match m with | some c=>some (c - l) | none=>none))
  | _=>none
 | .ptr (some (i,o))=>match P.underlying t with
  | some (.array len e)=>arr len e i o
  | some (.pointer u)=>match P.underlying u with
   | some (.array len e)=>arr len e i o
   | _=>none
  | _=>none
 | _=>none
where
 arr (len:Nat) (e:TypeId) (i o:Nat):Option AV:=(Ag P e).bind fun n =>
  (match mx with | some m=>As m len | none=>some len).bind fun m =>
  (match hi with | some h=>As h m | none=>match mx with | none=>some len | some _=>none).bind fun h =>
  (match lo with | some v=>As v h | none=>some 0).bind fun l =>
  some (.slice (some (i,bif Nat.beq m l then o else o+l * n)) (h - l) (some (m - l)))
def DG(P:Program)(t:TypeId)(x:AV)(f:Nat):Option AV:=
 match x with
 | .ptr (some (i,o))=>match P.underlying t with
  | some (.struct fs)=>(fs[f]?).bind fun fd=>(Ag P fd.type).bind fun n =>
   AG (!Nat.beq n 0) (some (.ptr (some (i,o+fd.offset))))
  | _=>none
 | _=>none
def JA(P:Program)(t:TypeId)(cs:List AV)(off:Nat):Option AV:=
 (Jz P t).bind fun g=>match g with
  | true=>(Ag P t).bind fun n=>some (.agg ((cs.drop off).take n))
  | false=>cs[off]?
def IF(P:Program)(t:TypeId)(x:AV)(f:Nat):Option AV:=
 match x with
 | .agg cs=>match P.underlying t with
  | some (.struct fs)=>(fs[f]?).bind fun fd=>JA P fd.type cs fd.offset
  | _=>none
 | _=>none
def DI(P:Program)(t:TypeId)(x ix:AV):Option AV:=
 (HS ix).bind fun k=>match x with
  | .ptr (some (i,o))=>match P.underlying t with
   | some (.array len e)=>(Ag P e).bind fun n=>AG (Nat.blt k len) (some (.ptr (some (i,o+k * n))))
   | _=>none
  | .gptr g o=>match P.underlying t with
   | some (.array len e)=>(Ag P e).bind fun n=>AG (Nat.blt k len) (some (.gptr g (o+k * n)))
   | _=>none
  | .slice (some (i,o)) len _=>match P.underlying t with
   | some (.slice e)=>(Ag P e).bind fun n=>AG (Nat.blt k len) (some (.ptr (some (i,o+k * n))))
   | _=>none
  | _=>none
def IH(P:Program)(t:TypeId)(x ix:AV):Option AV:=
 (HS ix).bind fun k=>match x with
  | .agg cs=>match P.underlying t with
   | some (.array len e)=>(Ag P e).bind fun n=>AG (Nat.blt k len) (JA P e cs (k * n))
   | _=>none
  | .str l=>match P.underlying t with
   | some .string=>(l[k]?).bind fun b=>some (.int .u8 (.ofNat b))
   | _=>none
  | _=>none
def EG:AV→Option AV
 | .ptr none | .nilIface | .nilFunc | .junk=>none
 | v=>some v
def Wg(x:AV)(i:Nat):Option AV:=
 match x with
 | .tuple vs=>vs[i]?
 | _=>none
def Rt(c a b:AV):Option AV:=
 match c with
 | .bool true=>some a
 | .bool false=>some b
 | _=>none
def EF(mx:Bool):AV→List AV→Option AV
 | v,[]=>some v
 | .int k a,.int k' b::l=>AG (By k k') (EF mx (.int k (bif (bif mx then Je a b else Je b a)then b else a)) l)
 | _,_=>none
def EZ:AV→AV→Option Bool
 | .int k a,.int k' b=>AG (By k k') (some (Kr a b))
 | .str a,.str b=>some (A7 a b)
 | .agg a,.agg b=>keysEq a b
 | _,_=>none
where
 keysEq:List AV→List AV→Option Bool
 | [],[]=>some true
 | .int k a::x,.int k' b::y=>AG (By k k') ((keysEq x y).bind fun r=>some (Kr a b && r))
 | .str a::x,.str b::y=>(keysEq x y).bind fun r=>some (A7 a b && r)
 | _,_=>none
def EV(k:AV):List (AV×AV)→Nat→Option (Option (Nat×AV))
 | [],_=>some none
 | (k',v)::l,i=>(EZ k k').bind fun e=>match e with
  | true=>some (some (i,v))
  | false=>EV k l (i+1)
def DA(P:Program):Nat→TypeId→List AV→Bool
 | 0,_,_=>false
 | d+1,t,cs=>match P.underlying t with
  | some (.int q)=>match cs with
   | [.int q' n]=>By q' q && BJ q n
   | _=>false
  | some .string=>match cs with
   | [.str l]=>Nat.ble l.length 1099511627776
   | _=>false
  | some (.array n e)=>Nat.beq cs.length (P.cellsOf t) && (List.range n).all fun i=>DA P d e ((cs.drop (i * P.cellsOf e)).take (P.cellsOf e))
  | some (.struct fs)=>Nat.beq cs.length (P.cellsOf t) && fs.toList.all fun f=>DA P d f.type ((cs.drop f.offset).take (P.cellsOf f.type))
  | _=>false
def CK(P:Program)(t:TypeId)(k:AV):Bool:=match P.underlying t with
 | some (.array _ _) | some (.struct _)=>match k with
  | .agg cs=>DA P 4 t cs
  | _=>false
 | _=>DA P 1 t [k]
def CT(P:Program)(t:TypeId):Bool:=match P.underlying t with
 | some (.int _) | some .string=>true
 | some (.array _ _) | some (.struct _)=>P.keyType t && (P.tiled (P.types.size+1) t && (Nat.ble 4 P.types.size && Nat.ble P.types.size 9990))
 | _=>false
def DB(P:Program)(t:TypeId):Bool:=match P.underlying t with
 | some (.map kt _)=>CT P kt
 | _=>false
def JU(P:Program)(t:TypeId):Option TypeId:=match P.underlying t with
 | some (.map kt _)=>some kt
 | _=>none
def HY(s:AM)(kt:TypeId)(i:Nat):Option (List (AV×AV)):=match s.heap.get i with
 | some (.map kt' es)=>AG (Nat.beq kt' kt) (some es)
 | _=>none
def I6(s:AM)(kt:TypeId)(i:Nat):Option (List (AV×AV)):=match s.heap.get i with
 | some (.map kt' es)=>AG (Nat.beq kt' kt) (some es)
 | some (.mapRo kt' es)=>AG (Nat.beq kt' kt) (some es)
 | _=>none
def Cx(P:Program)(s:AM)(t:TypeId)(m k:AV)(ok:Bool):Option AV:=
 match P.underlying t with
 | some (.map kt et)=>AG (CK P kt k) <|
  (match m with
   | .map none=>some []
   | .map (some i)=>I6 s kt i
   | _=>none).bind fun es=>(EV k es 0).bind fun r =>
   (match r with
    | some (_,v)=>some (v,true)
    | none=>(B2 P et).bind fun z=>some (z,false)).bind fun p=>some (bif ok then .tuple [p.1,.bool p.2]else p.1)
 | _=>none
def setNth(es:List (AV×AV))(i:Nat)(v:AV):List (AV×AV):=
 match es,i with
 | [],_=>[]
 | (k,_)::l,0=>(k,v)::l
 | e::l,i+1=>e::setNth l i v
def Lm(k v:AV)(es:List (AV×AV)):Option (List (AV×AV)):=(EV k es 0).bind fun r=>match r with
 | some (j,_)=>some (setNth es j v)
 | none=>some (es++[(k,v)])
def G8(P:Program)(s:AM)(t:TypeId)(m k v:AV):Option AM:=
 match P.underlying t,m with
 | some (.map kt _),.map (some i)=>AG (CK P kt k) <|
  (HY s kt i).bind fun es=>(Lm k v es).bind fun es'=>some (setObj s i (.map kt es'))
 | _,_=>none
def delNth(es:List (AV×AV))(i:Nat):List (AV×AV):=
 match es,i with
 | [],_=>[]
 | _::l,0=>l
 | e::l,i+1=>e::delNth l i
def Ep(P:Program)(s:AM)(t:TypeId)(m k:AV):Option AM:=
 match P.underlying t with
 | some (.map kt _)=>AG (CK P kt k) <| match m with
  | .map none=>some s
  | .map (some i)=>(HY s kt i).bind fun es=>(EV k es 0).bind fun r=>match r with
    | some (j,_)=>some (setObj s i (.map kt (delNth es j)))
    | none=>some s
  | _=>none
 | _=>none
def Ja(P:Program)(s:AM)(t:TypeId):AV→Option AV
 | .str l=>match P.underlying t with
  | some .string=>some (.int .i64 (.ofNat l.length))
  | _=>none
 | .slice _ n _=>match P.underlying t with
  | some (.slice _)=>some (.int .i64 (.ofNat n))
  | _=>none
 | .map none=>match P.underlying t with
  | some (.map ..)=>some (.int .i64 (.ofNat 0))
  | _=>none
 | .map (some i)=>match P.underlying t with
  | some (.map ..)=>match s.heap.get i with
   | some (.map _ es)=>some (.int .i64 (.ofNat es.length))
   | some (.mapRo _ es)=>some (.int .i64 (.ofNat es.length))
   | _=>none
  | _=>none
 | _=>none
def JL(P:Program)(s:AM)(t:TypeId):AV→Option AV
 | .slice a _ cap=>match P.underlying t with
  | some (.slice e)=>match cap with
   | some c=>some (.int .i64 (.ofNat c))
   | none=>match a with
    | some (i,o)=>(Ag P e).bind fun n=>(rowAt s i).bind fun r=>AG (!r.spare && Nat.ble o r.n && Nat.beq n r.sz && !Nat.beq n 0) (some (.int .i64 (.ofNat ((r.n - o) / n))))
    | none=>none
  | _=>none
 | _=>none
def J9:AV→Option AV
 | .slice none _ _=>some (.ptr none)
 | .slice (some (i,o)) (_+1) _=>some (.ptr (some (i,o)))
 | _=>none
def Made.val(i:Nat):Made→AV
 | .ptr=>.ptr (some (i,0))
 | .slice n=>.slice (some (i,0)) n (some n)
 | .map=>.map (some i)
def GZ(P:Program)(e:TypeId):Option (AZ×Made):=(B2 P e).bind fun z=>some (Eb e 0 z.cells,.ptr)
def LR(e:TypeId)(v:AV):Option (AZ×Made):=some (Eb e 0 v.cells,.ptr)
def CV(P:Program)(t:TypeId)(l c:AV):Option (AZ×Made):=
 match P.underlying t,l,c with
  | some (.slice e),.int .i64 (.ofNat l),.int .i64 (.ofNat c)=>(CP P e).bind fun by_=>(Ag P e).bind fun n =>
   AG (Nat.beq l c && Nat.ble (by_ * c) 1099511627776 && Nat.ble c 1099511627776) <|
   (B2 P e).bind fun z=>AG (Nat.beq z.cells.length n) (some (Eb e n (Jt z.cells c),.slice c))
  | _,_,_=>none
def IJ(P:Program)(t:TypeId):Bool:=match P.underlying t with
 | some (.int _)=>true
 | _=>false
def Lp(s:AM)(i o n size:Nat):Option (List AV):=bif Nat.beq n 0 then some []else BF s i o (n * size)
def Fp(P:Program)(s:AM)(e:TypeId)(size:Nat):AV→Option (Nat×List AV)
 | .int _ (.ofNat n)=>AG (Nat.ble n 1099511627776 && Nat.blt 0 n) ((B2 P e).bind fun z=>AG (Nat.beq z.cells.length size) (some (n,Jt z.cells n)))
 | .slice none _ _=>some (0,[])
 | .slice (some (i,o)) n _=>(Lp s i o n size).bind fun l=>some (n,l)
 | .str l=>AG (Nat.beq size 1) (some (l.length,l.map fun b=>.int .u8 (.ofNat b)))
 | _=>none
def CS(P:Program)(t:TypeId):Bool:=match P.underlying t with
 | some (.slice _) | some .string=>true
 | _=>false
def Bs(e:TypeId)(sz:Nat)(c:AC AV)(n:Nat)(par:Option Nat)(base:Bool):AZ:=
 .row { elem:=e,sz,n,c,spare:=true,mode:=.own,par,bytes:=base }
def CA(P:Program)(e:TypeId)(size:Nat):Bool:=match B2 P e with
 | some z=>Nat.beq z.cells.length size
 | none=>false
def BU(P:Program)(s:AM)(e:TypeId)(size n:Nat)(cells:List AV):Option (AV×AM):=
 AG (CA P e size) (some (.slice (some (s.next,0)) n none,newObj s (Bs e size (AC.fill .leaf 0 cells) cells.length none true)))
def BM(s:AM)(i:Nat)(r:B3)(ends:Bool):AM:=
 bif ends then setObj (Aj s i r) i (.row { r with mode:=.sealed,par:=none })else A2 (Aj s i r) i
def CC(P:Program)(s:AM)(e:TypeId)(size i o len:Nat)(src:Nat×List AV)(r:B3)(old:List AV):Option (AV×AM):=
 AG (CE r.mode && Nat.beq r.elem e && CA P e size) <|
  let ends:=Nat.beq (o+len * size) r.n
  let s2:=BM s i r ends
  some (.slice (some (s.next,0)) (len+src.1) none,
   newObj s2 (Bs e size (bif Nat.beq o 0 then r.c.fill (len * size) src.2 else AC.fill .leaf 0 (old++src.2)) (old++src.2).length (bif ends then some i else none) (r.bytes && Nat.beq o 0)))
def Il(P:Program)(s:AM)(e:TypeId)(size i o len:Nat)(src:Nat×List AV)(r:B3):Option (AV×AM):=
 AG (Nat.beq size r.sz) <|
 bif Nat.ble (o+(len+src.1) * size) r.n then
  (Bz s i (o+len * size) src.2).bind fun s'=>some (.slice (some (i,o)) (len+src.1) none,s')
 else (BF s i o (len * size)).bind fun old =>
  bif r.spare then CC P s e size i o len src r old else BU P s e size (len+src.1) (old++src.2)
def HD(P:Program)(s:AM)(e:TypeId)(size i o len c:Nat)(src:Nat×List AV):Option (AV×AM):=
 bif Nat.ble (len+src.1) c then
  (Bz s i (o+len * size) src.2).bind fun s'=>some (.slice (some (i,o)) (len+src.1) (some c),s')
 else (BF s i o (len * size)).bind fun old=>BU P s e size (len+src.1) (old++src.2)
def LH(P:Program)(s:AM)(e:TypeId)(size:Nat)(a:Option (Nat×Nat))(len:Nat)(cap:Option Nat)(src:Nat×List AV):Option (AV×AM):=
 match a with
 | none=>bif Nat.beq src.1 0 then some (.slice none 0 (some 0),s)else BU P s e size src.1 src.2
 | some (i,o)=>match cap with
  | some c=>HD P s e size i o len c src
  | none=>(rowAt s i).bind fun r=>Il P s e size i o len src r
def Dc(P:Program)(s:AM)(argTypes:List TypeId)(args:List AV):Option (AV×AM):=
 match argTypes,args with
 | [st,xt],[.slice a len cap,x]=>match P.underlying st with
  | some (.slice e)=>(Ag P e).bind fun size=>(CP P e).bind fun by_ =>
   AG (!Nat.beq size 0 && (match x with | .int ..=>IJ P xt | _=>CS P xt)) <|
   (Fp P s e size x).bind fun src =>
   AG (Bn src.2 && Nat.ble ((len+src.1) * by_) 1099511627776 && Nat.ble (len+src.1) 1099511627776) <|
   LH P s e size a len cap src
  | _=>none
 | _,_=>none
def J5(P:Program)(s:AM)(argTypes:List TypeId)(args:List AV):Option (AV×AM):=
 match argTypes,args with
 | dt::_,[.slice a dl _,x]=>match P.underlying dt with
  | some (.slice e)=>(Ag P e).bind fun size =>
   (match x with | .slice _ n _=>some n | .str l=>some l.length | _=>none).bind fun sl =>
   let n:=bif Nat.ble sl dl then sl else dl
   (match x with
    | .slice none _ _=>some []
    | .slice (some (i,o)) _ _=>BF s i o (n * size)
    | .str l=>AG (Nat.beq size 1) (some ((l.take n).map fun b=>.int .u8 (.ofNat b)))
    | _=>none).bind fun cells =>
   (match a with
    | none=>some s
    | some (i,o)=>Bz s i o cells).bind fun s'=>some (.int .i64 (.ofNat n),s')
  | _=>none
 | _,_=>none
def Iv(r:B3):AZ:=.row { r with n:=0,spare:=true,mode:=.ro,par:=none,bytes:=false,glob:=none }
def JG(P:Program)(s:AM)(t:TypeId)(n:Nat):Option (Nat×Nat)→Option (AV×AM)
 | none=>none
 | some (i,o)=>match P.underlying t with
  | some (.pointer e)=>(rowAt s i).bind fun r=>AG (CE r.mode && r.bytes && Nat.beq o 0 && Nat.beq r.elem e && Nat.ble n 1099511627776) <| (Ag P e).bind fun z=>AG (Nat.beq z 1) <|
   (BF s i o n).bind fun l=>(Az.bytesOf l).bind fun b=>some (.str b,setObj (Aj s i r) i (Iv r))
  | _=>none
def Kp(P:Program)(s:AM)(argTypes:List TypeId)(args:List AV):Option (AV×AM):=
 match argTypes,args with
 | [t,_],[.ptr a,.int .i64 (.ofNat n)]=>match n with
  | 0=>some (.str [],s)
  | n+1=>JG P s t (n+1) a
 | _,_=>none
def KT(s:AM):List AV→Option (AV×AM)
 | [x]=>some (x,s)
 | _=>none
def Gv(e:TypeId)(s:AM):List AV→Option (AV×AM)
 | [.int .i64 (.ofNat n)]=>AG (Nat.ble n 1099511627776) (some (.slice (some (s.next,0)) n none,newObj s (Bs e 1 .leaf n none true)))
 | _=>none
def It(s:AM):List AV→Option (AV×AM)
 | [.str a,.str b]=>some (.int .i64 (bif Cu a b then -1 else bif A7 a b then 0 else 1),s)
 | _=>none
def HM(P:Program)(name:String)(rt:Array TypeId):Option (AM→List AV→Option (AV×AM)):=
  bif name == "internal/abi.NoEscape" then some KT else
  bif name == "internal/bytealg.abigen_runtime_cmpstring" then some It else
  bif name == "internal/bytealg.MakeNoZero" then (match rt.toList with
    | [t]=>match P.underlying t with
      | some (.slice e)=>match Ag P e with
        | some 1=>some (Gv e)
        | _=>none
      | _=>none
    | _=>none)
  else none
def KD(P:Program)(f:FuncId):Option (AM→List AV→Option (AV×AM)):=match P.funcs[f]? with
  | some fn=>match fn.body with
    | some _=>none
    | none => bif fn.origin == "" then HM P fn.name fn.resultTypes else none
  | none=>none
def IA(P:Program)(s:AM)(argTypes:List TypeId)(args:List AV):Option (AV×AM):=
 match argTypes,args with
 | t::_,[x]=>match P.underlying t,x with
  | some (.slice _),.slice none _ _=>some (Aw,s)
  | some (.slice _),.slice _ 0 _=>some (Aw,s)
  | some (.slice e),.slice (some (i,o)) n _=>(B2 P e).bind fun z=>(Bz s i o (Jt z.cells n)).bind fun s'=>some (Aw,s')
  | _,_=>none
 | _,_=>none
inductive Sh where
 | p1 (f:AV→Option AV)
 | p2 (f:AV→AV→Option AV)
 | p (f:List AV→Option AV)
 | r1 (f:AM→AV→Option AV)
 | r (f:AM→List AV→Option AV)
 | mk (f:List AV→Option (AZ×Made))
 | e (f:AM→List AV→Option (AV×AM))
 | call (f:FuncId)
 | callv
def Sh.isEff:Sh→Bool
 | .e _ | .call _ | .callv=>true
 | _=>false
def Sh.isRead:Sh→Bool
 | .r1 _ | .r _=>true
 | _=>false
def Rs:List AV→Option AV
 | [c,a,b]=>Rt c a b
 | _=>none
def Wd{α:Type}(f:AV→AV→Option α):List AV→Option α
 | [a,b]=>f a b
 | _=>none
def We{α:Type}(f:AV→AV→AV→Option α):List AV→Option α
 | [a,b,c]=>f a b c
 | _=>none
def Wf(x:Option AM):Option (AV×AM):=match x with
 | some s=>some (Aw,s)
 | none=>none
def BE(P:Program)(t:TypeId)(lo hi mx:Bool)(s:AM):List AV→Option AV
 | [x]=>match lo,hi,mx with
  | false,false,false=>Av P s t x none none none
  | _,_,_=>none
 | [x,a]=>match lo,hi,mx with
  | true,false,false=>Av P s t x (some a) none none
  | false,true,false=>Av P s t x none (some a) none
  | _,_,_=>none
 | [x,a,b]=>match lo,hi,mx with
  | true,true,false=>Av P s t x (some a) (some b) none
  | false,true,true=>Av P s t x none (some a) (some b)
  | _,_,_=>none
 | [x,a,b,c]=>match lo,hi,mx with
  | true,true,true=>Av P s t x (some a) (some b) (some c)
  | _,_,_=>none
 | _=>none
def zipIdx(is:List Nat)(l:List AV):List (Nat×AV):=is.zip l
def Cn:Operand→Bool
 | .tmp _=>true
 | _=>false
def KZ(P:Program)(op:BinOp)(t:TypeId)(x y:Operand):Option Bool:=match op with
 | .eql=>bif Cn x && Cn y && Cm P t then some false else none
 | .neq=>bif Cn x && Cn y && Cm P t then some true else none
 | _=>none
def AQ(P:Program)(o:Op):Option (Sh×List Operand):=
 match o with
 | .move x | .assign x=>some (.p1 some,[x])
 | .pick c a b=>some (.p Rs,[c,a,b])
 | .build t ps=>some (.p (fun l=>H7 P t (zipIdx (ps.toList.map (·.1)) l)),ps.toList.map (·.2))
 | .nilCheck x=>some (.p1 EG,[x])
 | .binOp op t x y _=>match KZ P op t x y with
  | some neg=>some (.r (fun s=>Wd (EI P s neg t)),[x,y])
  | none=>some (.p2 (Ky P op t),[x,y])
 | .unOp op _ x=>some (.p1 (L0 P op),[x])
 | .makeFunc fn first captured=>match fn with
  | .func f=>some (.p (fun l=>some (.func f (l.take first.size) (l.drop first.size))),first.toList++captured.toList)
  | _=>none
 | .fieldAddr t x f=>some (.p1 (fun x=>DG P t x f),[x])
 | .field t x f=>some (.p1 (fun x=>IF P t x f),[x])
 | .indexAddr t x i=>some (.p2 (DI P t),[x,i])
 | .index t x i=>some (.p2 (IH P t),[x,i])
 | .extract t i=>some (.p1 (fun x=>Wg x i),[t])
 | .load t a=>some (.r1 (fun s a=>Dm P s t a),[a])
 | .lookup t m k ok=>AG (DB P t) (some (.r (fun s=>Wd (fun m k=>Cx P s t m k ok)),[m,k]))
 | .convert src dst x=>some (.r1 (fun s x=>Az P s src dst x),[x])
 | .slice t x lo hi mx=>some (.r (BE P t lo.isSome hi.isSome mx.isSome),[x]++lo.toList++hi.toList++mx.toList)
 | .alloc e=>some (.mk (fun l=>match l with | []=>GZ P e | _=>none),[])
 | .box e x=>some (.mk (fun l=>match l with | [v]=>LR e v | _=>none),[x])
 | .buildSlice t len ps=>some (.mk (fun l=>(C3 P t len (zipIdx (ps.toList.map (·.1)) l)).bind fun r=>some (r,.slice len)),ps.toList.map (·.2))
 | .makeMap t none=>AG (DB P t) (some (.mk (fun l=>match l with | []=>(JU P t).bind fun kt=>some (.map kt [],.map) | _=>none),[]))
 | .makeSlice t l c=>some (.mk (Wd (CV P t)),[l,c])
 | .store t a x=>some (.e (fun s=>Wd (fun a x=>Wf (Ic P s t a x))),[a,x])
 | .mapUpdate t m k x | .insert t m k x=>AG (DB P t) (some (.e (fun s=>We (fun m k x=>Wf (G8 P s t m k x))),[m,k,x]))
 | .call { callee,args,argTypes }=>match callee with
  | .value (.func f)=>match KD P f with
   | some e=>some (.e e,args.toList)
   | none=>some (.call f,args.toList)
  | .value x=>some (.callv,x::args.toList)
  | .invoke ..=>none
  | .builtin b=>match b with
   | .len=>match argTypes[0]? with
    | some t=>some (.r (fun s l=>match l with | [x]=>Ja P s t x | _=>none),args.toList)
    | none=>none
   | .cap=>match argTypes[0]? with
    | some t=>some (.r (fun s l=>match l with | [x]=>JL P s t x | _=>none),args.toList)
    | none=>none
   | .min=>some (.p (fun l=>match l with | v::l=>EF false v l | []=>none),args.toList)
   | .max=>some (.p (fun l=>match l with | v::l=>EF true v l | []=>none),args.toList)
   | .append=>some (.e (fun s l=>Dc P s argTypes.toList l),args.toList)
   | .copy=>some (.e (fun s l=>J5 P s argTypes.toList l),args.toList)
   | .unsafeSliceData=>some (.p (fun l=>match l with | [x]=>J9 x | _=>none),args.toList)
   | .unsafeString=>some (.e (fun s l=>Kp P s argTypes.toList l),args.toList)
   | .clear=>some (.e (fun s l=>IA P s argTypes.toList l),args.toList)
   | .delete=>match argTypes[0]? with
    | some t=>AG (DB P t) (some (.e (fun s=>Wd (fun m k=>Wf (Ep P s t m k))),args.toList))
    | none=>none
   | _=>none
 | _=>none
def Lr(t:Nat):Nat:=Nat.shiftLeft 1 t
def CH:List Operand→Nat
 | []=>0
 | .tmp t::l=>Nat.lor (Lr t) (CH l)
 | _::l=>CH l
def FA(P:Program):List Oper→Nat→Nat→Nat
 | [],_,e=>e
 | o::l,wr,e =>
  let rd:=match AQ P o.op with
   | some (_,xs)=>CH xs
   | none=>match o.op with
    | .range _ x | .next x _ | .entry x=>CH [x]
    | _=>0
  FA P l (match o.dst with | some d=>Nat.lor wr (Lr d) | none=>wr) (Nat.lor e (Nat.sub rd (Nat.land rd wr)))
def Be(P:Program):Code→Nat
 | .region _ ops _=>FA P ops.toList 0 0
 | .seq a b=>Nat.lor (Be P a) (Be P b)
 | .cond c a b=>Nat.lor (CH [c]) (Nat.lor (Be P a) (Be P b))
 | .block _ b | .loop b | .scope b=>Be P b
 | .rangeFunc f ps a b=>Nat.lor (CH [f]) (Nat.lor (ps.toList.foldl (fun m t=>Nat.lor m (Lr t)) 0) (Nat.lor (Be P a) (Be P b)))
 | _=>0
def DS:List ResultVar→Nat
 | []=>0
 | .tmp t::l | .cell t _::l=>Nat.lor (Lr t) (DS l)
def CD(m:Nat):Nat→Nat→List Nat
 | 0,_=>[]
 | n+1,k=>bif m.testBit k then k::CD m n (k+1)else CD m n (k+1)
def A8(fn:Func):Nat:=fn.params.size+fn.nfree
def AH(P:Program)(fn:Func):List Tmp:=
 List.range (A8 fn)++match fn.body with
 | none=>[]
 | some c=>CD (Nat.lor (Be P c) (DS fn.results.toList)) (fn.ntmps - A8 fn) (A8 fn)
def AN:List Tmp→Tmp→Option Nat
 | [],_=>none
 | a::l,t=>bif Nat.beq a t then some 0 else (AN l t).bind fun j=>some (j+1)
def HL(P:Program)(o:Oper):Bool:=match AQ P o.op with
 | some (s,_)=>s.isEff
 | none=>true
def JB(b:Array Nat)(done:Nat)(i:Nat):Bool:=Nat.beq (Nat.land (b.getD i 0) done) (b.getD i 0)
def IU(P:Program)(ops:Array Oper)(b:Array Nat):Nat→Nat→List Nat→List Nat→List Nat
 | 0,_,_,acc=>acc.reverse
 | f+1,done,todo,acc =>
  match todo.find? fun i=>JB b done i && !HL P (ops.getD i default)with
  | some i=>IU P ops b f (done+2 ^ i) (todo.filter fun j=>!Nat.beq j i) (i::acc)
  | none=>match todo.find? fun i=>JB b done i with
   | some i=>IU P ops b f (done+2 ^ i) (todo.filter fun j=>!Nat.beq j i) (i::acc)
   | none=>acc.reverse
def LB(P:Program)(ops:Array Oper):List Nat:=IU P ops (Region.before ops) ops.size 0 (List.range ops.size) []
def CW(P:Program)(o:Oper):List Tmp:=o.dst.toList++((match AQ P o.op with
 | some (_,xs)=>xs
 | none=>[]).filterMap fun x:Operand=>match x with
  | .tmp t=>some t
  | _=>none)
def Iz(o:Oper):List Nat:=match o.guard with
 | some (j,_)=>[j]
 | none=>[]
def G7(P:Program)(ops:Array Oper)(b:Array Nat)(before:List Nat)(i:Nat):Bool:=
 let o:=ops.getD i default
 let anc:=b.getD i 0
 Nat.blt i ops.size && !before.contains i &&
 (List.range ops.size).all (fun j=>!anc.testBit j || before.contains j) &&
 o.after.all (fun e=>!Region.binds .any e || before.contains e.on) &&
 before.all (fun j=>!HL P (ops.getD j default) || anc.testBit j) &&
 (Iz o).all (fun j=>anc.testBit j) &&
 before.all (fun j=>let p:=ops.getD j default
  (match o.dst with
   | none=>true
   | some d=>p.dst != some d && (!(CW P p).contains d || anc.testBit j)) &&
  (match p.dst with
   | none=>true
   | some d=>!(CW P o).contains d || anc.testBit j))
def Bv(P:Program)(ops:Array Oper)(b:Array Nat):List Nat→List Nat→Bool
 | before,[]=>Nat.beq before.length ops.size
 | before,i::l=>G7 P ops b before i && Bv P ops b (before++[i]) l
inductive Ju where
 | push | set (j:Nat)
structure EQ where
 guard:Option (CX×Bool)
 sh:Sh
 xs:List CX
 ans:CX
structure EP where
 guard:Option (CX×Bool)
 sh:Sh
 xs:List CX
 dst:Ju
 again:List EQ
structure Kt where
 map:List (Tmp×CX)
 cnt:Nat
def BX:List (Tmp×CX)→Tmp→Option CX
 | [],_=>none
 | (a,x)::l,t=>bif Nat.beq a t then some x else BX l t
def Aq(cnt:Nat):CX→CX
 | .loc p=>.loc (cnt - 1 - p)
 | x=>x
def BZ(vars:List Tmp)(c:Kt)(t:Tmp):Option CX:=
 match BX c.map t with
 | some x=>some x
 | none=>(AN vars t).bind fun j=>some (.var j)
def BY(vars:List Tmp)(c:Kt):Operand→Option CX
 | .tmp t=>BZ vars c t
 | .const v=>(ofValue v).bind fun a=>some (.const a)
 | .global g=>some (.const (.gptr g 0))
 | .func f=>some (.const (.func f [] []))
def DP(vars:List Tmp)(c:Kt):List Operand→Option (List CX)
 | []=>some []
 | x::l=>(BY vars c x).bind fun a=>(DP vars c l).bind fun r=>some (a::r)
def isVar(j:Nat):CX→Bool
 | .var i=>Nat.beq i j
 | _=>false
def Do(j:Nat):List (Tmp×CX)→Bool
 | []=>true
 | (_,x)::l=>!isVar j x && Do j l
def En(vars:List Tmp)(later:List (Option Tmp))(o:Oper)(x:CX):Bool:=
 (match o.op with | .move _=>true | _=>false) && o.guard.isNone &&
 (match o.dst with | some d=>(AN vars d).isNone | none=>false) &&
 (match x with
  | .var j=>!(later.any fun d=>match d with
   | some t=>match AN vars t with
    | some i=>Nat.beq i j
    | none=>false
   | none=>false)
  | _=>true)
def CI(cnt:Nat):Option (CX×Bool)→Option (CX×Bool)
 | none=>none
 | some (x,b)=>some (Aq cnt x,b)
def Dt(cnt:Nat)(r:EQ):EQ:={ guard:=CI cnt r.guard,sh:=r.sh,xs:=r.xs.map (Aq cnt),ans:=Aq cnt r.ans }
def Gx(j:Nat)(r:EQ):Bool:=(match r.guard with | none=>true | some (x,_)=>!isVar j x) && r.xs.all fun x=>!isVar j x
def Bd(P:Program)(nt:Nat)(vars:List Tmp)(ops:Array Oper)(b:Array Nat)(draw:Bool):List Nat→Kt→List (Nat×EQ)→Option (List EP)
  | [],_,_=>some []
  | i::l,c,rs=>(ops[i]?).bind fun o=>(AQ P o.op).bind fun sh=>(DP vars c sh.2).bind fun xs =>
    match (match xs with | [x]=>bif En vars (l.map fun j=>(ops.getD j default).dst) o x then some x else none | _=>none),o.dst with
    | some x,some d=>AG (Nat.blt d nt) (Bd P nt vars ops b draw l { c with map:=(d,x)::c.map } rs)
    | _,_ =>
      (match o.guard with
        | none=>some none
        | some (j,want)=>(ops[j]?).bind fun p=>p.dst.bind fun d=>(BZ vars c d).bind fun x=>some (some (x,want))).bind fun g =>
      (match o.dst with
        | none=>some (Ju.push,{ c with cnt:=c.cnt+1 })
        | some d=>AG (Nat.blt d nt) <| match AN vars d with
          | some j=>AG (Do j c.map && rs.all fun r=>Gx j r.2) (some (Ju.set j,c))
          | none=>some (Ju.push,{ map:=(d,.loc c.cnt)::c.map,cnt:=c.cnt+1 })).bind fun q =>
      let ag:=match draw,sh.1.isEff with
        | true,true=>rs.filter fun(r:Nat×EQ)=>!(b.getD i 0).testBit r.1
        | _,_=>[]
      let rd:=draw && sh.1.isRead
      AG (!rd || (match q.1 with | .push=>true | .set _=>false)) <|
      (Bd P nt vars ops b draw l q.2 (bif rd then (i,{ guard:=g,sh:=sh.1,xs,ans:=.loc c.cnt })::rs else rs)).bind fun r =>
        some ({ guard:=CI c.cnt g,sh:=sh.1,xs:=xs.map (Aq c.cnt),dst:=q.1,again:=ag.map fun(r:Nat×EQ)=>Dt q.2.cnt r.2 }::r)
structure Ex where
 ad:CX
 rd:AM→AV→Option AV
 jt:Nat
 jok:Nat
 jk:Nat
 id2:Nat
inductive Ay where
 | skip
 | ops (l:List EP)
 | seq (a b:Ay)
 | cond (x:CX) (a b:Ay)
 | block (id:Nat) (c:Ay)
 | loop (c:Ay)
 | rangeFunc (fn:FuncId) (f:CX) (params:Array Tmp) (assign body:Code)
 | exit (id:Nat)
 | ret
 | never
 | rangeMap (r:Ex) (body:Ay)
structure Lf where
 ty:TypeId
 ad:Operand
 tm:Tmp
 it:Tmp
 tn:Tmp
 ok:Tmp
 te:Tmp
 tk:Tmp
 key:Tmp
 id2:Nat
def Bf(o:Oper):Option (Op×Tmp):=match o.guard,o.dst with
 | none,some d=>some (o.op,d)
 | _,_=>none
def H4:Op→Option (TypeId×Operand)
 | .load t a=>some (t,a)
 | _=>none
def Gd:Op→Option (TypeId×Tmp)
 | .range t (.tmp m)=>some (t,m)
 | _=>none
def H5:Op→Option Tmp
 | .next (.tmp i) false=>some i
 | _=>none
def Gb:Op→Option Tmp
 | .entry (.tmp i)=>some i
 | _=>none
def Im:Op→Option Tmp
 | .extract (.tmp n) 0=>some n
 | _=>none
def J1:Op→Option Tmp
 | .assign (.tmp n)=>some n
 | _=>none
def G1:List Oper→Option (TypeId×Operand×Tmp×Tmp)
 | [o0,o1]=>(Bf o0).bind fun p0=>(Bf o1).bind fun p1=>(H4 p0.1).bind fun l=>(Gd p1.1).bind fun r =>
  AG (Nat.beq l.1 r.1 && Nat.beq p0.2 r.2) (some (l.1,l.2,p0.2,p1.2))
 | _=>none
def G3(it:Tmp):List Oper→Option (Tmp×Tmp)
 | [o0,o1]=>(Bf o0).bind fun p0=>(Bf o1).bind fun p1=>(H5 p0.1).bind fun i=>(Im p1.1).bind fun n =>
  AG (Nat.beq i it && Nat.beq n p0.2) (some (p0.2,p1.2))
 | _=>none
def Fg(it:Tmp):List Oper→Option (Tmp×Tmp×Tmp)
 | [o0,o1,o2]=>(Bf o0).bind fun p0=>(Bf o1).bind fun p1=>(Bf o2).bind fun p2=>(Gb p0.1).bind fun i=>(Im p1.1).bind fun n=>(J1 p2.1).bind fun k =>
  AG (Nat.beq i it && (Nat.beq n p0.2 && Nat.beq k p1.2)) (some (p0.2,p1.2,p2.2))
 | _=>none
def Ke(ops1:Array Oper)(d1:Bool):Code→Option Lf
 | .block id (.loop (.seq (.region _ ops2 false) (.seq (.cond (.tmp c) .skip (.exit id')) (.block id2 (.seq (.region _ ops3 false) _))))) =>
  AG (!d1) <| (G1 ops1.toList).bind fun h=>(G3 h.2.2.2 ops2.toList).bind fun n=>(Fg h.2.2.2 ops3.toList).bind fun e =>
   AG (Nat.beq id' id && Nat.beq c n.2) (some ⟨h.1,h.2.1,h.2.2.1,h.2.2.2,n.1,n.2,e.1,e.2.1,e.2.2,id2⟩)
 | _=>none
def Iu(P:Program)(nt:Nat)(vars:List Tmp)(p:Lf):Option Ex:=
 (BY vars ⟨[],0⟩ p.ad).bind fun ad=>(AN vars p.it).bind fun jt=>(AN vars p.ok).bind fun jok=>(AN vars p.key).bind fun jk =>
  AG ((AN vars p.tm).isNone && ((AN vars p.tn).isNone && ((AN vars p.te).isNone && (AN vars p.tk).isNone))) <|
  AG (Nat.blt p.tm nt && (Nat.blt p.tn nt && (Nat.blt p.te nt && (Nat.blt p.tk nt && (Nat.blt p.it nt && (Nat.blt p.ok nt && Nat.blt p.key nt)))))) <|
  AG (EB P p.ty && (!Nat.beq jt jok && (!Nat.beq jt jk && !Nat.beq jok jk))) (some ⟨ad,fun s a=>Dm P s p.ty a,jt,jok,jk,p.id2⟩)
def C0:Ay→Option Ay
 | .block _ (.loop (.seq _ (.seq _ (.block _ (.seq _ b)))))=>some b
 | _=>none
def Fk(r:Option Ex)(a b:Ay):Ay:=match r with
 | none=>.seq a b
 | some r=>match C0 b with
  | some c=>.rangeMap r c
  | none=>.seq a b
def DD(P:Program)(nt:Nat)(vars:List Tmp):Code→Code→Option Ex
 | .region _ ops d,b=>(Ke ops d b).bind (Iu P nt vars)
 | _,_=>none
def LM:Option (List EP)→Ay
 | some l=>.ops l
 | none=>.never
def AJ(P:Program)(fn:FuncId)(nt:Nat)(vars:List Tmp):Code→Ay
 | .skip | .label _=>.skip
 | .ret=>.ret
 | .exit id=>.exit id
 | .goto _ | .refuse _=>.never
 | .region _ ops draw=>match draw with
  | false=>LM (Bd P nt vars ops #[] false (List.range ops.size) ⟨[],0⟩ [])
  | true=>LM (AG (Bv P ops (Region.before ops) [] (LB P ops)) (Bd P nt vars ops (Region.before ops) true (LB P ops) ⟨[],0⟩ []))
 | .seq a b=>Fk (DD P nt vars a b) (AJ P fn nt vars a) (AJ P fn nt vars b)
 | .cond c a b=>match BY vars ⟨[],0⟩ c with
  | some z=>.cond z (AJ P fn nt vars a) (AJ P fn nt vars b)
  | none=>.never
 | .block id c=>.block id (AJ P fn nt vars c)
 | .loop c=>.loop (AJ P fn nt vars c)
 | .scope c=>AJ P fn nt vars c
 | .rangeFunc f ps a b=>match BY vars ⟨[],0⟩ f with
  | some x=>.rangeFunc fn x ps a b
  | none=>.never
structure Jv where
 na:Nat
 nv:Nat
 body:Ay
 results:List (CX×Option TypeId)
def Ar(vars:List Tmp):List ResultVar→Option (List (CX×Option TypeId))
 | []=>some []
 | .tmp t::l=>(AN vars t).bind fun j=>(Ar vars l).bind fun r=>some ((.var j,none)::r)
 | .cell t ty::l=>(AN vars t).bind fun j=>(Ar vars l).bind fun r=>some ((.var j,some ty)::r)
def E6(P:Program)(f:FuncId):Option Jv:=(P.funcs[f]?).bind fun fn=>fn.body.bind fun c =>
 AG (Nat.ble (A8 fn) fn.ntmps) <|
 let vars:=AH P fn
 (Ar vars fn.results.toList).bind fun r =>
  some { na:=A8 fn,nv:=vars.length,body:=AJ P f fn.ntmps vars c,results:=r }
def Hy (l:List AV):Nat→AV:=
 List.rec (fun _=>Aw) (fun a _ ih i=>Nat.rec a (fun i _=>ih i) i) l
def DZ (v:AV) (l:List AV):Nat→List AV:=
 List.rec (fun _=>[]) (fun a l ih i=>Nat.rec (v::l) (fun i _=>a::ih i) i) l
def B5 (loc var:List AV) (x:CX):AV:=
 match x with
 | .loc i=>Hy loc i
 | .var j=>Hy var j
 | .const v=>v
def B0 (loc var:List AV) (l:List CX):List AV:=
 List.rec [] (fun x _ ih=>B5 loc var x::ih) l
inductive Ev where
 | normal | exit (id:Nat) | ret
structure Ao where
 exit:Ev
 var:List AV
 marks:List Nat
 st:AM
def Hx:AV→AV→Bool
 | .bool a,.bool b=>a == b
 | .int k a,.int k' b=>By k k' && Kr a b
 | .str a,.str b=>A7 a b
 | .ptr none,.ptr none=>true
 | .gptr a b,.gptr c d=>Nat.beq a c && Nat.beq b d
 | .ptr (some (i,o)),.ptr (some (j,p))=>Nat.beq i j && Nat.beq o p
 | .slice none n (some c),.slice none n' (some c')=>Nat.beq n n' && Nat.beq c c'
 | .slice none n none,.slice none n' none=>Nat.beq n n'
 | .slice (some (i,o)) n none,.slice (some (j,p)) n' none=>Nat.beq i j && Nat.beq o p && Nat.beq n n'
 | .slice (some (i,o)) n (some c),.slice (some (j,p)) n' (some c')=>Nat.beq i j && Nat.beq o p && Nat.beq n n' && Nat.beq c c'
 | .map none,.map none=>true
 | .map (some i),.map (some j)=>Nat.beq i j
 | .func f a c,.func g b d=>Nat.beq f g && eqAs a b && eqAs c d
 | .nilFunc,.nilFunc=>true
 | .nilIface,.nilIface=>true
 | .yield i,.yield j=>Nat.beq i j
 | .agg a,.agg b=>eqAs a b
 | .tuple a,.tuple b=>eqAs a b
 | _,_=>false
where
 eqAs:List AV→List AV→Bool
 | [],[]=>true
 | a::x,b::y=>Hx a b && eqAs x y
 | _,_=>false
abbrev Jw:=FuncId→List AV→AM→Option (AV×AM)
structure Kv where
 P:Program
 nat:Jw
structure BN where
 code:Option Nat→Ay→List AV→List Nat→AM→Option Ao
 call:FuncId→List AV→AM→Option (AV×AM)
 round:Nat→List AV→AM→Option (AV×AM)
def F8(F:BN)(f:AV)(args:List AV)(s:AM):Option (AV×AM):=
 match f with
 | .func f first cap=>F.call f (first++(args++cap)) s
 | .yield l=>F.round l args s
 | _=>none
def CM(s:AM)(x:Option AV):Option (AV×AM):=match x with
 | some v=>some (v,s)
 | none=>none
def one{α:Type}(f:AV→Option α):List AV→Option α
 | [a]=>f a
 | _=>none
def Bw(sh:Sh)(xs:List AV)(s:AM):Option AV:=
 match sh with
 | .r1 f=>one (f s) xs
 | .r f=>f s xs
 | _=>none
def I4(s:AM)(r:Option (AZ×Made)):Option (AV×AM):=match r with
 | some p=>some (p.2.val s.next,newObj s p.1)
 | none=>none
def Js {α:Type} (f:CX→Option α) (xs:List CX):Option α:=List.rec none (fun x _ _=>f x) xs
def LI {α:Type} (f:CX→CX→Option α) (xs:List CX):Option α:=Js (fun x=>Js (f x) xs.tail) xs
def Lx (f:AV→Option AV) (xs:List CX) (loc var:List AV) (s:AM):Option (AV×AM):=Js (fun x=>CM s (f (B5 loc var x))) xs
def Ly (f:AV→AV→Option AV) (xs:List CX) (loc var:List AV) (s:AM):Option (AV×AM):=LI (fun x y=>CM s (f (B5 loc var x) (B5 loc var y))) xs
def Lz (f:AM→AV→Option AV) (xs:List CX) (loc var:List AV) (s:AM):Option (AV×AM):=Js (fun x=>CM s (f s (B5 loc var x))) xs
def shV (F:BN) (xs:List CX) (loc var:List AV) (s:AM):Option (AV×AM):=Js (fun x=>F8 F (B5 loc var x) (B0 loc var xs.tail) s) xs
def L5 (F:BN) (sh:Sh) (xs:List CX) (loc var:List AV) (s:AM):Option (AV×AM):=
 match sh with
 | .p1 f=>Lx f xs loc var s
 | .p2 f=>Ly f xs loc var s
 | .p f=>CM s (f (B0 loc var xs))
 | .r1 f=>Lz f xs loc var s
 | .r f=>CM s (f s (B0 loc var xs))
 | .mk f=>I4 s (f (B0 loc var xs))
 | .e f=>f s (B0 loc var xs)
 | .call f=>F.call f (B0 loc var xs) s
 | .callv=>shV F xs loc var s
def L4(want:Bool):AV→Bool
 | .bool b=>b == want
 | _=>false
def An (loc var:List AV) (g:Option (CX×Bool)):Bool:=
 match g with
 | none=>true
 | some p=>L4 p.2 (B5 loc var p.1)
def Ls:AV→Bool
 | .junk=>true
 | _=>false
def Lj (loc var:List AV) (g:Option (CX×Bool)):Bool:=
 match g with
 | none=>false
 | some p=>Ls (B5 loc var p.1)
def Lo(x:Option AV)(v:AV):Bool:=match x with
 | some u=>Hx u v
 | none=>false
def GY (s:AM) (loc var:List AV) (r:EQ):Bool:=
 !An loc var r.guard || Lo (Bw r.sh (B0 loc var r.xs) s) (B5 loc var r.ans)
def D5 (s:AM) (loc var:List AV) (l:List EQ):Bool:=
 List.rec true (fun r _ ih=>GY s loc var r && ih) l
abbrev Ku:=List AV→List AV→AM→Option (List AV×AM)
def Cw (ag:List EQ) (d:Ju) (k:Ku) (loc var:List AV) (v:AV) (s:AM):Option (List AV×AM):=
 match d with
 | .push=>bif D5 s (v::loc) var ag then k (v::loc) var s else none
 | .set j=>bif D5 s loc (DZ v var j) ag then k loc (DZ v var j) s else none
def I3 (it:EP) (k:Ku) (loc var:List AV) (r:Option (AV×AM)):Option (List AV×AM):=
 match r with
 | none=>none
 | some p=>Cw it.again it.dst k loc var p.1 p.2
def I2 (F:BN) (it:EP) (k:Ku) (loc var:List AV) (s:AM):Option (List AV×AM):=
 match Lj loc var it.guard with
 | true=>none
 | false=>match An loc var it.guard with
  | true=>I3 it k loc var (L5 F it.sh it.xs loc var s)
  | false=>Cw [] it.dst k loc var Aw s
def FK (F:BN) (l:List EP):Ku:=
 List.rec (fun _ var s=>some (var,s)) (fun it _ ih loc var s=>I2 F it ih loc var s) l
def Ql(l:List AV):Nat→List AV
 | 0=>[]
 | n+1=>match l with
  | []=>Aw::Ql [] n
  | a::l=>a::Ql l n
def BL (P:Program) (s:AM) (var:List AV):List (CX×Option TypeId)→Option (List AV)
 | []=>some []
 | (x,none)::l=>(BL P s var l).bind fun r=>some (B5 [] var x::r)
 | (x,some t)::l=>(Dm P s t (B5 [] var x)).bind fun v=>(BL P s var l).bind fun r=>some (v::r)
def BB:List AV→AV
 | [v]=>v
 | l=>.tuple l
def Fu(s:AM):List Nat→Option AM
 | []=>some s
 | i::l=>match s.heap.get i with
  | some .mark=>Fu (A2 s i) l
  | _=>none
def Bp:Ev→Option Code
 | .normal=>none
 | .ret=>some .ret
 | .exit id=>some (.exit id)
def C5 (vars:List Tmp) (var:List AV):List Tmp→List AV→Option (List AV)
 | [],[]=>some var
 | t::ts,v::vs=>(AN vars t).bind fun j=>C5 vars (DZ v var j) ts vs
 | _,_=>none
def DM(s:AM)(l:Nat):Option Ew:=match s.heap.get l with
 | some (.loop r)=>some r
 | _=>none
def IB(P:Program)(f:FuncId)(c:Code):Option Ay:=(P.funcs[f]?).bind fun fn=>some (AJ P f fn.ntmps (AH P fn) c)
def Da(P:Program)(f:FuncId):List Tmp:=match P.funcs[f]? with
 | some fn=>AH P fn
 | none=>[]
def Lg(marks:List Nat)(r:Option (List AV×AM)):Option Ao:=match r with
 | some p=>some ⟨.normal,p.1,marks,p.2⟩
 | none=>none
def Iq(F:BN)(rnd:Option Nat)(b:Ay)(r:Ao):Option Ao:=match r.exit with
 | .normal=>F.code rnd b r.var r.marks r.st
 | _=>some r
def HJ(F:BN)(rnd:Option Nat)(b:Ay)(r:Option Ao):Option Ao:=match r with
 | some r=>Iq F rnd b r
 | none=>none
def J2(F:BN)(rnd:Option Nat)(a b:Ay)(var:List AV)(marks:List Nat)(s:AM)(v:AV):Option Ao:=match v with
 | .bool t=>match t with
  | true=>F.code rnd a var marks s
  | false=>F.code rnd b var marks s
 | _=>none
def Io(id:Nat)(r:Ao):Option Ao:=match r.exit with
 | .exit id'=>bif Nat.beq id' id then some ⟨.normal,r.var,r.marks,r.st⟩else some r
 | _=>some r
def H8(id:Nat)(r:Option Ao):Option Ao:=match r with
 | some r=>Io id r
 | none=>none
def E4(var:List AV)(marks:List Nat)(s:AM)(c:Option Code):Option Ao:=match c with
 | none=>some ⟨.normal,var,marks,s⟩
 | some .ret=>some ⟨.ret,var,marks,s⟩
 | some (.exit id)=>some ⟨.exit id,var,marks,s⟩
 | some _=>none
def KK:LoopState→Bool
 | .busy=>true
 | _=>false
def I1:LoopState→Bool
 | .ready=>true
 | _=>false
def F7(var:List AV)(marks:List Nat)(l:Nat)(q:Option (AV×AM)):Option Ao:=
 q.bind fun q=>(DM q.2 l).bind fun r=>bif KK r.state then none else
  E4 var marks (setObj q.2 l (.loop { r with state:=.exhausted })) r.pending
def Eo(F:BN)(var:List AV)(f:AV)(params:Array Tmp)(assign body:Code)(fn:FuncId)(dfr:Nat)(marks:List Nat)(s:AM):Option Ao:=
 F7 var marks s.next (F8 { F with round:=fun _ _ _=>none } f [.yield s.next] (newObj s (.loop { state:=.ready,pending:=none,fn,var,params,assign,body,dfr })))
def H9(F:BN)(rnd:Option Nat)(fn:FuncId)(f:AV)(params:Array Tmp)(assign body:Code)(var:List AV)(marks:List Nat)(s:AM):Option Ao:=
 match rnd with
 | some l=>(DM s l).bind fun r=>Eo F var f params assign body fn r.dfr marks s
 | none=>Eo F var f params assign body fn s.next (s.next::marks) (newObj s .mark)
def LY:AZ→Option AZ
 | .row r=>some (.row { r with mode:=.ro,par:=none })
 | .map kt es=>some (.mapRo kt es)
 | .mapRo kt es=>some (.mapRo kt es)
 | _=>none
def frz(n:Nat)(h:AC AZ):AM:=⟨n,h.mapO LY⟩
def DV:AV→Bool
 | .agg _=>false
 | _=>true
def GO(a b:AV):Bool:=match a,b with
 | .junk,.junk=>true
 | _,_=>Hx a b
def Gr:List AV→List AV→Option (List AV)
 | [],[]=>some []
 | a::l,b::m=>(bif GO a b then some a else AG (DV a && DV b) (some .junk)).bind fun c=>(Gr l m).bind fun r=>some (c::r)
 | _,_=>none
def Lh(x b:AV):Bool:=GO x b || (DV x && GO .junk b)
def JP:List AV→List AV→Bool
 | [],[]=>true
 | x::l,b::m=>Lh x b && JP l m
 | _,_=>false
def C2:List Nat→List Nat→Bool
 | [],[]=>true
 | a::l,b::m=>Nat.beq a b && C2 l m
 | _,_=>false
def F9(id2:Nat):Ev→Bool
 | .normal=>true
 | .exit i=>Nat.beq i id2
 | .ret=>false
def BV (F:BN) (rnd:Option Nat) (r:Ex) (body:Ay) (A:List AV) (marks:List Nat) (s:AM) (k:AV):Option (List AV):=
 (F.code rnd body (DZ k (DZ (.bool true) A r.jok) r.jk) marks s).bind fun q=>AG (F9 r.id2 q.exit && C2 q.marks marks) (some q.var)
def G0 (f:AV→Option (List AV)) (B:List AV):List (AV×AV)→Option (List AV)
 | []=>some B
 | e::l=>(f e.1).bind fun X=>(Gr B X).bind fun B'=>G0 f B' l
def Et (f:AV→Option (List AV)) (B:List AV):List (AV×AV)→Bool
 | []=>true
 | e::l=>(match f e.1 with | some X=>JP X B | none=>false) && Et f B l
def Kd (F:BN) (rnd:Option Nat) (r:Ex) (body:Ay) (it:AV) (marks:List Nat) (s:AM) (A0:List AV) (l:List (AV×AV)):Option (List AV):=
 (G0 (BV F rnd r body A0 marks s) A0 l).bind fun A1=>AG (Et (BV F rnd r body A1 marks s) A1 l && (Hx (Hy A1 r.jt) it && JP A0 A1)) (some A1)
def Ip (r:Ex) (marks:List Nat) (s:AM) (A:Option (List AV)):Option Ao:=
 A.bind fun A=>some ⟨.normal,DZ (.bool false) A r.jok,marks,s⟩
def I5(s:AM):AV→Option (List (AV×AV))
 | .map (some i)=>match s.heap.get i with
  | some (.map _ es)=>some es
  | some (.mapRo _ es)=>some es
  | _=>none
 | _=>none
def LS (F:BN) (rnd:Option Nat) (r:Ex) (body:Ay) (var:List AV) (marks:List Nat) (s:AM):Option Ao:=
 (r.rd s (B5 [] var r.ad)).bind fun m=>(I5 s m).bind fun es =>
  Ip r marks ⟨s.next+1,s.heap⟩ (Kd F rnd r body (.ptr (some (s.next,0))) marks (frz (s.next+1) s.heap) (DZ (.ptr (some (s.next,0))) var r.jt) es)
def Fq (F:BN) (rnd:Option Nat) (c:Ay) (var:List AV) (marks:List Nat) (s:AM):Option Ao:=
 match c with
 | .skip=>some ⟨.normal,var,marks,s⟩
 | .ret=>some ⟨.ret,var,marks,s⟩
 | .exit id=>some ⟨.exit id,var,marks,s⟩
 | .never=>none
 | .ops l=>Lg marks (FK F l [] var s)
 | .seq a b=>HJ F rnd b (F.code rnd a var marks s)
 | .cond x a b=>J2 F rnd a b var marks s (B5 [] var x)
 | .block id body=>H8 id (F.code rnd body var marks s)
 | .loop body=>HJ F rnd (.loop body) (F.code rnd body var marks s)
 | .rangeFunc fn f params assign body=>H9 F rnd fn (B5 [] var f) params assign body var marks s
 | .rangeMap r body=>LS F rnd r body var marks s
def I0:Ev→Bool
 | .normal | .ret=>true
 | .exit _=>false
def Ir (P:Program) (cf:Jv) (r:Option Ao):Option (AV×AM):=
 r.bind fun r=>bif I0 r.exit then (Fu r.st r.marks).bind fun s=>(BL P s r.var cf.results).bind fun l=>some (BB l,s)else none
def E5 (P:Program) (F:BN) (args:List AV) (s:AM) (cf:Option Jv):Option (AV×AM):=
 cf.bind fun cf=>bif Nat.beq args.length cf.na then Ir P cf (F.code none cf.body (Ql args cf.nv) [] s)else none
def Kk (E:Kv) (F:BN) (f:FuncId) (args:List AV) (s:AM):Option (AV×AM):=
 match E.nat f args s with
 | some p=>some p
 | none=>E5 E.P F args s (E6 E.P f)
def Cl:Ev→Bool
 | .normal=>true
 | _=>false
def Dz:Option Code→LoopState
 | none=>.ready
 | some _=>.done
def Hl(l:Nat)(q:Option Ao):Option (AV×AM):=q.bind fun q=>(DM q.st l).bind fun r =>
 some (.bool (Bp q.exit).isNone,setObj q.st l (.loop { r with state:=Dz (Bp q.exit),pending:=Bp q.exit }))
def GM(F:BN)(l:Nat)(cb:Ay)(q:Option Ao):Option (AV×AM):=q.bind fun q=>bif Cl q.exit then
  (DM q.st l).bind fun r=>bif I1 r.state then Hl l (F.code (some l) cb q.var q.marks (setObj q.st l (.loop { r with state:=.busy })))else none
 else none
def Kl (E:Kv) (F:BN) (l:Nat) (args:List AV) (s:AM):Option (AV×AM):=
 (DM s l).bind fun r=>(C5 (Da E.P r.fn) r.var r.params.toList args).bind fun var =>
  (IB E.P r.fn r.assign).bind fun ca=>(IB E.P r.fn r.body).bind fun cb=>GM F l cb (F.code (some l) ca var [] s)
def Ll:BN:=⟨fun _ _ _ _ _=>none,fun _ _ _=>none,fun _ _ _=>none⟩
def Lk (E:Kv) (F:BN):BN:=⟨Fq F,Kk E F,Kl E F⟩
def Fh (E:Kv) (n:Nat):BN:=Nat.rec Ll (fun _ F=>Lk E F) n
structure RB where
 b:Nat
 off:Nat
 N:Nat
 sz:Nat
abbrev AX:=Nat→Option RB
mutual
inductive AE (ρ:AX):AV→Value→Prop
 | bool (b:Bool):AE ρ (.bool b) (.bool b)
 | int (k:IntKind) (n:Int):AE ρ (.int k n) (.int k n)
 | str {l:List Nat} {s:ByteArray} (h:s.data.toList.map (fun(b:UInt8)=>b.toNat)=l):AE ρ (.str l) (.string s)
 | ptrNil:AE ρ (.ptr none) (.pointer none)
 | ptr {i o:Nat} {rb:RB} (h:ρ i=some rb):AE ρ (.ptr (some (i,o))) (.pointer (some ⟨rb.b,rb.off+o,none⟩))
 | gptr (g o:Nat):AE ρ (.gptr g o) (.pointer (some ⟨g,o,none⟩))
 | sliceNil:AE ρ (.slice none 0 (some 0)) (.slice none 0 0)
 | slice {i o len c:Nat} {rb:RB} (h:ρ i=some rb) (hl:len≤c):AE ρ (.slice (some (i,o)) len (some c)) (.slice (some ⟨rb.b,rb.off+o,none⟩) len c)
 | sliceOpen {i o len c:Nat} {rb:RB} (h:ρ i=some rb) (hs:0<rb.sz) (hl:len≤c) (h1:o+c * rb.sz≤rb.N) (h2:rb.N<o+(c+1) * rb.sz):
   AE ρ (.slice (some (i,o)) len none) (.slice (some ⟨rb.b,rb.off+o,none⟩) len c)
 | sliceEnd {i o:Nat} {rb:RB} {a:Addr} (h:ρ i=some rb) (hs:0<rb.sz) (h1:o≤rb.N) (h2:rb.N<o+rb.sz):
   AE ρ (.slice (some (i,o)) 0 none) (.slice (some a) 0 0)
 | mapNil:AE ρ (.map none) (.map none)
 | map {i:Nat} {rb:RB} (h:ρ i=some rb):AE ρ (.map (some i)) (.map (some rb.b))
 | func {f:FuncId} {a c:List AV} {a' c':Array Value} (ha:AD ρ a a'.toList) (hc:AD ρ c c'.toList):AE ρ (.func f a c) (.func (.func f) a' c')
 | yield {i:Nat} {rb:RB} (h:ρ i=some rb):AE ρ (.yield i) (.func (.yield rb.b) #[] #[])
 | nilFunc:AE ρ .nilFunc .nilFunc
 | nilIface:AE ρ .nilIface .nilIface
 | iface {t:TypeId} {v:AV} {v':Value} (h:AE ρ v v'):AE ρ (.iface t v) (.iface t v')
 | agg {cs:List AV} {cs':Array Value} (h:AD ρ cs cs'.toList):AE ρ (.agg cs) (.agg cs')
 | tuple {cs:List AV} {cs':Array Value} (h:AD ρ cs cs'.toList):AE ρ (.tuple cs) (.tuple cs')
 | any {v':Value} (h:v'.cells.toList=[v']):AE ρ .junk v'
inductive AD (ρ:AX):List AV→List Value→Prop
 | nil:AD ρ [] []
 | cons {v:AV} {v':Value} {l:List AV} {l':List Value} (h:AE ρ v v') (hs:AD ρ l l'):AD ρ (v::l) (v'::l')
end
def AX.le(ρ σ:AX):Prop:=∀i rb,ρ i=some rb→σ i=some rb
theorem AX.le_refl(ρ:AX):ρ.le ρ:=fun _ _ h=>h
theorem AX.le_trans{ρ σ τ:AX}(h:ρ.le σ)(k:σ.le τ):ρ.le τ:=fun i rb e=>k i rb (h i rb e)
mutual
theorem AE.mono{ρ σ:AX}(le:ρ.le σ){v:AV}{v':Value}(h:AE ρ v v'):AE σ v v':=by
 cases h with
 | bool b=>exact .bool b
 | int k n=>exact .int k n
 | str h=>exact .str h
 | ptrNil=>exact .ptrNil
 | ptr h=>exact .ptr (le _ _ h)
 | gptr g o=>exact .gptr g o
 | sliceNil=>exact .sliceNil
 | slice h hl=>exact .slice (le _ _ h) hl
 | sliceOpen h hs hl h1 h2=>exact .sliceOpen (le _ _ h) hs hl h1 h2
 | sliceEnd h hs h1 h2=>exact .sliceEnd (le _ _ h) hs h1 h2
 | mapNil=>exact .mapNil
 | map h=>exact .map (le _ _ h)
 | func ha hc=>exact .func (AD.mono le ha) (AD.mono le hc)
 | yield h=>exact .yield (le _ _ h)
 | nilFunc=>exact .nilFunc
 | nilIface=>exact .nilIface
 | iface h=>exact .iface (AE.mono le h)
 | agg h=>exact .agg (AD.mono le h)
 | tuple h=>exact .tuple (AD.mono le h)
 | any h=>exact .any h
theorem AD.mono{ρ σ:AX}(le:ρ.le σ){v:List AV}{v':List Value}(h:AD ρ v v'):AD σ v v':=by
 cases h with
 | nil=>exact .nil
 | cons h hs=>exact .cons (AE.mono le h) (AD.mono le hs)
end
section lists
variable{ρ:AX}
theorem AD.length{l:List AV}{l':List Value}(h:AD ρ l l'):l.length=l'.length:=by
 induction l generalizing l' with
 | nil=>cases h;rfl
 | cons a l ih=>cases h with | cons h hs=>simp[ih hs]
theorem AD.get{l:List AV}{l':List Value}(h:AD ρ l l'){k:Nat}{v:AV}(hk:l[k]? = some v):∃v',l'[k]? = some v'∧AE ρ v v':=by
  induction l generalizing l' k with
  | nil=>simp at hk
  | cons a l ih =>
    cases h with
    | cons h hs =>
      cases k with
      | zero=>simp at hk;subst hk;exact⟨_,rfl,h⟩
      | succ k=>simp at hk;obtain⟨v',h1,h2⟩:=ih hs hk;exact⟨v',by simpa using h1,h2⟩
theorem AD.of_get{l:List AV}{l':List Value}(hl:l.length=l'.length)(h:∀ (k:Nat)(v:AV)(v':Value),l[k]? = some v→l'[k]? = some v'→AE ρ v v'):AD ρ l l':=by
  induction l generalizing l' with
  | nil=>cases l' with | nil=>exact .nil | cons=>simp at hl
  | cons a l ih =>
    cases l' with
    | nil=>simp at hl
    | cons a' l'=>exact .cons (h 0 a a' rfl rfl) (ih (by simpa using hl) fun k v v' h1 h2=>h (k+1) v v' (by simpa using h1) (by simpa using h2))
theorem AD.append{l m:List AV}{l' m':List Value}(h:AD ρ l l')(k:AD ρ m m'):AD ρ (l++m) (l'++m'):=by
 induction l generalizing l' with
 | nil=>cases h;exact k
 | cons a l ih=>cases h with | cons h hs=>exact .cons h (ih hs)
theorem AD.take{l:List AV}{l':List Value}(h:AD ρ l l')(n:Nat):AD ρ (l.take n) (l'.take n):=by
  induction l generalizing l' n with
  | nil=>cases h;simp;exact .nil
  | cons a l ih =>
    cases h with
    | cons h hs=>cases n with
      | zero=>exact .nil
      | succ n=>exact .cons h (ih hs n)
theorem AD.drop{l:List AV}{l':List Value}(h:AD ρ l l')(n:Nat):AD ρ (l.drop n) (l'.drop n):=by
  induction l generalizing l' n with
  | nil=>cases h;simp;exact .nil
  | cons a l ih =>
    cases h with
    | cons h hs=>cases n with
      | zero=>exact .cons h hs
      | succ n=>exact ih hs n
theorem AE.cells{v:AV}{v':Value}(h:AE ρ v v'):AD ρ v.cells v'.cells.toList:=by
 cases h with
 | agg h=>exact h
 | bool b=>exact .cons (.bool b) .nil
 | int k n=>exact .cons (.int k n) .nil
 | str h=>exact .cons (.str h) .nil
 | ptrNil=>exact .cons .ptrNil .nil
 | ptr h=>exact .cons (.ptr h) .nil
 | gptr g o=>exact .cons (.gptr g o) .nil
 | sliceNil=>exact .cons .sliceNil .nil
 | slice h hl=>exact .cons (.slice h hl) .nil
 | sliceOpen h hs hl h1 h2=>exact .cons (.sliceOpen h hs hl h1 h2) .nil
 | sliceEnd h hs h1 h2=>exact .cons (.sliceEnd h hs h1 h2) .nil
 | mapNil=>exact .cons .mapNil .nil
 | map h=>exact .cons (.map h) .nil
 | func ha hc=>exact .cons (.func ha hc) .nil
 | yield h=>exact .cons (.yield h) .nil
 | nilFunc=>exact .cons .nilFunc .nil
 | nilIface=>exact .cons .nilIface .nil
 | iface h=>exact .cons (.iface h) .nil
 | tuple h=>exact .cons (.tuple h) .nil
 | any h=>rw[h];exact .cons (.any h) .nil
theorem AE.oneCell{v:AV}{v':Value}(h:AE ρ v v')(hc:v.isCell=true):v'.oneCell'=true:=by
 cases h<;>first | rfl | cases hc
theorem AD.oneCell{l:List AV}{l':List Value}(h:AD ρ l l')(hc:Bn l=true):∀v∈l',v.oneCell'=true:=by
  induction l generalizing l' with
  | nil=>cases h;simp
  | cons a l ih =>
    cases h with
    | cons h hs =>
      simp only[Bn,Bool.and_eq_true]at hc
      intro v hv
      rcases List.mem_cons.1 hv with rfl | hv
      · exact h.oneCell hc.1
      · exact ih hs hc.2 v hv
end lists
theorem Dr(ρ:AX){v:Value}{a:AV}(h:Dq v=some a):AE ρ a v:=by
 unfold Dq at h
 split at h<;>first
  | (injection h with h;subst h;first | exact .bool _ | exact .int _ _ | exact .str rfl | exact .ptrNil | exact .sliceNil | exact .mapNil | exact .nilFunc | exact .nilIface)
  | cases h
theorem B7(ρ:AX):∀ {l:List Value}{r:List AV},Bh l=some r→AD ρ r l
 | [],r,h=>by simp[Bh]at h;subst h;exact .nil
 | v::l,r,h=>by
  simp only[Bh,L7]at h
  obtain⟨a,ha,r',hr,h⟩:=h
  injection h with h;subst h
  exact .cons (Dr ρ ha) (B7 ρ hr)
theorem Ad(ρ:AX){v:Value}{a:AV}(h:ofValue v=some a):AE ρ a v:=by
 unfold ofValue at h
 split at h
 ·simp only[L7]at h
  obtain⟨l,hl,h⟩:=h
  injection h with h;subst h
  exact .agg (B7 ρ hl)
 ·simp only[L7]at h
  obtain⟨l,hl,h⟩:=h
  injection h with h;subst h
  exact .tuple (B7 ρ hl)
 ·exact Dr ρ h
theorem BG(ρ:AX):AE ρ Aw undef:=.tuple .nil
theorem AA{α:Type}{b:Bool}{x:Option α}{a:α}(h:AG b x=some a):b=true∧x=some a:=by
 cases b with
 | true=>exact⟨rfl,h⟩
 | false=>cases h
inductive BT (ρ:AX):List (AV×AV)→List MapEntry→Prop
 | nil:BT ρ [] []
 | cons {k v:AV} {e:MapEntry} {l:List (AV×AV)} {l':List MapEntry} (hk:AE ρ k e.key) (hv:AE ρ v e.val) (hs:BT ρ l l'):BT ρ ((k,v)::l) (e::l')
theorem BT.mono{ρ σ:AX}(le:ρ.le σ){l:List (AV×AV)}{l':List MapEntry}(h:BT ρ l l'):BT σ l l':=by
 induction h with
 | nil=>exact .nil
 | cons hk hv _ ih=>exact .cons (hk.mono le) (hv.mono le) ih
theorem BT.length{ρ:AX}{l:List (AV×AV)}{l':List MapEntry}(h:BT ρ l l'):l.length=l'.length:=by
 induction h with
 | nil=>rfl
 | cons _ _ _ ih=>simp[ih]
structure ER(P:Program)(ρ:AX)(w:World)(kt:TypeId)(es:List (AV×AV))(rb:RB):Prop where
 ex:∃ (es':Array MapEntry) (clock:Nat),w.heap[rb.b]? = some (.map es' clock)∧MapKept.Stamped es' clock∧(∃l,l.Perm es'.toList∧BT ρ es l)∧∀e∈es'.toList,∃l,keyOf P kt e.key=some l
structure Ap(ρ:AX)(w:World)(r:B3)(rb:RB):Prop where
 cells:∀k v,k<r.n→r.c.get k=some v→∃v',w.cell? ⟨rb.b,rb.off+k,none⟩=some v'∧AE ρ v v'
 le:r.n≤rb.N
 sz:r.sz=rb.sz
 tight:r.spare=false→rb.N=r.n
 own:r.mode≠.ro→∃cs,w.heap[rb.b]? = some (.cells cs r.elem (0,0))∧rb.off+rb.N≤cs.size
 base:r.bytes=true→rb.off=0
 gl:∀g,r.glob=some g→rb.b=g∧rb.off=0
 par:∀p,r.par=some p→∃rp,ρ p=some rp
def BS(ρ:AX)(vars:List Tmp)(var:List AV)(tmps:Array Value):Prop:=
 ∀ (t:Tmp) (k:Nat),AN vars t=some k→t<tmps.size∧∃v:AV,var[k]? = some v∧AE ρ v (tmps.getD t undef)
end
end Go.Proofs.YtniabnfoflogaaaGreatDoor.Am
set_option linter.unusedVariables false
set_option linter.unusedSimpArgs false
namespace Go.Proofs.YtniabnfoflogaaaGreatDoor.Am
open Go
noncomputable section
theorem CJ{α:Type}{P:Program}{w:World}:∀ {s:Sem α}{a:α},B8 P s=some a→s.run P w=.ok a w:=by
 intro s
 induction s with
 | pure b=>intro a h;simp[B8]at h;subst h;rfl
 | program k ih=>intro a h;simp only[B8]at h;simp only[Sem.run];exact ih P h
 | mark m k ih=>intro a h;simp only[B8]at h;simp only[Sem.run];exact ih h
 | load=>intro a h;simp[B8]at h
 | store=>intro a h;simp[B8]at h
 | new=>intro a h;simp[B8]at h
 | shape=>intro a h;simp[B8]at h
 | freeze=>intro a h;simp[B8]at h
 | frozen=>intro a h;simp[B8]at h
 | getObj=>intro a h;simp[B8]at h
 | setObj=>intro a h;simp[B8]at h
 | choose=>intro a h;simp[B8]at h
 | sys=>intro a h;simp[B8]at h
 | halt=>intro a h;simp[B8]at h
section types
variable{P:Program}{w:World}{t:TypeId}
theorem AB{d:TypeDesc}(h:P.underlying t=some d):(underlying t).run P w=.ok d w:=by simp[underlying,h]
theorem C1{g:Bool}(h:Jz P t=some g):(isAgg t).run P w=.ok g w:=by
 unfold Jz at h
 split at h
 ·injection h with h;subst h;simp[isAgg,underlying, *]
 ·injection h with h;subst h;simp[isAgg,underlying, *]
 ·rename_i d _ _ hd
  injection h with h;subst h
  simp only[isAgg,Sem.run_bind,AB hd,Result.andThen_ok]
  cases d<;>simp_all
 ·cases h
theorem AO{n:Nat}(h:Ag P t=some n):(sizeOf t).run P w=.ok n w:=by
 unfold Ag at h
 split at h
 ·injection h with h;subst h;simp[sizeOf,typeInfo, *]
 ·cases h
theorem Jl{n:Nat}(h:CP P t=some n):∃i,(typeInfo t).run P w=.ok i w∧i.bytes=n:=by
 unfold CP at h
 split at h
 ·injection h with h;rename_i i hi;exact⟨i,by simp[typeInfo,hi],h⟩
 ·cases h
theorem Dv(ρ:AX){z:AV}(h:B2 P t=some z):∃v,(zeroValue t).run P w=.ok v w∧AE ρ z v:=by
  unfold B2 at h
  split at h
  · split at h
    · rename_i i hi _ v hv
      exact⟨v,by simp[zeroValue,typeInfo,hi,hv],Ad ρ h⟩
    · cases h
  · cases h
end types
theorem Eu{k:IntKind}{n:Int}(h:BJ k n=true):k.wrap n=n:=by
 have hb:k.min≤n∧n≤k.max:=by
  unfold BJ at h
  cases n with
  | ofNat m=>cases k<;>simp[L8]at h<;>simp[IntKind.min,IntKind.max,IntKind.signed,IntKind.bits]<;>omega
  | negSucc m=>cases k<;>simp[L8]at h<;>simp[IntKind.min,IntKind.max,IntKind.signed,IntKind.bits]<;>omega
 cases k<;>simp[IntKind.min,IntKind.max,IntKind.signed,IntKind.bits]at hb<;>simp only[IntKind.wrap,IntKind.signed,IntKind.bits]<;>simp<;>omega
theorem Cv(k:IntKind)(n:Int):Fw k n=k.wrap n:=by
 unfold Fw
 cases h:BJ k n with
 | true=>simp[Eu h]
 | false=>rfl
theorem DN(a b:Int):Je a b=decide (a<b):=by
 cases a with
 | ofNat a=>cases b with
  | ofNat b=>rw[Bool.eq_iff_iff];simp only[Je,MD,decide_eq_true_iff,MX];omega
  | negSucc b=>simp only[Je];rw[eq_comm,decide_eq_false_iff_not];simp only[MX];omega
 | negSucc a=>cases b with
  | ofNat b=>simp only[Je];rw[eq_comm,decide_eq_true_iff];simp only[MX];omega
  | negSucc b=>rw[Bool.eq_iff_iff];simp only[Je,MD,decide_eq_true_iff];omega
theorem E9(a b:Int):Kr a b=(a == b):=by
 rw[Bool.eq_iff_iff,beq_iff_eq]
 cases a with
 | ofNat a=>cases b with
  | ofNat b=>simp only[Kr,Nat.beq_eq,MX];omega
  | negSucc b=>simp[Kr]
 | negSucc a=>cases b with
  | ofNat b=>simp[Kr]
  | negSucc b=>simp only[Kr,Nat.beq_eq];omega
theorem A4{k k':IntKind}(h:By k k'=true):k=k':=by cases k<;>cases k'<;>first | rfl | cases h
theorem KS{n:Int}{m:Nat}(h:KR n=some m):n=(m:Int):=by cases n<;>simp[KR]at h;subst h;rfl
theorem KJ{P:Program}{ρ:AX}{op:BinOp}{k:IntKind}{a b:Int}{v:AV}(h:KI P op k a b=some v)(t:TypeId)(w:World):
  ∃v',(Go.binOp op t (.int k a) (.int k b)).run P w=.ok v' w∧AE ρ v v':=by
 unfold KI at h
 split at h
 case h_1=>injection h with h;subst h;exact⟨.int k (k.wrap (a+b)),by simp[Go.binOp,Op.intArith],by rw[Cv];exact .int _ _⟩
 case h_2=>injection h with h;subst h;exact⟨.int k (k.wrap (a - b)),by simp[Go.binOp,Op.intArith],by rw[Cv];exact .int _ _⟩
 case h_3=>injection h with h;subst h;exact⟨.int k (k.wrap (a * b)),by simp[Go.binOp,Op.intArith],by rw[Cv];exact .int _ _⟩
 case h_4=>injection h with h;subst h;exact⟨.bool (a == b),by simp[Go.binOp,Op.intCmp],by rw[E9];exact .bool _⟩
 case h_5=>injection h with h;subst h;exact⟨.bool (a != b),by simp[Go.binOp,Op.intCmp],by rw[E9];exact .bool _⟩
 case h_6=>injection h with h;subst h;exact⟨.bool (a<b),by simp[Go.binOp,Op.intCmp],by rw[DN];exact .bool _⟩
 case h_7=>injection h with h;subst h;exact⟨.bool (a≤b),by simp[Go.binOp,Op.intCmp],by rw[DN,show(!decide (b<a))=decide (a≤b)from by rw[Bool.eq_iff_iff];simp];exact .bool _⟩
 case h_8=>injection h with h;subst h;exact⟨.bool (a > b),by simp[Go.binOp,Op.intCmp],by rw[DN];exact .bool _⟩
 case h_9=>injection h with h;subst h;exact⟨.bool (a≥b),by simp[Go.binOp,Op.intCmp],by rw[DN,show(!decide (a<b))=decide (a≥b)from by rw[Bool.eq_iff_iff];simp];exact .bool _⟩
 case h_10 =>
  simp only[L7]at h
  obtain⟨u,hu,h⟩:=h
  exact⟨u,by have:=CJ (w:=w) hu;simpa[Go.binOp]using this,Ad ρ h⟩
 case h_11 =>
  simp only[L7]at h
  obtain⟨u,hu,h⟩:=h
  exact⟨u,by have:=CJ (w:=w) hu;simpa[Go.binOp]using this,Ad ρ h⟩
 case h_12=>cases h
 case h_13=>cases h
 case h_14 =>
  simp only[L7]at h
  obtain⟨u,hu,h⟩:=h
  refine⟨u,?_,Ad ρ h⟩
  have:=CJ (w:=w) hu
  rename_i n1 n2 n3 n4 n5 n6 n7 n8 n9 n10 n11 n12 n13
  cases op<;>first | (exfalso;simp at *;done) | simpa[Go.binOp]using this
abbrev BK(l:List UInt8):List Nat:=l.map (fun(b:UInt8)=>b.toNat)
theorem toNat_inj{a b:UInt8}(h:a.toNat=b.toNat):a=b:=UInt8.toNat_inj.1 h
theorem DX:∀ (x y:List UInt8),A7 (BK x) (BK y)=(x == y)
 | [],[]=>rfl
 | [],_::_=>rfl
 | _::_,[]=>rfl
 | a::x,b::y=>by
  simp only[BK,MN,A7]
  by_cases e:a=b
  ·subst e
   have:Nat.beq a.toNat a.toNat=true:=by simp[Nat.beq_eq]
   rw[this]
   have ih:=DX x y
   simp only[BK]at ih
   simp[ih]
  ·have:Nat.beq a.toNat b.toNat=false:=AC.beq_no (fun h=>e (toNat_inj h))
   rw[this]
   simp[e]
theorem Ft:∀ (x y:List UInt8),Cu (BK x) (BK y)=Op.bytesLess x y
 | [],[]=>rfl
 | [],_::_=>rfl
 | _::_,[]=>rfl
 | a::x,b::y=>by
  simp only[BK,MN,Cu,Op.bytesLess]
  have ih:=Ft x y
  simp only[BK]at ih
  have h1:Nat.blt a.toNat b.toNat=decide (a<b):=by rw[Bool.eq_iff_iff];simp[MD,UInt8.lt_iff_toNat_lt]
  have h2:Nat.beq a.toNat b.toNat=(a == b):=by
   rw[Bool.eq_iff_iff,beq_iff_eq,Nat.beq_eq]
   exact⟨fun h=>toNat_inj h,fun h=>by rw[h]⟩
  rw[h1,h2,ih]
  cases decide (a<b)<;>cases (a == b)<;>rfl
theorem CL(s:ByteArray):(BK s.data.toList).length=s.size:=by simp[BK]
theorem Km{P:Program}{ρ:AX}{op:BinOp}{x y:ByteArray}{v:AV}(h:JE op (BK x.data.toList) (BK y.data.toList)=some v)(w:World):
  ∃v',(Op.stringOp op x y).run P w=.ok v' w∧AE ρ v v':=by
 unfold JE at h
 rw[DX,Ft,CL,CL]at h
 unfold Op.stringOp
 rw[ByteArray.toList_eq,ByteArray.toList_eq]
 split at h
 case h_1 =>
  obtain⟨hb,h⟩:=AA h
  injection h with h;subst h
  have hb':x.size+y.size≤1152921504606846976:=by simpa[L8]using hb
  refine⟨.string (x++y),?_,.str (by simp[BK])⟩
  have:¬ ((x.size+y.size:Nat):Int) > IntKind.i64.max:=by simp[IntKind.max,IntKind.signed,IntKind.bits];omega
  simp only[this,if_false]
  rfl
 case h_2=>injection h with h;subst h;exact⟨_,rfl,.bool _⟩
 case h_3=>injection h with h;subst h;exact⟨_,rfl,.bool _⟩
 case h_4=>injection h with h;subst h;exact⟨_,rfl,.bool _⟩
 case h_5=>injection h with h;subst h;exact⟨_,rfl,.bool _⟩
 case h_6=>injection h with h;subst h;exact⟨_,rfl,.bool _⟩
 case h_7=>injection h with h;subst h;exact⟨_,rfl,.bool _⟩
 case h_8=>cases h
section
variable{P:Program}{ρ:AX}{w:World}
theorem EY{t:TypeId}(h:Cm P t=true):∃e,P.underlying t=some (.pointer e):=by
 unfold Cm at h;split at h
 ·rename_i e he;exact⟨e,he⟩
 ·cases h
theorem C9{t:TypeId}(h:Dj P t=true):∃e,P.underlying t=some (.slice e):=by
 unfold Dj at h;split at h
 ·rename_i e he;exact⟨e,he⟩
 ·cases h
theorem EX{t:TypeId}(h:EB P t=true):∃k e,P.underlying t=some (.map k e):=by
 unfold EB at h;split at h
 ·rename_i k e he;exact⟨k,e,he⟩
 ·cases h
theorem CR{t:TypeId}(h:Di P t=true):∃a b c,P.underlying t=some (.func a b c):=by
 unfold Di at h;split at h
 ·rename_i a b c he;exact⟨a,b,c,he⟩
 ·cases h
theorem Gn{t:TypeId}(h:Gm P t=true):P.underlying t=some .bool:=by
 unfold Gm at h;split at h
 ·rename_i he;exact he
 ·cases h
set_option maxHeartbeats 1000000 in
theorem LV{t:TypeId}{x y:AV}{x' y':Value}{b:Bool}(h:K3 P t x y=some b)(hx:AE ρ x x')(hy:AE ρ y y')(d:Nat):
  (Op.equalIn (d+1) t x' y').run P w=.ok b w:=by
 unfold K3 at h
 split at h
 all_goals first | (cases h;done) | skip
 ·obtain⟨ht,h⟩:=AA h
  injection h with h;subst h
  cases hx;cases hy
  simp[Op.equalIn,AB (Gn ht)]
 ·obtain⟨ht,h⟩:=AA h
  injection h with h;subst h
  obtain⟨e,ht⟩:=EY ht
  cases hx;cases hy<;>simp[Op.equalIn,AB ht]
 ·obtain⟨ht,h⟩:=AA h
  injection h with h;subst h
  obtain⟨e,ht⟩:=EY ht
  cases hy;cases hx<;>simp[Op.equalIn,AB ht]
 ·obtain⟨ht,h⟩:=AA h
  injection h with h;subst h
  obtain⟨e,ht⟩:=C9 ht
  cases hx;cases hy<;>simp[Op.equalIn,AB ht]
 ·obtain⟨ht,h⟩:=AA h
  injection h with h;subst h
  obtain⟨e,ht⟩:=C9 ht
  cases hy;cases hx<;>simp[Op.equalIn,AB ht]
 ·obtain⟨ht,h⟩:=AA h
  injection h with h;subst h
  obtain⟨k,e,ht⟩:=EX ht
  cases hx;cases hy<;>simp[Op.equalIn,AB ht]
 ·obtain⟨ht,h⟩:=AA h
  injection h with h;subst h
  obtain⟨k,e,ht⟩:=EX ht
  cases hy;cases hx<;>simp[Op.equalIn,AB ht]
 ·obtain⟨ht,h⟩:=AA h
  injection h with h;subst h
  obtain⟨a,b,c,ht⟩:=CR ht
  cases hy;cases hx;simp[Op.equalIn,AB ht]
 ·obtain⟨ht,h⟩:=AA h
  injection h with h;subst h
  obtain⟨a,b,c,ht⟩:=CR ht
  cases hy;cases hx;simp[Op.equalIn,AB ht]
 ·obtain⟨ht,h⟩:=AA h
  injection h with h;subst h
  obtain⟨a,b,c,ht⟩:=CR ht
  cases hy;cases hx;simp[Op.equalIn,AB ht]
theorem KC{t:TypeId}{x y:AV}{x' y':Value}{b:Bool}(h:K3 P t x y=some b)(hx:AE ρ x x')(hy:AE ρ y y'):
  (Op.equal t x' y').run P w=.ok b w:=LV h hx hy 9999
def KY:Value→Bool
 | .nilIface | .agg _=>false
 | _=>true
theorem Bo{x':Value}(h:KY x'=true)(op:BinOp)(t:TypeId)(ox oy:Operand)(y':Value):
  (eqGuard op t ox oy x' y').run P w=.ok () w:=by
 cases x'<;>first | (cases h;done) | (cases op<;>rfl)
theorem GB{t:TypeId}{x y:AV}{x':Value}{b:Bool}(h:K3 P t x y=some b)(hx:AE ρ x x'):KY x'=true:=by
 unfold K3 at h
 split at h<;>first | (cases h;done) | (cases hx<;>rfl)
theorem In      {op : BinOp} {t : TypeId} {x y v : AV} {x' y' : Value} (h : Ky   P op t x y = some v) (hx : AE   ρ x x') (hy : AE   ρ y y') (ox oy : Operand) :
    ∃v',(do eqGuard op t ox oy x' y';Go.binOp op t x' y').run P w=.ok v' w∧AE ρ v v':=by
  unfold Ky at h
  split at h
  · cases hx;cases hy
    rename_i k a k' b
    rw[Sem.run_bind,Bo rfl]
    simp only[Result.andThen_ok]
    split at h
    · simp only[L7]at h
      obtain⟨u,hu,h⟩:=h
      exact⟨u,by have:=CJ (w:=w) hu;simpa[Go.binOp]using this,Ad ρ h⟩
    · simp only[L7]at h
      obtain⟨u,hu,h⟩:=h
      exact⟨u,by have:=CJ (w:=w) hu;simpa[Go.binOp]using this,Ad ρ h⟩
    · obtain⟨hk,h2⟩:=AA h
      have hkk:=A4 hk
      subst hkk
      exact KJ h2 t w
  · cases hx;cases hy
    rename_i a b s1 h1 s2 h2
    subst h1;subst h2
    rw[Sem.run_bind,Bo rfl]
    simp only[Result.andThen_ok]
    obtain⟨v',h1,h2⟩:=Km (P:=P) (ρ:=ρ) h w
    refine⟨v',?_,h2⟩
    rw[← h1]
    cases op<;>first | rfl | (simp[JE]at h;done)
  · split at h
    · simp only[L7]at h
      obtain⟨b,hb,h⟩:=h
      injection h with h;subst h
      rw[Sem.run_bind,Bo (GB hb hx)]
      simp only[Result.andThen_ok]
      refine⟨.bool b,?_,.bool b⟩
      have he:=KC (w:=w) hb hx hy
      have:Go.binOp .eql t x' y'=(do pure (.bool (← Op.equal t x' y')):Sem Value):=by
        unfold K3 at hb
        split at hb<;>first | (cases hb;done) | (cases hx<;>cases hy<;>rfl)
      rw[this,Sem.run_bind,he]
      rfl
    · simp only[L7]at h
      obtain⟨b,hb,h⟩:=h
      injection h with h;subst h
      rw[Sem.run_bind,Bo (GB hb hx)]
      simp only[Result.andThen_ok]
      refine⟨.bool (!b),?_,.bool _⟩
      have he:=KC (w:=w) hb hx hy
      have:Go.binOp .neq t x' y'=(do pure (.bool (!(← Op.equal t x' y'))):Sem Value):=by
        unfold K3 at hb
        split at hb<;>first | (cases hb;done) | (cases hx<;>cases hy<;>rfl)
      rw[this,Sem.run_bind,he]
      rfl
    · cases h
theorem Lb{op:UnOp}{x v:AV}{x':Value}(h:L0 P op x=some v)(hx:AE ρ x x'):
  ∃v',(Op.unary op x').run P w=.ok v' w∧AE ρ v v':=by
 unfold L0 at h
 split at h
 ·cases hx
  rename_i k n
  split at h
  ·injection h with h;subst h
   exact⟨.int k (k.wrap (0 - n)),rfl,by rw[Cv];exact .int _ _⟩
  ·simp only[L7]at h
   obtain⟨u,hu,h⟩:=h
   exact⟨u,CJ hu,Ad ρ h⟩
  ·cases h
 ·cases hx
  split at h
  ·injection h with h;subst h
   exact⟨_,rfl,.bool _⟩
  ·cases h
 ·cases h
theorem Gu{x v:AV}{x':Value}(h:EG x=some v)(hx:AE ρ x x')(ev:Operand→Value)(o:Oper)(y:Operand)(ho:o.op=.nilCheck y)(he:ev y=x'):
  ∃v',(execOp ev o).run P w=.ok (.value v') w∧AE ρ v v':=by
 unfold EG at h
 split at h<;>first | (cases h;done) | skip
 injection h with h;subst h
 refine⟨x',?_,hx⟩
 cases hx<;>first | (simp only[execOp,ho,he];done) | (simp only[execOp,ho,he];rfl) | (exfalso;simp_all;done)
theorem HN{x v:AV}{i:Nat}{x':Value}(h:Wg x i=some v)(hx:AE ρ x x'):
  ∃v',(Instr.extract x' i).run P w=.ok v' w∧AE ρ v v':=by
 unfold Wg at h
 split at h<;>first | (cases h;done) | skip
 cases hx with
 | tuple hs =>
  rename_i cs'
  obtain⟨v',h1,h2⟩:=hs.get h
  refine⟨v',?_,h2⟩
  have:cs'[i]? = some v':=by rw[← Array.getElem?_toList];exact h1
  simp[Instr.extract,this]
theorem Hh{t:TypeId}{cs:List AV}{cs':Array Value}{off:Nat}{v:AV}(h:JA P t cs off=some v)(hc:AD ρ cs cs'.toList):
  ∃v',(part t cs' off).run P w=.ok v' w∧AE ρ v v':=by
 unfold JA at h
 simp only[L7]at h
 obtain⟨g,hg,h⟩:=h
 cases g with
 | true =>
  simp only[L7]at h
  obtain⟨n,hn,h⟩:=h
  injection h with h;subst h
  refine⟨.agg (cs'.extract off (off+n)),by simp[part,C1 hg,AO hn],.agg ?_⟩
  have:(cs'.extract off (off+n)).toList=(cs'.toList.drop off).take n:=by
   rw[Array.toList_extract,List.extract_eq_take_drop]
   congr 1
   omega
  rw[this]
  exact(hc.drop off).take n
 | false =>
  obtain⟨v',h1,h2⟩:=hc.get h
  refine⟨v',?_,h2⟩
  have:cs'[off]? = some v':=by rw[← Array.getElem?_toList];exact h1
  simp[part,C1 hg,this]
theorem FH{x:AV}{x':Value}{k:Nat}(h:HS x=some k)(hx:AE ρ x x'):∃kd,x'=.int kd (k:Int):=by
 unfold HS at h
 split at h<;>first | (cases h;done) | skip
 cases hx
 rename_i kd n
 exact⟨kd,by rw[KS h]⟩
theorem JQ{t:TypeId}{x v:AV}{x':Value}{f:Nat}(h:IF P t x f=some v)(hx:AE ρ x x'):
  ∃v',(Instr.field t x' f).run P w=.ok v' w∧AE ρ v v':=by
 unfold IF at h
 split at h<;>first | (cases h;done) | skip
 split at h<;>first | (cases h;done) | skip
 rename_i fs hfs
 simp only[L7]at h
 obtain⟨fd,hfd,h⟩:=h
 cases hx with
 | agg hs =>
  obtain⟨v',h1,h2⟩:=Hh (w:=w) h hs
  exact⟨v',by simp[Instr.field,AB hfs,hfd,asAgg,h1],h2⟩
theorem JS        {t : TypeId} {x ix v : AV} {x' ix' : Value} (h : IH     P t x ix = some v) (hx : AE   ρ x x') (hi : AE   ρ ix ix') :
    ∃v',(Instr.index t x' ix').run P w=.ok v' w∧AE ρ v v':=by
  unfold IH at h
  simp only[L7]at h
  obtain⟨k,hk,h⟩:=h
  obtain⟨kd,rfl⟩:=FH hk hi
  split at h<;>first | (cases h;done) | skip
  · split at h<;>first | (cases h;done) | skip
    rename_i len e he
    simp only[L7]at h
    obtain⟨n,hn,h⟩:=h
    obtain⟨hlt,h⟩:=AA h
    have hlt':k<len:=by simpa[MD]using hlt
    cases hx with
    | agg hs =>
      obtain⟨v',h1,h2⟩:=Hh (w:=w) h hs
      refine⟨v',?_,h2⟩
      have:(0:Int)≤(k:Int)∧(k:Int)<(len:Int):=by omega
      simp only[Instr.index,asIntOf,Sem.run_bind,Sem.run_pure,Result.andThen_ok,AB he,this,and_self,if_true,AO hn]
      simpa using h1
  · split at h <;> first | (cases h; done) | skip
    rename_i l _ he
    simp only[L7]at h
    obtain⟨b,hb,h⟩:=h
    injection h with h;subst h
    cases hx with
    | str hs =>
      rename_i s
      subst hs
      rw[List.getElem?_map]at hb
      simp only[Option.map_eq_some_iff]at hb
      obtain⟨u,hu,rfl⟩:=hb
      refine⟨.int .u8 u.toNat,?_,.int _ _⟩
      have h0:(0:Int)≤(k:Int):=by omega
      have:s[k]? = some u:=by
        rw[← hu]
        rcases MC k s.size with hlt | hge
        · rw [getElem?_pos s k hlt, ME                       (by simpa using hlt)]
          rfl
        · rw[getElem?_neg s k (by omega),MQ (by simpa using hge)]
      simp[Instr.index,asIntOf,AB he,this]
end
structure Ch(P:Program)(ρ:AX)(w:World)(l:Ew)(rb:RB):Prop where
 ex:∃L:Loop,w.heap[rb.b]? = some (.loop L)∧L.state=l.state∧L.pending=l.pending∧L.params=l.params∧L.assign=l.assign∧L.body=l.body ∧
  (∃rd,ρ l.dfr=some rd∧L.defers=rd.b)∧BS ρ (Da P l.fn) l.var L.tmps∧(∀fn,P.funcs[l.fn]? = some fn→fn.ntmps≤L.tmps.size)∧l.var.length=(Da P l.fn).length
def Bk(P:Program)(ρ:AX)(w:World):AZ→RB→Prop
 | .row r,rb=>Ap ρ w r rb
 | .map kt es,rb=>ER P ρ w kt es rb
 | .mapRo kt es,rb=>ER P ρ w kt es rb
 | .loop l,rb=>Ch P ρ w l rb
 | .mark,rb=>w.heap[rb.b]? = some (.deferred (some []))
 | .iter _ _,_=>False
def wr:AZ→Bool
 | .row r=>CE r.mode
 | .mapRo _ _=>false
 | _=>true
def Ee:AZ→Option Nat
 | .row r=>r.par
 | _=>none
def Br:AZ→Option Nat
 | .row r=>r.glob
 | _=>none
structure AT(P:Program)(ρ:AX)(s:AM)(w:World):Prop where
 obj:∀i o rb,s.heap.get i=some o→ρ i=some rb→Bk P ρ w o rb
 lt:∀i rb,ρ i=some rb→rb.b<w.heap.size
 sep:∀i j oi oj ri rj,i≠j→s.heap.get i=some oi→s.heap.get j=some oj→ρ i=some ri→ρ j=some rj→ri.b=rj.b→wr oj=true→Ee oj=some i∧wr oi=false
 glb:∀i o g,s.heap.get i=some o→Br o=some g→∃rb,ρ i=some rb
def Cd(ρ:AX)(s:AM)(b:Nat):Prop:=∃i o rb,s.heap.get i=some o∧wr o=true∧ρ i=some rb∧rb.b=b
structure Fr(ρ:AX)(s:AM)(w:World)(ρ':AX)(s':AM)(w':World):Prop where
 le:ρ.le ρ'
 fresh:∀i,ρ i=none→(i<s.next∨s'.next≤i)→ρ' i=none
 next:s.next≤s'.next
 size:w.heap.size≤w'.heap.size
 os:w'.os=w.os
 tape:w'.tape=w.tape
 output:w'.output=w.output
 keep:∀b,b<w.heap.size→¬ Cd ρ s b→w'.heap[b]? = w.heap[b]?
 own:∀b,Cd ρ' s' b→Cd ρ s b∨w.heap.size≤b
 unborn:∀i,ρ i=none→(i<s.next∨s'.next≤i)→s'.heap.get i=s.heap.get i
section
variable{P:Program}{ρ ρ1 ρ2:AX}{s s1 s2:AM}{w w1 w2:World}
theorem Fr.refl(ρ:AX)(s:AM)(w:World):Fr ρ s w ρ s w:=
 ⟨AX.le_refl ρ,fun _ h _=>h,L9 _,L9 _,rfl,rfl,rfl,fun _ _ _=>rfl,fun _ h=>.inl h,fun _ _ _=>rfl⟩
theorem Fr.trans(h:Fr ρ s w ρ1 s1 w1)(k:Fr ρ1 s1 w1 ρ2 s2 w2):Fr ρ s w ρ2 s2 w2 where
 le:=AX.le_trans h.le k.le
 fresh:=fun i hi hr=>k.fresh i (h.fresh i hi (hr.imp id (fun h'=>MF k.next h'))) (hr.imp (fun h'=>MB h' h.next) id)
 next:=MF h.next k.next
 size:=MF h.size k.size
 os:=k.os.trans h.os
 tape:=k.tape.trans h.tape
 output:=k.output.trans h.output
 keep:=fun b hb ho=>(k.keep b (MB hb h.size) (fun ho1=>(h.own b ho1).elim ho (fun hge=>by omega))).trans (h.keep b hb ho)
 own:=fun b hb=>(k.own b hb).elim (fun h1=>h.own b h1) (fun hge=>.inr (MF h.size hge))
 unborn:=fun i hi hr=>(k.unborn i (h.fresh i hi (hr.imp id (fun h'=>MF k.next h'))) (hr.imp (fun h'=>MB h' h.next) id)).trans (h.unborn i hi (hr.imp id (fun h'=>MF k.next h')))
theorem Dd{a:Addr}(h:w1.heap[a.block]? = w.heap[a.block]?):w1.cell? a=w.cell? a:=by simp[World.cell?,h]
theorem BS.mono{σ:AX}(le:ρ.le σ){vars:List Tmp}{var:List AV}{tmps:Array Value}(h:BS ρ vars var tmps):BS σ vars var tmps:=
 fun t k hk=>let ⟨h1,v,h2,h3⟩:=h t k hk;⟨h1,v,h2,h3.mono le⟩
theorem Bk.mono    {o : AZ}   {rb : RB} (h : Bk    P ρ w o rb) (le : ρ.le ρ1) (hk : w1.heap[rb.b]? = w.heap[rb.b]?) : Bk    P ρ1 w1 o rb := by
  cases o with
  | row r =>
    exact⟨fun k v hk' hv=>by
        obtain⟨v',h1,h2⟩:=h.cells k v hk' hv
        exact⟨v',(Dd (a:=⟨rb.b,_,none⟩) hk).trans h1,h2.mono le⟩,
      h.le,h.sz,h.tight,fun hm=>by
        obtain⟨cs,h1,h2⟩:=h.own hm
        exact⟨cs,hk.trans h1,h2⟩,h.base,h.gl,fun p hp=>let ⟨rp,h1⟩:=h.par p hp;⟨rp,le _ _ h1⟩⟩
  | map kt es =>
    obtain⟨es',clock,h1,h2,⟨l,h3,h4⟩,h5⟩:=h.ex
    exact⟨es',clock,hk.trans h1,h2,⟨l,h3,h4.mono le⟩,h5⟩
  | mapRo kt es =>
    obtain⟨es',clock,h1,h2,⟨l,h3,h4⟩,h5⟩:=h.ex
    exact⟨es',clock,hk.trans h1,h2,⟨l,h3,h4.mono le⟩,h5⟩
  | loop l =>
    obtain⟨L,h0,h1,h2,h4,h5,h6,⟨rd,h7,h7'⟩,h8,h9⟩:=h.ex
    exact⟨L,hk.trans h0,h1,h2,h4,h5,h6,⟨rd,le _ _ h7,h7'⟩,h8.mono le,h9⟩
  | mark=>exact hk.trans h
  | iter=>exact h
def Ah(ρ:AX)(i:Nat)(rb:RB):AX:=fun j=>if j=i then some rb else ρ j
theorem AK(i:Nat)(rb:RB):Ah ρ i rb i=some rb:=by simp[Ah]
theorem AI{i j:Nat}(rb:RB)(h:j≠i):Ah ρ i rb j=ρ j:=by simp[Ah,h]
theorem Ab{i:Nat}{rb:RB}(h:ρ i=none):ρ.le (Ah ρ i rb):=fun j r hj=>by
 have:j≠i:=fun e=>by subst e;rw[h]at hj;cases hj
 rw[AI rb this];exact hj
theorem AS(s:AM)(o:AZ)(j:Nat):(newObj s o).heap.get j=if j=s.next then some o else s.heap.get j:=AC.get_set _ _ _ _
theorem A3(s:AM)(i:Nat)(o:AZ)(j:Nat):(setObj s i o).heap.get j=if j=i then some o else s.heap.get j:=AC.get_set _ _ _ _
theorem AY(s:AM)(i j:Nat):(A2 s i).heap.get j=if j=i then none else s.heap.get j:=AC.get_del _ _ _
theorem C8{o:Obj}{b:Nat}(h:b<w.heap.size):(w.alloc o).heap[b]? = w.heap[b]? :=
 Go.RowKit.Below.heap_alloc w o b h
theorem AT.new  (h : AT  P ρ s w) {o : AZ}   {o' : Obj} {rb : RB} (hf : ρ s.next = none) (hb : rb.b = w.heap.size)
    (ho:Bk P (Ah ρ s.next rb) (w.alloc o') o rb):
    AT P (Ah ρ s.next rb) (newObj s o) (w.alloc o')∧Fr ρ s w (Ah ρ s.next rb) (newObj s o) (w.alloc o'):=by
  have hle:=Ab (rb:=rb) hf
  have hglb:∀i oi g,(newObj s o).heap.get i=some oi→Br oi=some g→∃r,Ah ρ s.next rb i=some r:=by
    intro i oi g hi hg
    rw[AS]at hi
    by_cases e:i=s.next
    · subst e;exact⟨_,AK _ _⟩
    · rw[if_neg e]at hi
      obtain⟨r,hr⟩:=h.glb i oi g hi hg
      exact⟨r,hle _ _ hr⟩
  refine⟨⟨?_,?_,?_,hglb⟩,?_⟩
  · intro i oi ri hi hr
    rw[AS]at hi
    by_cases e:i=s.next
    · subst e
      rw[if_pos rfl]at hi
      injection hi with hi
      rw[AK]at hr
      injection hr with hr
      subst hi;subst hr
      exact ho
    · rw [if_neg e] at hi
      rw[AI rb e]at hr
      exact(h.obj i oi ri hi hr).mono hle (C8 (h.lt i ri hr))
  · intro i ri hr
    by_cases e:i=s.next
    · subst e
      rw[AK]at hr
      injection hr with hr
      subst hr
      simp[hb]
    · rw[AI rb e]at hr
      have:=h.lt i ri hr
      simp;omega
  · intro i j oi oj ri rj hne hi hj hri hrj hbb hw
    rw[AS]at hi hj
    by_cases ei:i=s.next
    · subst ei
      have ej:j≠s.next:=fun e=>hne e.symm
      rw[AK]at hri
      rw[AI rb ej]at hrj
      injection hri with hri
      subst hri
      have:=h.lt j rj hrj
      omega
    · by_cases ej : j = s.next
      · subst ej
        rw[AI rb ei]at hri
        rw[AK]at hrj
        injection hrj with hrj
        subst hrj
        have:=h.lt i ri hri
        omega
      · rw [if_neg ei] at hi
        rw[if_neg ej]at hj
        rw[AI rb ei]at hri
        rw[AI rb ej]at hrj
        exact h.sep i j oi oj ri rj hne hi hj hri hrj hbb hw
  · refine ⟨hle, ?_, by simp [newObj], by simp, rfl, rfl, rfl, fun b hb _ => C8            hb, ?_, ?_⟩
    · intro i hi hr
      have:i≠s.next:=by simp[newObj]at hr;omega
      rw[AI rb this];exact hi
    · rintro b ⟨i, oi, ri, hi, hw, hr, rfl⟩
      rw[AS]at hi
      by_cases e:i=s.next
      · subst e
        rw[AK]at hr
        injection hr with hr
        subst hr
        exact .inr (by omega)
      · rw [if_neg e] at hi
        rw[AI rb e]at hr
        exact .inl ⟨i,oi,ri,hi,hw,hr,rfl⟩
    · intro i _ hi
      rw[AS,if_neg (by simp[newObj]at hi;omega)]
theorem AT.set  (h : AT  P ρ s w) {i : Nat} {o o1 : AZ}   {rb : RB} (hg : s.heap.get i = some o) (hr : ρ i = some rb) (hw : wr o = true) (hp : ∀ p, Ee    o = some p → p ≠ i → s.heap.get p = none)
    (hp1:Ee o1=none) (hsz:w1.heap.size=w.heap.size) (hkeep:∀b,b≠rb.b→w1.heap[b]? = w.heap[b]?) (hos:w1.os=w.os) (htape:w1.tape=w.tape) (hout:w1.output=w.output)
    (ho:Bk P ρ w1 o1 rb):AT P ρ (setObj s i o1) w1∧Fr ρ s w ρ (setObj s i o1) w1:=by
  have hsep:∀j oj rj,j≠i→s.heap.get j=some oj→ρ j=some rj→rj.b≠rb.b:=by
    intro j oj rj hne hj hrj e
    have:=hp j (h.sep j i oj o rj rb hne hj hg hrj hr e hw).1 hne
    rw[hj]at this
    cases this
  have hglb:∀j oj g,(setObj s i o1).heap.get j=some oj→Br oj=some g→∃r,ρ j=some r:=by
    intro j oj g hj hg
    rw[A3]at hj
    by_cases e:j=i
    · subst e;exact⟨_,hr⟩
    · rw[if_neg e]at hj
      exact h.glb j oj g hj hg
  refine⟨⟨?_,?_,?_,hglb⟩,?_⟩
  · intro j oj rj hj hrj
    rw[A3]at hj
    by_cases e:j=i
    · subst e
      rw[if_pos rfl]at hj
      injection hj with hj
      subst hj
      rw[hr]at hrj
      injection hrj with hrj
      subst hrj
      exact ho
    · rw[if_neg e]at hj
      exact(h.obj j oj rj hj hrj).mono (AX.le_refl ρ) (hkeep _ (hsep j oj rj e hj hrj))
  · intro j rj hrj
    rw[hsz];exact h.lt j rj hrj
  · intro j k oj ok rj rk hne hj hk hrj hrk hbb hwk
    rw[A3]at hj hk
    by_cases ej:j=i
    · subst ej
      have ek:k≠j:=fun e=>hne e.symm
      rw[if_neg ek]at hk
      rw[hr]at hrj
      injection hrj with hrj
      subst hrj
      exact absurd hbb.symm (hsep k ok rk ek hk hrk)
    · by_cases ek : k = i
      · subst ek
        rw[if_neg ej]at hj
        rw[hr]at hrk
        injection hrk with hrk
        subst hrk
        exact absurd hbb (hsep j oj rj ej hj hrj)
      · rw [if_neg ej] at hj
        rw[if_neg ek]at hk
        exact h.sep j k oj ok rj rk hne hj hk hrj hrk hbb hwk
  · refine ⟨AX.le_refl  ρ, fun _ h _ => h, L9          _, by omega, hos, htape, hout, ?_, ?_, ?_⟩
    · intro b _ hno
      exact hkeep b (fun e=>hno ⟨i,o,rb,hg,hw,hr,e.symm⟩)
    · rintro b ⟨j, oj, rj, hj, hwj, hrj, rfl⟩
      rw[A3]at hj
      by_cases e:j=i
      · subst e
        rw[hr]at hrj
        injection hrj with hrj
        subst hrj
        exact .inl ⟨j,o,rb,hg,hw,hr,rfl⟩
      · rw[if_neg e]at hj
        exact .inl ⟨j,oj,rj,hj,hwj,hrj,rfl⟩
    · intro j hrj _
      rw[A3,if_neg]
      intro e
      subst e
      rw[hr]at hrj
      cases hrj
theorem AT.del  (h : AT  P ρ s w) {i : Nat} {rb : RB} (hr : ρ i = some rb) : AT  P ρ (A2     s i) w ∧ Fr ρ s w ρ (A2     s i) w := by
  have hglb:∀j oj g,(A2 s i).heap.get j=some oj→Br oj=some g→∃r,ρ j=some r:=by
    intro j oj g hj hg
    rw[AY]at hj
    by_cases e:j=i
    · rw[if_pos e]at hj;cases hj
    · rw[if_neg e]at hj
      exact h.glb j oj g hj hg
  refine⟨⟨?_,h.lt,?_,hglb⟩,⟨AX.le_refl ρ,fun _ h _=>h,L9 _,L9 _,rfl,rfl,rfl,fun _ _ _=>rfl,?_,?_⟩⟩
  · intro j oj rj hj hrj
    rw[AY]at hj
    by_cases e:j=i
    · rw[if_pos e]at hj;cases hj
    · rw[if_neg e]at hj
      exact h.obj j oj rj hj hrj
  · intro j k oj ok rj rk hne hj hk
    rw[AY]at hj hk
    by_cases ej:j=i
    · rw[if_pos ej]at hj;cases hj
    · by_cases ek : k = i
      · rw[if_pos ek]at hk;cases hk
      · rw [if_neg ej] at hj
        rw[if_neg ek]at hk
        exact h.sep j k oj ok rj rk hne hj hk
  · rintro b ⟨j, oj, rj, hj, hwj, hrj, rfl⟩
    rw[AY]at hj
    by_cases e:j=i
    · rw[if_pos e]at hj;cases hj
    · rw[if_neg e]at hj
      exact .inl ⟨j,oj,rj,hj,hwj,hrj,rfl⟩
  · intro j hrj _
    rw[AY,if_neg]
    intro e
    subst e
    rw[hr]at hrj
    cases hrj
theorem AU{i:Nat}{r:B3}(h:rowAt s i=some r):s.heap.get i=some (.row r):=by
 unfold rowAt at h
 split at h
 ·injection h with h;subst h;assumption
 ·cases h
theorem Ai(b o k:Nat):(⟨b,o,none⟩:Addr).add k=⟨b,o+k,none⟩:=by unfold Addr.add;split<;>simp_all
theorem A9(h:AT P ρ s w){i off n:Nat}{l:List AV}{rb:RB}(hr:ρ i=some rb)(hl:BF s i off n=some l):
  ∃l':List Value,AD ρ l l'∧l'.length=n∧∀w1:World,w1.heap=w.heap→(loadCells ⟨rb.b,rb.off+off,none⟩ n).run P w1=.ok l'.toArray w1:=by
 unfold BF at hl
 simp only[L7]at hl
 obtain⟨r,hrow,hl⟩:=hl
 obtain⟨hb,hl⟩:=AA hl
 have hb:off+n≤r.n:=by simpa[L8]using hb
 have hok:Ap ρ w r rb:=h.obj i _ rb (AU hrow) hr
 have hlen:=AC.take_length hl
 have hc:∀k,k<n→∃v v',l[k]? = some v∧w.cell? ⟨rb.b,rb.off+off+k,none⟩=some v'∧AE ρ v v':=by
  intro k hk
  have hv:l[k]? = some l[k]:=ME (by omega)
  have hg:=AC.take_get hl k hk
  rw[hv]at hg
  obtain⟨v',h1,h2⟩:=hok.cells (off+k) _ (by omega) hg
  exact⟨l[k],v',hv,by rw[show rb.off+off+k=rb.off+(off+k)from by omega];exact h1,h2⟩
 let f:Nat→Value:=fun k=>(w.cell? ⟨rb.b,rb.off+off+k,none⟩).getD undef
 have hf:∀k,k<n→w.cell? ⟨rb.b,rb.off+off+k,none⟩=some (f k):=by
  intro k hk
  obtain⟨v,v',_,h2,_⟩:=hc k hk
  simp[f,h2]
 refine⟨(List.range n).map f,?_,by simp,?_⟩
 ·refine AD.of_get (by simp[hlen]) ?_
  intro k v v' hv hv'
  have hk:k<n:=by
   rcases MC k n with h' | h'
   ·exact h'
   ·rw[MQ (by omega)]at hv;cases hv
  obtain⟨u,u',h1,h2,h3⟩:=hc k hk
  rw[h1]at hv
  injection hv with hv
  subst hv
  rw[List.getElem?_map,List.getElem?_range hk]at hv'
  simp only[MO]at hv'
  injection hv' with hv'
  rw[← hv']
  have:f k=u':=by simp[f,h2]
  rw[this];exact h3
 ·intro w1 he
  exact run_loadCells w1 _ n f (fun j hj=>by rw[Ai];exact(Dd (by rw[he])).trans (hf j hj))
theorem FO(h:AT P ρ s w){i off:Nat}{v:AV}{rb:RB}(hr:ρ i=some rb)(hl:Ea s i off=some v):
  ∃v',AE ρ v v'∧w.cell? ⟨rb.b,rb.off+off,none⟩=some v':=by
 unfold Ea at hl
 simp only[L7]at hl
 obtain⟨r,hrow,hl⟩:=hl
 obtain⟨hb,hl⟩:=AA hl
 have hb:off<r.n:=by simpa[MD]using hb
 have hok:Ap ρ w r rb:=h.obj i _ rb (AU hrow) hr
 obtain⟨v',h1,h2⟩:=hok.cells off v hb hl
 exact⟨v',h2,h1⟩
theorem FP       (h : AT  P ρ s w) {t : TypeId} {a v : AV} {a' : Value} (hl : Dm    P s t a = some v) (ha : AE   ρ a a') :
    ∃v',(Instr.loadAt t a').run P w=.ok v' w∧AE ρ v v'∧∃ad,a'=.pointer (some ad)∧(loadVar t ad).run P w=.ok v' w:=by
  unfold Dm at hl
  split at hl<;>first | (cases hl;done) | skip
  · rename_i i o
    cases ha
    simp only[L7]at hl
    obtain⟨r,hgr,g,hg,hl⟩:=hl
    have hrow:rowAt s i=some r∧r.glob=some i:=by
      unfold Gl at hgr
      simp only[L7]at hgr
      obtain⟨r',h1,h2⟩:=hgr
      split at h2<;>first | (cases h2;done) | skip
      rename_i g' hg'
      obtain⟨h3,h4⟩:=AA h2
      injection h4 with h4
      subst h4
      exact⟨h1,by rw[hg',MA h3]⟩
    obtain⟨rb,hr⟩:=h.glb i _ i (AU hrow.1) hrow.2
    have hok:Ap ρ w r rb:=h.obj i _ rb (AU hrow.1) hr
    obtain⟨hb,ho⟩:=hok.gl i hrow.2
    cases g with
    | true =>
      simp only[L7]at hl
      obtain⟨n,hn,l,hl,hv⟩:=hl
      injection hv with hv;subst hv
      obtain⟨l',h1,h2,h3⟩:=A9 h hr hl
      rw[hb,ho,MH]at h3
      have hrun:(loadVar t ⟨i,o,none⟩).run P w=.ok (.agg l'.toArray) w:=by
        simp[loadVar,C1 hg,AO hn,h3 w rfl]
      exact⟨.agg l'.toArray,by simp[Instr.loadAt,Instr.sureAddr,hrun],.agg (by simpa using h1),_,rfl,hrun⟩
    | false =>
      obtain⟨v',h1,h2⟩:=FO h hr hl
      rw[hb,ho,MH]at h2
      have hrun:(loadVar t ⟨i,o,none⟩).run P w=.ok v' w:=by
        simp[loadVar,C1 hg,h2]
      exact⟨v',by simp[Instr.loadAt,Instr.sureAddr,hrun],h1,_,rfl,hrun⟩
  rename_i i o
  cases ha with
  | ptr hr =>
    rename_i rb
    simp only[L7]at hl
    obtain⟨g,hg,hl⟩:=hl
    cases g with
    | true =>
      simp only[L7]at hl
      obtain⟨n,hn,l,hl,hv⟩:=hl
      injection hv with hv;subst hv
      obtain⟨l',h1,h2,h3⟩:=A9 h hr hl
      have hrun:(loadVar t ⟨rb.b,rb.off+o,none⟩).run P w=.ok (.agg l'.toArray) w:=by
        simp[loadVar,C1 hg,AO hn,h3 w rfl]
      exact⟨.agg l'.toArray,by simp[Instr.loadAt,Instr.sureAddr,hrun],.agg (by simpa using h1),_,rfl,hrun⟩
    | false =>
      obtain⟨v',h1,h2⟩:=FO h hr hl
      have hrun:(loadVar t ⟨rb.b,rb.off+o,none⟩).run P w=.ok v' w:=by
        simp[loadVar,C1 hg,h2]
      exact⟨v',by simp[Instr.loadAt,Instr.sureAddr,hrun],h1,_,rfl,hrun⟩
end
section
variable{P:Program}{ρ ρ1 ρ2:AX}{s s1 s2:AM}{w w1 w2:World}
theorem KO{e:TypeId}{sz:Nat}{l:List AV}{cs:Array Value}(hl:AD ρ l cs.toList)(b:Nat)(hb:w.heap[b]? = some (.cells cs e (0,0))):
  Bk P ρ w (Eb e sz l) ⟨b,0,l.length,sz⟩:=by
 have hlen:=hl.length
 refine⟨?_,L9 _,rfl,fun _=>rfl,fun _=>⟨cs,hb,by simp[hlen]⟩,fun _=>rfl,(fun g hg=>by cases hg),fun p hp=>by cases hp⟩
 intro k v hk hv
 simp only[AC.get_fill,MK,MH,true_and,Nat.sub_zero]at hv
 rw[if_pos hk]at hv
 obtain⟨v',h1,h2⟩:=hl.get hv
 refine⟨v',?_,h2⟩
 simp only[World.cell?,hb,MH]
 rw[← Array.getElem?_toList]
 simpa using h1
theorem Cz(h:AT P ρ s w)(hf:ρ s.next=none){e:TypeId}{sz:Nat}{l:List AV}{cs:Array Value}(hl:AD ρ l cs.toList):
  ∃ρ',ρ' s.next=some ⟨w.heap.size,0,l.length,sz⟩∧AT P ρ' (newObj s (Eb e sz l)) (w.alloc (.cells cs e))∧Fr ρ s w ρ' (newObj s (Eb e sz l)) (w.alloc (.cells cs e)):=by
 have hle:=Ab (rb:=⟨w.heap.size,0,l.length,sz⟩) hf
 obtain⟨h1,h2⟩:=h.new (o:=Eb e sz l) (o':=.cells cs e) (rb:=⟨w.heap.size,0,l.length,sz⟩) hf rfl
  (KO (hl.mono hle) _ (World.alloc_heap_new w _))
 exact⟨_,AK _ _,h1,h2⟩
theorem C4        (h : AT  P ρ s w) {i off : Nat} {vs : List AV} {vs' : List Value} {rb : RB} (hr : ρ i = some rb) (hs : Bz     s i off vs = some s1) (hv : AD    ρ vs vs') :
    ∃w1,(storeCells ⟨rb.b,rb.off+off,none⟩ vs').run P w=.ok () w1∧AT P ρ s1 w1∧Fr ρ s w ρ s1 w1:=by
  cases vs with
  | nil =>
    cases hv
    simp only[Bz]at hs
    injection hs with hs
    subst hs
    exact⟨w,rfl,h,Fr.refl _ _ _⟩
  | cons v0 vs0 =>
    have hsv:Bz s i off (v0::vs0)=(rowAt s i).bind fun r =>
      AG (CE r.mode && Nat.ble (off+(v0::vs0).length) r.n && Bn (v0::vs0))
        (some (setObj (Aj s i r) i (.row { r with c:=r.c.fill off (v0::vs0),par:=none }))):=rfl
    rw[hsv]at hs
    generalize v0::vs0=vs at hs hv
    simp only[L7]at hs
    obtain⟨r,hrow,hs⟩:=hs
    obtain⟨hb,hs⟩:=AA hs
    injection hs with hs
    subst hs
    simp only[Bool.and_eq_true,L8]at hb
    obtain⟨⟨hown,hle⟩,hall⟩:=hb
    have hg:=AU hrow
    have hok:Ap ρ w r rb:=h.obj i _ rb hg hr
    have hmode:r.mode≠.ro:=fun e=>by rw[e]at hown;cases hown
    obtain⟨cs,hblk,hsz⟩:=hok.own hmode
    obtain⟨e,he0⟩:∃e,r.elem=e:=⟨_,rfl⟩
    rw[he0]at hblk
    have hlen:=hv.length
    have hfit:rb.off+off+vs'.length≤cs.size:=by have:=hok.le;omega
    have hrun:=run_storeCells_at P rb.b (rb.off+off) e vs' 0 cs w hblk (by simpa using hfit) (hv.oneCell hall)
    refine⟨_,hrun,?_⟩
    simp only[Nat.add_zero]
    generalize hnew:(cs.toList.take (rb.off+off)++vs'++cs.toList.drop (rb.off+off+vs'.length)).toArray=cs1
    have hblk1:(w.setRow rb.b cs1).heap[rb.b]? = some (.cells cs1 e (0,0)):=setRow_heap w rb.b cs cs1 e (0,0) hblk
    have hsize1:cs1.size=cs.size:=by rw[← hnew];simp;omega
    have hget:∀k,cs1[k]? = if rb.off+off≤k∧k<rb.off+off+vs'.length then vs'[k - (rb.off+off)]? else cs[k]? := by
      intro k
      rw[← hnew,List.getElem?_toArray]
      by_cases h1:k<rb.off+off
      · rw[if_neg (by omega),MU,ML (by simp;omega),List.getElem?_take_of_lt h1,Array.getElem?_toList]
      · rw[MU,MP (by simp;omega)]
        have hmin:(cs.toList.take (rb.off+off)).length=rb.off+off:=by simp;omega
        rw[hmin]
        by_cases h2:k<rb.off+off+vs'.length
        · rw[if_pos (by omega),ML (by omega)]
        · rw[if_neg (by omega),MP (by omega),List.getElem?_drop,← Array.getElem?_toList]
          congr 1
          omega
    have key:∀sx:AM,AT P ρ sx w→Fr ρ s w ρ sx w→sx.heap.get i=some (.row r)→(∀p,r.par=some p→p≠i→sx.heap.get p=none) →
        AT P ρ (setObj sx i (.row { r with c:=r.c.fill off vs,par:=none })) (w.setRow rb.b cs1) ∧
        Fr ρ s w ρ (setObj sx i (.row { r with c:=r.c.fill off vs,par:=none })) (w.setRow rb.b cs1):=by
      intro sx hx hfx hgx hpx
      obtain⟨h1,h2⟩:=hx.set (o1:=.row { r with c:=r.c.fill off vs,par:=none }) (w1:=w.setRow rb.b cs1) hgx hr (by simpa[wr]using hown) hpx rfl (by simp)
        (fun b hb=>setRow_other w rb.b b cs1 hb) rfl rfl rfl (by
          refine⟨?_,hok.le,hok.sz,hok.tight,fun _=>⟨cs1,by show _=some (Obj.cells cs1 r.elem (0,0));rw[he0];exact hblk1,by rw[hsize1];exact hsz⟩,hok.base,hok.gl,fun p hp=>by cases hp⟩
          intro k v hk hkv
          simp only[AC.get_fill]at hkv
          have hcell:(w.setRow rb.b cs1).cell? ⟨rb.b,rb.off+k,none⟩=cs1[rb.off+k]? := by simp[World.cell?,hblk1]
          rw[hcell,hget]
          by_cases hin:off≤k∧k<off+vs.length
          · rw [if_pos hin] at hkv
            rw[if_pos (by omega),show rb.off+k - (rb.off+off)=k - off from by omega]
            exact hv.get hkv
          · rw [if_neg hin] at hkv
            rw[if_neg (by omega)]
            obtain⟨v',h1,h2⟩:=hok.cells k v hk hkv
            refine⟨v',?_,h2⟩
            simpa[World.cell?,hblk]using h1)
      exact⟨h1,hfx.trans h2⟩
    unfold Aj
    split
    · rename_i hp
      exact key s h (Fr.refl _ _ _) hg (fun p hp' _=>by rw[hp]at hp';cases hp')
    · rename_i p hp
      by_cases hpi:p=i
      · have:Nat.beq p i=true:=by rw[hpi];simp[Nat.beq_eq]
        rw[this]
        exact key s h (Fr.refl _ _ _) hg (fun q hq hqi=>by rw[hp]at hq;injection hq with hq;exact absurd (hq.symm.trans hpi) hqi)
      · rw[AC.beq_no hpi]
        obtain⟨rp,hrp⟩:=hok.par p hp
        obtain⟨hd,hfd⟩:=h.del hrp
        exact key (A2 s p) hd hfd (by rw[AY,if_neg (fun e=>hpi e.symm)];exact hg) (fun q hq _=>by
          rw[hp]at hq
          injection hq with hq
          subst hq
          rw[AY,if_pos rfl])
theorem AL{a b:Nat}(h:Nat.beq a b=true):a=b:=MA h
theorem Jo(h:AT P ρ s w){t:TypeId}{a v:AV}{a' v':Value}(hs:Ic P s t a v=some s1)(ha:AE ρ a a')(hv:AE ρ v v'):
  ∃w1,(Instr.storeAt t a' v').run P w=.ok () w1∧AT P ρ s1 w1∧Fr ρ s w ρ s1 w1:=by
 unfold Ic at hs
 split at hs<;>first | (cases hs;done) | skip
 rename_i i o
 cases ha with
 | ptr hr =>
  rename_i rb
  simp only[L7]at hs
  obtain⟨n,hn,hs⟩:=hs
  obtain⟨hb,hs⟩:=AA hs
  have hb:=AL hb
  obtain⟨w1,h1,h2⟩:=C4 h hr hs hv.cells
  refine⟨w1,?_,h2⟩
  have hc:v'.cells.size=n:=by have:=hv.cells.length;simp at this;omega
  simp[Instr.storeAt,Instr.sureAddr,storeVar,AO hn,hc,h1]
def F5(P:Program)(ρ:AX)(s:AM)(w:World)(sem:Sem Value)(o:AZ)(m:Made):Prop:=
 ∃v' w' ρ',sem.run P w=.ok v' w'∧AE ρ' (m.val s.next) v'∧AT P ρ' (newObj s o) w'∧Fr ρ s w ρ' (newObj s o) w'
theorem JJ(h:AT P ρ s w)(hf:ρ s.next=none){e:TypeId}{o:AZ}{m:Made}(hs:GZ P e=some (o,m)):
  F5 P ρ s w (Instr.alloc e true (.tuple #[])) o m:=by
 unfold GZ at hs
 simp only[L7]at hs
 obtain⟨z,hz,hs⟩:=hs
 injection hs with hs
 injection hs with h1 h2
 subst h1;subst h2
 obtain⟨z',hz',hzr⟩:=Dv (w:=w) ρ hz
 obtain⟨ρ',h1,h2,h3⟩:=Cz h hf (e:=e) (sz:=0) hzr.cells
 exact⟨.pointer (some ⟨w.heap.size,0,none⟩),_,ρ',by simp[Instr.alloc,hz',newVar,newRow],AE.ptr h1,h2,h3⟩
theorem K0(h:AT P ρ s w)(hf:ρ s.next=none){e:TypeId}{v:AV}{v':Value}{o:AZ}{m:Made}(hs:LR e v=some (o,m))(hv:AE ρ v v'):
  F5 P ρ s w (Instr.box e v') o m:=by
 unfold LR at hs
 injection hs with hs
 injection hs with h1 h2
 subst h1;subst h2
 obtain⟨ρ',h1,h2,h3⟩:=Cz h hf (e:=e) (sz:=0) hv.cells
 exact⟨.pointer (some ⟨w.heap.size,0,none⟩),_,ρ',by simp[Instr.box,newVar,newRow],AE.ptr h1,h2,h3⟩
theorem IP(h:AT P ρ s w)(hf:ρ s.next=none)(t kt:TypeId):F5 P ρ s w (Instr.makeMap t none) (.map kt []) .map:=by
 have hle:=Ab (rb:=⟨w.heap.size,0,0,0⟩) hf
 obtain⟨h1,h2⟩:=h.new (o:=.map kt []) (o':=.map #[] 0) (rb:=⟨w.heap.size,0,0,0⟩) hf rfl ⟨#[],0,World.alloc_heap_new w _,MapKept.stamped_empty 0,⟨[],.refl _,.nil⟩,by simp⟩
 exact⟨.map (some w.heap.size),_,_,by simp[Instr.makeMap,newObj],AE.map (AK _ _),h1,h2⟩
theorem FC       {place : Nat → Option (Nat × Nat)} {place' : Nat → Option (Nat × Nat)} (hp : ∀ i p, place i = some p → place' i = some p) :
    ∀ {parts:List (Nat×AV)} {parts':List (Nat×Value)} {cs l:List AV} {cs':Array Value},FB place cs parts=some l→AD ρ cs cs'.toList →
      (parts.map (·.1)=parts'.map (·.1))→AD ρ (parts.map (·.2)) (parts'.map (·.2))→∃l',Instr.fill place' cs' parts'=some l'∧AD ρ l l'.toList:=by
  intro parts
  induction parts with
  | nil =>
    intro parts' cs l cs' h hc hm hv
    cases parts' with
    | nil=>simp[FB]at h;subst h;exact⟨cs',rfl,hc⟩
    | cons=>simp at hm
  | cons p rest ih =>
    intro parts' cs l cs' h hc hm hv
    cases parts' with
    | nil=>simp at hm
    | cons p' rest' =>
      obtain⟨i,v⟩:=p
      obtain⟨i',v'⟩:=p'
      simp only[MN,List.cons.injEq]at hm
      obtain⟨hi,hm⟩:=hm
      skip
      subst hi
      simp only[MN]at hv
      cases hv with
      | cons hv hvs =>
        simp only[FB,L7]at h
        obtain⟨q,hq,h⟩:=h
        obtain⟨hb,h⟩:=AA h
        simp only[Bool.and_eq_true,L8]at hb
        obtain⟨hb1,hb2⟩:=hb
        have hb1:=AL hb1
        have hvc:=hv.cells
        have hvl:=hvc.length
        have hcl:=hc.length
        simp only[Array.length_toList]at hvl hcl
        have hnew:AD ρ (cs.take q.1++(v.cells++cs.drop (q.1+v.cells.length)))
            (v'.cells.zipIdx.foldl (fun cs (c,j)=>cs.setIfInBounds (q.1+j) c) cs').toList:=by
          have e:(v'.cells.zipIdx.foldl (fun cs (c,j)=>cs.setIfInBounds (q.1+j) c) cs').toList=cs'.toList.take q.1++(v'.cells.toList++cs'.toList.drop (q.1+v.cells.length)):=by
            have key:∀ (l:List Value) (k:Nat) (a:Array Value),q.1+k+l.length≤a.size →
                ((l.zipIdx k).foldl (fun cs (x:Value×Nat)=>cs.setIfInBounds (q.1+x.2) x.1) a).toList=a.toList.take (q.1+k)++(l++a.toList.drop (q.1+k+l.length)):=by
              intro l
              induction l with
              | nil=>intro k a _;simp
              | cons x l ihl =>
                intro k a hk
                simp only[List.length_cons]at hk
                rw[List.zipIdx_cons,List.foldl_cons,ihl (k+1) _ (by simp;omega)]
                simp only[Array.toList_setIfInBounds,List.length_cons]
                have e:=list_seg_step a.toList (q.1+k) x l (by simp;omega)
                simpa[MI,MU]using e
            have:=key v'.cells.toList 0 cs' (by simp;omega)
            simp only[Nat.add_zero]at this
            rw[← Array.foldl_toList,Array.toList_zipIdx]
            rw[hvl]
            simpa using this
          rw[e]
          exact(hc.take _).append (hvc.append (hc.drop _))
        obtain⟨l',h1,h2⟩:=ih h hnew hm hvs
        refine⟨l',?_,h2⟩
        have hpq:=hp i q hq
        obtain⟨o,n⟩:=q
        simp only[Instr.fill,hpq]
        have c1:¬ (v'.cells.size≠n∨o+v'.cells.size > cs'.size):=by simp only at hb1 hb2;omega
        have:(decide (v'.cells.size≠n) || decide (o+v'.cells.size > cs'.size))=false:=by
          rw[Bool.eq_false_iff];intro hh;apply c1;simpa using hh
        simp only[this]
        exact h1
theorem C7:∀ {fs:List Field}{l:List (Nat×Nat)},Bq P fs=some l →
  ∀w:World,((fs.mapM fun f=>do pure (f.offset,← sizeOf f.type):Sem (List (Nat×Nat)))).run P w=.ok l w
 | [],l,h,w=>by simp[Bq]at h;subst h;rfl
 | f::fs,l,h,w=>by
  simp only[Bq,L7]at h
  obtain⟨n,hn,r,hr,h⟩:=h
  injection h with h
  subst h
  have ih:=C7 hr w
  simp only[List.mapM_cons,Sem.run_bind,AO hn,Sem.run_pure,Result.andThen_ok,ih]
theorem JK{t:TypeId}{parts:List (Nat×AV)}{parts':Array (Nat×Value)}{v:AV}(h:H7 P t parts=some v)
  (hm:parts.map (·.1)=parts'.toList.map (·.1)) (hv:AD ρ (parts.map (·.2)) (parts'.toList.map (·.2))) (w:World):
  ∃v',(Instr.build t parts').run P w=.ok v' w∧AE ρ v v':=by
 unfold H7 at h
 simp only[L7]at h
 obtain⟨z,hz,h⟩:=h
 obtain⟨z',hz',hzr⟩:=Dv (w:=w) ρ hz
 split at h<;>first | (cases h;done) | skip
 ·rename_i fields hf
  simp only[L7]at h
  obtain⟨places,hpl,l,hl,h⟩:=h
  injection h with h
  subst h
  have hpl':=C7 hpl w
  obtain⟨l',h1,h2⟩:=FC (place':=fun i=>(places.toArray)[i]?) (fun i p hp=>by simpa using hp) hl hzr.cells hm hv
  refine⟨.agg l',?_,.agg h2⟩
  have hma:(fields.mapM fun f=>do pure (f.offset,← sizeOf f.type):Sem (Array (Nat×Nat))).run P w=.ok places.toArray w:=by
   rw[Array.mapM_eq_mapM_toList,Sem.run_map,hpl']
   rfl
  simp only[Instr.build,Sem.run_bind,hz',Result.andThen_ok,AB hf,hma,h1,Sem.run_pure]
 ·rename_i len e hf
  simp only[L7]at h
  obtain⟨n,hn,l,hl,h⟩:=h
  injection h with h
  subst h
  obtain⟨l',h1,h2⟩:=FC (place':=fun i=>some (i * n,n)) (fun i p hp=>hp) hl hzr.cells hm hv
  refine⟨.agg l',?_,.agg h2⟩
  simp only[Instr.build,Sem.run_bind,hz',Result.andThen_ok,AB hf,AO hn,h1,Sem.run_pure]
theorem Gy      {z : AV} {z' : Value} {n c : Nat} (hz : AE   ρ z z') (hl : z.cells.length = n) :
    AD ρ (Jt z.cells c) (((Array.range (c * n)).map (z'.cells[· % z'.cells.size]!)).toList):=by
  have hc:=hz.cells
  have hlen:z'.cells.size=n:=by have:=hc.length;simp at this;omega
  have hrl:∀c,(Jt z.cells c).length=c * n:=by
    intro c
    induction c with
    | zero=>simp[Jt]
    | succ c ih=>simp[Jt,ih,hl,Nat.succ_mul];omega
  have hrg:∀ (c k:Nat),k<c * n→(Jt z.cells c)[k]? = z.cells[k % n]? := by
    intro c
    induction c with
    | zero=>intro k hk;omega
    | succ c ih =>
      intro k hk
      simp only[Jt]
      by_cases h1:k<n
      · rw[ML (by omega),Nat.mod_eq_of_lt h1]
      · rw [MP                         (by omega), hl, ih (k - n) (by rw [Nat.succ_mul] at hk; omega)]
        rw[← Nat.mod_eq_sub_mod (by omega)]
  refine AD.of_get (by simp[hrl]) ?_
  intro k v v' hv hv'
  have hk:k<c * n:=by
    rcases MC k (c * n)with h | h
    · exact h
    · rw[MQ (by rw[hrl];omega)]at hv;cases hv
  have hn:0<n:=by
    rcases MY n with h | h
    · subst h;simp at hk
    · exact h
  rw[hrg c k hk]at hv
  obtain⟨u,h1,h2⟩:=hc.get hv
  have:v'=u:=by
    rw[Array.getElem?_toList,Array.getElem?_map,Array.getElem?_range]at hv'
    rw[if_pos hk]at hv'
    simp only[MO]at hv'
    injection hv' with hv'
    rw[← hv',hlen]
    rw[Array.getElem?_toList]at h1
    rw[getElem!_def,h1]
  rw[this]
  exact h2
theorem G6(h:AT P ρ s w)(hf:ρ s.next=none){t:TypeId}{len:Nat}{parts:List (Nat×AV)}{parts':Array (Nat×Value)}{o:AZ}(hs:C3 P t len parts=some o)
  (hm:parts.map (·.1)=parts'.toList.map (·.1)) (hv:AD ρ (parts.map (·.2)) (parts'.toList.map (·.2))):
  F5 P ρ s w (Instr.buildSlice t len parts') o (.slice len):=by
 unfold C3 at hs
 split at hs<;>first | (cases hs;done) | skip
 rename_i e he
 simp only[L7]at hs
 obtain⟨n,hn,hs⟩:=hs
 obtain⟨hb,hs⟩:=AA hs
 have hb:len * n≤16777216:=by simpa[L8]using hb
 simp only[L7]at hs
 obtain⟨z,hz,hs⟩:=hs
 obtain⟨hc,hs⟩:=AA hs
 simp only[L7]at hs
 obtain⟨l,hl,hs⟩:=hs
 injection hs with hs
 subst hs
 obtain⟨z',hz',hzr⟩:=Dv (w:=w) ρ hz
 have hz2:=Gy (c:=len) hzr (AL hc)
 obtain⟨l',h1,h2⟩:=FC (place':=fun i=>some (i * n,n)) (fun i p hp=>hp) hl hz2 hm hv
 obtain⟨ρ',g1,g2,g3⟩:=Cz h hf (e:=e) (sz:=n) h2
 refine⟨.slice (some ⟨w.heap.size,0,none⟩) len len,_,ρ',?_,AE.slice g1 (L9 _),g2,g3⟩
 have hbig:¬ len * n > 2 ^ 24:=by omega
 by_cases h0:len * n=0
 ·have hr0:Array.range 0=#[]:=by simp
  rw[h0,hr0]at h1
  simp only[Array.map_empty]at h1
  simp[Instr.buildSlice,AB he,AO hn,h0,hr0,h1,newRow]
 ·simp[Instr.buildSlice,AB he,AO hn,hbig,h0,hz',h1,newRow]
theorem F1(h:AT P ρ s w)(hf:ρ s.next=none){t:TypeId}{l c:AV}{l' c':Value}{o:AZ}{m:Made}(hs:CV P t l c=some (o,m))
  (hl:AE ρ l l') (hc:AE ρ c c'):F5 P ρ s w (Instr.makeSlice t l' c') o m:=by
 unfold CV at hs
 split at hs<;>first | (cases hs;done) | skip
 rename_i e l0 c0 he
 cases hl;cases hc
 simp only[L7]at hs
 obtain⟨by_,hby,n,hn,hs⟩:=hs
 obtain⟨hb,hs⟩:=AA hs
 simp only[Bool.and_eq_true,L8]at hb
 obtain⟨⟨hlc,hb1⟩,hb2⟩:=hb
 have hlc:=AL hlc
 subst hlc
 simp only[L7]at hs
 obtain⟨z,hz,hs⟩:=hs
 obtain⟨hc,hs⟩:=AA hs
 injection hs with hs
 injection hs with hs1 hs2
 subst hs1;subst hs2
 obtain⟨z',hz',hzr⟩:=Dv (w:=w) ρ hz
 have hz2:=Gy (c:=l0) hzr (AL hc)
 obtain⟨i,hi,hi2⟩:=Jl (w:=w) hby
 obtain⟨ρ',g1,g2,g3⟩:=Cz h hf (e:=e) (sz:=n) hz2
 refine⟨.slice (some ⟨w.heap.size,0,none⟩) l0 l0,_,ρ',?_,AE.slice g1 (L9 _),g2,g3⟩
 have hw:IntKind.i64.wrap (l0:Int)=(l0:Int):=Eu (k:=.i64) (n:=Int.ofNat l0) (by simp[BJ,L8];omega)
 have hmul:((by_:Int) * (l0:Int))≤1099511627776:=by
  have:((by_ * l0:Nat):Int)≤1099511627776:=by omega
  simpa using this
 have h1:¬ ((l0:Int)<0):=by omega
 have h2:¬ ((i.bytes:Int) * (l0:Int) > 2 ^ 48):=by rw[hi2];omega
 have h3:¬ ((281474976710656:Int)<(i.bytes:Int) * (l0:Int)):=by omega
 by_cases h0:l0 * n=0
 ·have hr0:Array.range 0=#[]:=by simp
  simp[Instr.makeSlice,AB he,asInt,asIntOf,hi,hw,h1,h3,AO hn,h0,newRow,hr0]
 ·simp[Instr.makeSlice,AB he,asInt,asIntOf,hi,hw,h1,h3,AO hn,h0,hz',newRow]
end
end
end Go.Proofs.YtniabnfoflogaaaGreatDoor.Am
