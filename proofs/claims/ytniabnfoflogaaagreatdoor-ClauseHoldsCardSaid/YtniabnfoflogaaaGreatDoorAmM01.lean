/- Binary tries over Nat keys, made for evaluation by the kernel: get, set, and their laws; conditions: none. -/
import GoSem.Dispatch
import GoSem.ClaimKeys
import Derived.DeepKeys2
import Derived.CallsIn
import Derived.Laws.Sem
import Derived.MapKept
import Derived.Laws.Entries
import Derived.Laws.Slices
import Derived.Laws.Strings
import Derived.Lib.Hide
import Derived.Laws.CopyRow
import Derived.Laws.Cells
import Derived.RangeFuncRecord
import Derived.Below
namespace Go.Proofs.YtniabnfoflogaaaGreatDoor.Am
noncomputable section
abbrev Pk := @Option.bind_eq_some_iff
abbrev Pl := @Nat.le_refl
abbrev Pm := @Nat.lt_or_ge
abbrev Pn := @Nat.ble_eq
abbrev Po := @List.getElem?_eq_getElem
abbrev Pp := @Nat.lt_of_lt_of_le
abbrev Pq := @Nat.eq_of_beq_eq_true
abbrev Pr := @List.getElem?_eq_none
abbrev Ps := @Nat.zero_le
abbrev Pt := @Nat.blt_eq
abbrev Pu := @Nat.le_trans
abbrev Pv := @Nat.zero_add
abbrev Pw := @Nat.add_mul
abbrev Px := @List.mem_cons_self
abbrev Py := @List.getElem?_append_left
abbrev Pz := @List.getElem?_append_right
abbrev P0 := @Nat.add_assoc
abbrev P1 := @List.mem_of_getElem?
abbrev P2 := @List.length_cons
abbrev P3 := @List.getElem?_map
abbrev P4 := @Nat.mul_one
abbrev P5 := @Option.map_some
abbrev P6 := @Nat.mul_le_mul_right
abbrev P7 := @List.mem_cons_of_mem
abbrev P8 := @Nat.lt_succ_self
abbrev P9 := @Nat.beq_eq
abbrev QA := @List.map_cons
abbrev QB := @Nat.add_zero
abbrev QC := @List.length_map
abbrev QD := @Nat.le_succ
abbrev QE := @List.length_take
abbrev QF := @Nat.eq_zero_or_pos
abbrev QG := @Nat.lt_succ_of_lt
abbrev QH := @Nat.lt_trichotomy
abbrev QI := @List.nil_append
abbrev QJ := @List.cons_append
abbrev QK := @List.append_assoc
abbrev QL := @List.mapM_cons
abbrev QM := @List.length_nil
abbrev QN := @Int.ofNat_eq_natCast
abbrev QO := @List.getElem?_range
abbrev QP := @List.getElem?_take_of_lt
abbrev QQ := @List.length_append
abbrev QR := @List.getElem?_take
abbrev QS := @List.set_cons_zero
abbrev QT := @List.set_cons_succ
inductive AG (α:Type) where
 | leaf
 | node (v:Option α) (l r:AG α)
namespace AG
variable{α:Type}
def get:AG α→Nat→Option α
 | .leaf,_=>none
 | .node v l r,k=>match k with
  | 0=>v
  | k+1=>bif Nat.beq (k % 2) 0 then l.get (k / 2)else r.get (k / 2)
def val:AG α→Option α
 | .leaf=>none
 | .node v _ _=>v
def left:AG α→AG α
 | .leaf=>.leaf
 | .node _ l _=>l
def right:AG α→AG α
 | .leaf=>.leaf
 | .node _ _ r=>r
def Ny(v:Option α)(l r:AG α):AG α:=
 match l with
 | .leaf=>.node v .leaf r
 | .node x a b=>.node v (.node x a b) r
def Nz(v:Option α)(l r:AG α):AG α:=
 match r with
 | .leaf=>.node v l .leaf
 | .node x a b=>.node v l (.node x a b)
def setF(v:Option α):Nat→AG α→Nat→AG α
 | 0,t,_=>t
 | f+1,t,k=>match k with
  | 0=>.node v t.left t.right
  | k+1=>bif Nat.beq (k % 2) 0 then Ny t.val (setF v f t.left (k / 2)) t.right
   else Nz t.val t.left (setF v f t.right (k / 2))
def put(t:AG α)(k:Nat)(v:Option α):AG α:=setF v (k+1) t k
def set(t:AG α)(k:Nat)(v:α):AG α:=t.put k (some v)
def del(t:AG α)(k:Nat):AG α:=t.put k none
theorem beq_no{a b:Nat}(h:¬ a=b):Nat.beq a b=false:=by
 cases e:Nat.beq a b with
 | false=>rfl
 | true=>exact absurd (Pq e) h
theorem nodeL_eq(v:Option α)(l r:AG α):Ny v l r=.node v l r:=by cases l<;>rfl
theorem nodeR_eq(v:Option α)(l r:AG α):Nz v l r=.node v l r:=by cases r<;>rfl
theorem GO(t:AG α):t.get 0=t.val:=by cases t<;>rfl
theorem Bk(t:AG α)(k:Nat):t.get (k+1)=if k % 2=0 then t.left.get (k / 2)else t.right.get (k / 2):=by
 cases t with
 | leaf=>simp[get,left,right]
 | node v l r =>
  by_cases h:k % 2=0
  ·simp[get,left,h]
  ·have:Nat.beq (k % 2) 0=false:=beq_no h
   simp[get,right,h,this]
def mapO{β:Type}(f:α→Option β):AG α→AG β
 | .leaf=>.leaf
 | .node v l r=>.node (v.bind f) (mapO f l) (mapO f r)
theorem get_mapO{β:Type}(f:α→Option β):∀ (t:AG α)(k:Nat),(t.mapO f).get k=(t.get k).bind f
 | .leaf,_=>rfl
 | .node v l r,0=>rfl
 | .node v l r,k+1=>by
  show(bif Nat.beq (k % 2) 0 then (mapO f l).get (k / 2)else (mapO f r).get (k / 2))=(bif Nat.beq (k % 2) 0 then l.get (k / 2)else r.get (k / 2)).bind f
  cases Nat.beq (k % 2) 0 with
  | true=>exact get_mapO f l (k / 2)
  | false=>exact get_mapO f r (k / 2)
theorem Lz       (v : Option α) : ∀ (f : Nat) (t : AG   α) (k j : Nat), k < f → (setF v f t k).get j = if j = k then v else t.get j := by
  intro f
  induction f with
  | zero=>intro t k j h;omega
  | succ f ih =>
    intro t k j h
    cases k with
    | zero =>
      cases j with
      | zero=>simp[setF,GO,val]
      | succ j=>simp[setF,Bk,left,right]
    | succ k =>
      by_cases hk:k % 2=0
      · have hb:Nat.beq (k % 2) 0=true:=by rw[hk];rfl
        simp only[setF,hb,cond_true,nodeL_eq]
        cases j with
        | zero=>simp[GO,val]
        | succ j =>
          by_cases hj:j % 2=0
          · rw[Bk,Bk,if_pos hj,if_pos hj]
            simp only[left]
            rw[ih _ _ _ (by omega)]
            by_cases e:j=k
            · subst e;simp
            · rw[if_neg (by omega),if_neg (by omega)]
          · rw[Bk,Bk,if_neg hj,if_neg hj,if_neg (by omega)]
            simp only[right]
      · have hb:Nat.beq (k % 2) 0=false:=beq_no hk
        simp only[setF,hb,cond_false,nodeR_eq]
        cases j with
        | zero=>simp[GO,val]
        | succ j =>
          by_cases hj:j % 2=0
          · rw[Bk,Bk,if_pos hj,if_pos hj,if_neg (by omega)]
            simp only[left]
          · rw[Bk,Bk,if_neg hj,if_neg hj]
            simp only[right]
            rw[ih _ _ _ (by omega)]
            by_cases e:j=k
            · subst e;simp
            · rw[if_neg (by omega),if_neg (by omega)]
theorem Kf(t:AG α)(k j:Nat)(v:Option α):(t.put k v).get j=if j=k then v else t.get j:=Lz v _ t k j (by omega)
theorem get_set(t:AG α)(k j:Nat)(v:α):(t.set k v).get j=if j=k then some v else t.get j:=Kf t k j _
theorem get_del(t:AG α)(k j:Nat):(t.del k).get j=if j=k then none else t.get j:=Kf t k j _
def fill(t:AG α)(k:Nat):List α→AG α
 | []=>t
 | v::l=>fill (t.set k v) (k+1) l
theorem get_fill(l:List α):∀ (t:AG α)(k j:Nat),(t.fill k l).get j=if k≤j∧j<k+l.length then l[j - k]? else t.get j:=by
  induction l with
  | nil=>intro t k j;simp[fill];omega
  | cons v l ih =>
    intro t k j
    simp only[fill,ih,get_set,P2]
    by_cases h1:k+1≤j∧j<k+1+l.length
    · rw [if_pos h1, if_pos (by omega), show j - k = (j - (k + 1)) + 1 from by omega]
      rfl
    · rw[if_neg h1]
      by_cases h2:j=k
      · subst h2;simp
      · rw[if_neg h2,if_neg (by omega)]
def take(t:AG α)(k:Nat):Nat→Option (List α)
 | 0=>some []
 | n+1=>match t.get k with
  | none=>none
  | some v=>match take t (k+1) n with
   | none=>none
   | some l=>some (v::l)
theorem take_length{t:AG α}{k n:Nat}{l:List α}(h:t.take k n=some l):l.length=n:=by
  induction n generalizing k l with
  | zero=>simp[take]at h;subst h;rfl
  | succ n ih =>
    simp only[take]at h
    split at h
    · cases h
    · split at h
      · cases h
      · rename_i h2;injection h with h;subst h;simp[ih h2]
theorem take_get {t : AG   α} {k n : Nat} {l : List α} (h : t.take k n = some l) (j : Nat) (hj : j < n) : t.get (k + j) = l[j]? := by
  induction n generalizing k l j with
  | zero=>omega
  | succ n ih =>
    simp only[take]at h
    split at h
    · cases h
    · rename_i v hv
      split at h
      · cases h
      · rename_i l' h2
        injection h with h
        subst h
        cases j with
        | zero=>simpa using hv
        | succ j=>rw[show k+(j+1)=k+1+j from by omega,ih h2 j (by omega)];rfl
end AG
end
end Go.Proofs.YtniabnfoflogaaaGreatDoor.Am
namespace Go.Proofs.YtniabnfoflogaaaGreatDoor.Am
open Go
noncomputable section
inductive AV where
 | bool (b:Bool)
 | int (k:IntKind) (n:Int)
 | str (s:List Nat)
 | ptr (a:Option (Nat×Nat))
 | gptr (g o:Nat)
 | slice (a:Option (Nat×Nat)) (len:Nat) (cap:Option Nat)
 | map (r:Option Nat)
 | func (f:FuncId) (first cap:List AV)
 | yield (l:Nat)
 | nilFunc
 | iface (t:TypeId) (v:AV)
 | nilIface
 | agg (cs:List AV)
 | tuple (vs:List AV)
 | junk
def As:AV:=.tuple []
def AV.cells:AV→List AV
 | .agg cs=>cs
 | v=>[v]
def AV.isCell:AV→Bool
 | .agg _ | .tuple _ | .junk=>false
 | _=>true
def Aj:List AV→Bool
 | []=>true
 | v::l=>v.isCell && Aj l
inductive NM where
 | ro | own | sealed
structure Bw where
 elem:TypeId
 sz:Nat
 n:Nat
 c:AG AV
 spare:Bool
 mode:NM
 par:Option Nat
 bytes:Bool
 glob:Option Nat:=none
inductive CX where
 | loc (i:Nat)
 | var (j:Nat)
 | const (v:AV)
inductive Made where
 | ptr | slice (n:Nat) | map
structure F6 where
 state:LoopState
 pending:Option Code
 fn:FuncId
 var:List AV
 params:Array Tmp
 assign:Code
 body:Code
 dfr:Nat
inductive Ad where
 | row (r:Bw)
 | map (kt:TypeId) (es:List (AV×AV))
 | mapRo (kt:TypeId) (es:List (AV×AV))
 | loop (l:F6)
 | mark
 | iter (s:List Nat) (pos:Nat)
structure AC where
 next:Nat
 heap:AG Ad
def Eh:Value→Option AV
 | .bool b=>some (.bool b)
 | .int k n=>some (.int k n)
 | .string s=>some (.str (s.data.toList.map (fun(b:UInt8)=>b.toNat)))
 | .pointer none=>some (.ptr none)
 | .slice none 0 0=>some (.slice none 0 (some 0))
 | .map none=>some (.map none)
 | .nilFunc=>some .nilFunc
 | .nilIface=>some .nilIface
 | _=>none
def CJ:List Value→Option (List AV)
 | []=>some []
 | v::l=>(Eh v).bind fun a=>(CJ l).bind fun r=>some (a::r)
def ofValue:Value→Option AV
 | .agg cs=>(CJ cs.toList).bind fun l=>some (.agg l)
 | .tuple vs=>(CJ vs.toList).bind fun l=>some (.tuple l)
 | v=>Eh v
def AE{α:Type}(b:Bool)(x:Option α):Option α:=bif b then x else none
def Ch{α:Type}(P:Program):Sem α→Option α
 | .pure a=>some a
 | .program k=>Ch P (k P)
 | .mark _ k=>Ch P k
 | _=>none
def BG(k:IntKind):Int→Bool
 | .ofNat m=>match k with
  | .i64=>Nat.ble m 9223372036854775807
  | .u64=>Nat.ble m 18446744073709551615
  | .i32=>Nat.ble m 2147483647
  | .u32=>Nat.ble m 4294967295
  | .u8=>Nat.ble m 255
  | .i8=>Nat.ble m 127
  | .u16=>Nat.ble m 65535
  | .i16=>Nat.ble m 32767
 | .negSucc m=>match k with
  | .i64=>Nat.ble m 9223372036854775807
  | .i32=>Nat.ble m 2147483647
  | .i8=>Nat.ble m 127
  | .i16=>Nat.ble m 32767
  | _=>false
def Ct(k:IntKind)(n:Int):Int:=bif BG k n then n else k.wrap n
def Ib:Int→Int→Bool
 | .ofNat a,.ofNat b=>Nat.blt a b
 | .ofNat _,.negSucc _=>false
 | .negSucc _,.ofNat _=>true
 | .negSucc a,.negSucc b=>Nat.blt b a
def LW:Int→Int→Bool
 | .ofNat a,.ofNat b=>Nat.beq a b
 | .negSucc a,.negSucc b=>Nat.beq a b
 | _,_=>false
def JE:Int→Option Nat
 | .ofNat m=>some m
 | .negSucc _=>none
def BU:List Nat→List Nat→Bool
 | [],[]=>true
 | a::x,b::y=>bif Nat.beq a b then BU x y else false
 | _,_=>false
def DX:List Nat→List Nat→Bool
 | _,[]=>false
 | [],_::_=>true
 | a::x,b::y=>bif Nat.blt a b then true else bif Nat.beq a b then DX x y else false
def Kq(op:BinOp)(x y:List Nat):Option AV:=
 match op with
 | .add=>AE (Nat.ble (x.length+y.length) 1152921504606846976) (some (.str (x++y)))
 | .eql=>some (.bool (BU x y))
 | .neq=>some (.bool (!BU x y))
 | .lss=>some (.bool (DX x y))
 | .leq=>some (.bool (DX x y || BU x y))
 | .gtr=>some (.bool (!(DX x y || BU x y)))
 | .geq=>some (.bool (!DX x y))
 | _=>none
def ES(P:Program)(t:TypeId):Option Bool:=
 match P.underlying t with
 | some (.struct _) | some (.array _ _)=>some true
 | some _=>some false
 | none=>none
def Ah(P:Program)(t:TypeId):Option Nat:=match P.info? t with
 | some i=>some i.size
 | none=>none
def B9(P:Program)(t:TypeId):Option AV:=match P.info? t with
 | some i=>match i.zero with
  | some v=>ofValue v
  | none=>none
 | none=>none
def Bj(P:Program)(t:TypeId):Option Nat:=match P.info? t with
 | some i=>some i.bytes
 | none=>none
def rowAt(s:AC)(i:Nat):Option Bw:=match s.heap.get i with
 | some (.row r)=>some r
 | _=>none
def newObj(s:AC)(o:Ad):AC:={ next:=s.next+1,heap:=s.heap.set s.next o }
def Dw(elem:TypeId)(sz:Nat)(cells:List AV):Ad:=
 .row { elem,sz,n:=cells.length,c:=AG.fill .leaf 0 cells,spare:=false,mode:=.own,par:=none,bytes:=true }
def setObj(s:AC)(i:Nat)(o:Ad):AC:={ s with heap:=s.heap.set i o }
def BL(s:AC)(i:Nat):AC:={ s with heap:=s.heap.del i }
def BJ(s:AC)(i off n:Nat):Option (List AV):=
 (rowAt s i).bind fun r=>AE (Nat.ble (off+n) r.n) (r.c.take off n)
def BV(s:AC)(i off:Nat):Option AV:=
 (rowAt s i).bind fun r=>AE (Nat.blt off r.n) (r.c.get off)
def Al(s:AC)(i:Nat)(r:Bw):AC:=match r.par with
 | none=>s
 | some p=>bif Nat.beq p i then s else BL s p
def B5:NM→Bool
 | .own=>true
 | _=>false
def Bd(s:AC)(i off:Nat)(vs:List AV):Option AC:=
 match vs with
 | []=>some s
 | _::_=>(rowAt s i).bind fun r =>
  AE (B5 r.mode && Nat.ble (off+vs.length) r.n && Aj vs)
   (some (setObj (Al s i r) i (.row { r with c:=r.c.fill off vs,par:=none })))
def IA(s:AC)(g:Nat):Option Bw:=(rowAt s g).bind fun r=>match r.glob with
 | some g'=>AE (Nat.beq g' g) (some r)
 | none=>none
def AZ(P:Program)(s:AC)(t:TypeId):AV→Option AV
 | .gptr i o=>(IA s i).bind fun _=>(ES P t).bind fun g=>match g with
  | true=>(Ah P t).bind fun n=>(BJ s i o n).bind fun l=>some (.agg l)
  | false=>BV s i o
 | .ptr (some (i,o))=>(ES P t).bind fun g=>match g with
  | true=>(Ah P t).bind fun n=>(BJ s i o n).bind fun l=>some (.agg l)
  | false=>BV s i o
 | _=>none
def FP(P:Program)(s:AC)(t:TypeId)(a v:AV):Option AC:=
 match a with
 | .ptr (some (i,o))=>(Ah P t).bind fun n=>AE (Nat.beq v.cells.length n) (Bd s i o v.cells)
 | _=>none
def DN(P:Program)(t:TypeId):Bool:=match P.underlying t with
 | some (.pointer _)=>true
 | _=>false
def Eb(P:Program)(t:TypeId):Bool:=match P.underlying t with
 | some (.slice _)=>true
 | _=>false
def FB(P:Program)(t:TypeId):Bool:=match P.underlying t with
 | some (.map ..)=>true
 | _=>false
def Ea(P:Program)(t:TypeId):Bool:=match P.underlying t with
 | some (.func ..)=>true
 | _=>false
def IB(P:Program)(t:TypeId):Bool:=match P.underlying t with
 | some .bool=>true
 | _=>false
def M0(P:Program)(t:TypeId):AV→AV→Option Bool
 | .bool a,.bool b=>AE (IB P t) (some (a == b))
 | .ptr none,.ptr b=>AE (DN P t) (some b.isNone)
 | .ptr a,.ptr none=>AE (DN P t) (some a.isNone)
 | .slice none _ _,.slice b _ _=>AE (Eb P t) (some b.isNone)
 | .slice a _ _,.slice none _ _=>AE (Eb P t) (some a.isNone)
 | .map none,.map b=>AE (FB P t) (some b.isNone)
 | .map a,.map none=>AE (FB P t) (some a.isNone)
 | .nilFunc,.nilFunc=>AE (Ea P t) (some true)
 | .func ..,.nilFunc=>AE (Ea P t) (some false)
 | .nilFunc,.func ..=>AE (Ea P t) (some false)
 | _,_=>none
def Ca:IntKind→IntKind→Bool
 | .i8,.i8 | .i16,.i16 | .i32,.i32 | .i64,.i64 | .u8,.u8 | .u16,.u16 | .u32,.u32 | .u64,.u64=>true
 | _,_=>false
def L8(P:Program)(op:BinOp)(k:IntKind)(a b:Int):Option AV:=
 match op with
 | .add=>some (.int k (Ct k (a+b)))
 | .sub=>some (.int k (Ct k (a - b)))
 | .mul=>some (.int k (Ct k (a * b)))
 | .eql=>some (.bool (LW a b))
 | .neq=>some (.bool (!LW a b))
 | .lss=>some (.bool (Ib a b))
 | .leq=>some (.bool (!Ib b a))
 | .gtr=>some (.bool (Ib b a))
 | .geq=>some (.bool (!Ib a b))
 | .quo | .rem=>(Ch P (Op.intDiv op k a b)).bind ofValue
 | .shl | .shr=>none
 | _=>(Ch P (Op.intBits op k a b)).bind ofValue
def Aw(P:Program)(op:BinOp)(t:TypeId)(x y:AV):Option AV:=
 match x,y with
 | .int k a,.int k' b=>match op with
  | .shl | .shr=>(Ch P (Op.shift op k a k' b)).bind ofValue
  | _=>AE (Ca k k') (L8 P op k a b)
 | .str a,.str b=>Kq op a b
 | x,y=>match op with
  | .eql=>(M0 P t x y).bind fun b=>some (.bool b)
  | .neq=>(M0 P t x y).bind fun b=>some (.bool (!b))
  | _=>none
def MB(P:Program)(t:TypeId):Bool:=match P.underlying t with
 | some (.pointer e)=>(match P.info? e with | some j=>!Nat.beq j.size 0 | none=>false)
 | _=>false
def EG(s:AC)(i:Nat):Bool:=match rowAt s i with
 | some r=>B5 r.mode && r.par.isNone
 | none=>false
def FH(P:Program)(s:AC)(neg:Bool)(t:TypeId)(x y:AV):Option AV:=
 match x,y with
 | .ptr (some (i,o)),.ptr (some (j,q))=>AE (MB P t && EG s i && EG s j) (some (.bool ((Nat.beq i j && Nat.beq o q) != neg)))
 | x,y=>Aw P (bif neg then .neq else .eql) t x y
def Ks(P:Program)(op:UnOp):AV→Option AV
 | .int k n=>match op with
  | .neg=>some (.int k (Ct k (0 - n)))
  | .xor=>(Ch P (Op.unary .xor (.int k n))).bind ofValue
  | _=>none
 | .bool b=>match op with
  | .not=>some (.bool (!b))
  | _=>none
 | _=>none
def GL(place:Nat→Option (Nat×Nat))(cells:List AV):List (Nat×AV)→Option (List AV)
 | []=>some cells
 | (i,v)::rest=>(place i).bind fun p =>
  AE (Nat.beq v.cells.length p.2 && Nat.ble (p.1+v.cells.length) cells.length)
   (GL place (cells.take p.1++(v.cells++cells.drop (p.1+v.cells.length))) rest)
def CS(P:Program):List Field→Option (List (Nat×Nat))
 | []=>some []
 | f::l=>(Ah P f.type).bind fun n=>(CS P l).bind fun r=>some ((f.offset,n)::r)
def Jh(P:Program)(t:TypeId)(parts:List (Nat×AV)):Option AV:=
 (B9 P t).bind fun z=>match P.underlying t with
  | some (.struct fields)=>(CS P fields.toList).bind fun places =>
   (GL (fun i=>places[i]?) z.cells parts).bind fun l=>some (.agg l)
  | some (.array _ e)=>(Ah P e).bind fun n =>
   (GL (fun i=>some (i * n,n)) z.cells parts).bind fun l=>some (.agg l)
  | _=>none
def LZ(l:List AV):Nat→List AV
 | 0=>[]
 | n+1=>l++LZ l n
def BS(P:Program)(t:TypeId)(len:Nat)(parts:List (Nat×AV)):Option Ad:=
 match P.underlying t with
 | some (.slice e)=>(Ah P e).bind fun n=>AE (Nat.ble (len * n) 16777216) <|
  (B9 P e).bind fun z=>AE (Nat.beq z.cells.length n) <|
   (GL (fun i=>some (i * n,n)) (LZ z.cells len) parts).bind fun l=>some (Dw e n l)
 | _=>none
def BF(P:Program)(s:AC)(src dst:TypeId)(x:AV):Option AV:=
 match P.underlying src,P.underlying dst,x with
 | some _,some (.int k),.int _ n=>some (.int k (Ct k n))
 | some _,some .string,.str l=>some (.str l)
 | some (.slice e),some .string,.slice a len _=>match P.underlying e with
  | some (.int .u8)=>match a with
   | none=>some (.str [])
   | some (i,o)=>(BJ s i o len).bind fun l=>(bytesOf l).bind fun b=>some (.str b)
  | _=>none
 | some (.pointer u),some .unsafePointer,x=>seenPtr u x
 | some .unsafePointer,some (.pointer u),x=>seenPtr u x
 | _,_,_=>none
where
 seenPtr (u:TypeId):AV→Option AV
  | .ptr none=>some (.ptr none)
  | .ptr (some (i,o))=>(rowAt s i).bind fun r=>(Ah P u).bind fun n =>
   AE (B5 r.mode && r.bytes && Nat.beq o 0 && Nat.beq r.elem u && Nat.ble n r.n && !Nat.beq n 0) (some (.ptr (some (i,o))))
  | _=>none
 bytesOf:List AV→Option (List Nat)
  | []=>some []
  | .int .u8 (.ofNat n)::l=>AE (Nat.blt n 256) ((bytesOf l).bind fun r=>some (n::r))
  | _::_=>none
def FZ:AV→Option Nat
 | .int _ n=>JE n
 | _=>none
def Ax(x:AV)(y:Nat):Option Nat:=(FZ x).bind fun i=>AE (Nat.ble i y) (some i)
def Au(P:Program)(s:AC)(t:TypeId)(x:AV)(lo hi mx:Option AV):Option AV:=
 match x with
 | .str l=>(match mx with | some _=>none | none=>some ()).bind fun _ =>
  (match hi with | some h=>Ax h l.length | none=>some l.length).bind fun h =>
  (match lo with | some v=>Ax v h | none=>some 0).bind fun o =>
  (match P.underlying t with | some .string=>some () | _=>none).bind fun _=>some (.str ((l.drop o).take (h - o)))
 | .slice a len cap=>match P.underlying t with
  | some (.slice e)=>(Ah P e).bind fun n =>
   (match cap with
    | some c=>some c
    | none=>match a with
     | none=>none
     | some (i,o)=>(rowAt s i).bind fun r=>AE (Nat.ble o r.n && Nat.beq n r.sz && !Nat.beq n 0) (some ((r.n - o) / n))).bind fun far =>
   (match mx with | some m=>(Ax m far).bind fun c=>AE (cap.isSome || Nat.blt 0 far) (some (some c)) | none=>some cap).bind fun m =>
   (match hi,m with
    | some h,some c=>Ax h c
    | some h,none=>Ax h far
    | none,some c=>(match mx with | none=>some len | some _=>(fun(_:Nat)=>none) c)
    | none,none=>some len).bind fun h =>
   (match lo with | some v=>Ax v h | none=>some 0).bind fun l =>
   some (.slice
    (match a with
     | none=>none
     | some (i,o)=>match m with
      | some c=>bif Nat.beq c l then some (i,o)else some (i,o+l * n)
      | none=>some (i,o+l * n))
    (h - l) (match m with | some c=>some (c - l) | none=>none))
  | _=>none
 | .ptr (some (i,o))=>match P.underlying t with
  | some (.array len e)=>arr len e i o
  | some (.pointer u)=>match P.underlying u with
   | some (.array len e)=>arr len e i o
   | _=>none
  | _=>none
 | _=>none
where
 arr (len:Nat) (e:TypeId) (i o:Nat):Option AV:=(Ah P e).bind fun n =>
  (match mx with | some m=>Ax m len | none=>some len).bind fun m =>
  (match hi with | some h=>Ax h m | none=>match mx with | none=>some len | some _=>none).bind fun h =>
  (match lo with | some v=>Ax v h | none=>some 0).bind fun l =>
  some (.slice (some (i,bif Nat.beq m l then o else o+l * n)) (h - l) (some (m - l)))
def D7(P:Program)(t:TypeId)(x:AV)(f:Nat):Option AV:=
 match x with
 | .ptr (some (i,o))=>match P.underlying t with
  | some (.struct fs)=>(fs[f]?).bind fun fd=>(Ah P fd.type).bind fun n =>
   AE (!Nat.beq n 0) (some (.ptr (some (i,o+fd.offset))))
  | _=>none
 | _=>none
def Km(P:Program)(t:TypeId)(cs:List AV)(off:Nat):Option AV:=
 (ES P t).bind fun g=>match g with
  | true=>(Ah P t).bind fun n=>some (.agg ((cs.drop off).take n))
  | false=>cs[off]?
def Jq(P:Program)(t:TypeId)(x:AV)(f:Nat):Option AV:=
 match x with
 | .agg cs=>match P.underlying t with
  | some (.struct fs)=>(fs[f]?).bind fun fd=>Km P fd.type cs fd.offset
  | _=>none
 | _=>none
def AS(P:Program)(t:TypeId)(x ix:AV):Option AV:=
 (FZ ix).bind fun k=>match x with
  | .ptr (some (i,o))=>match P.underlying t with
   | some (.array len e)=>(Ah P e).bind fun n=>AE (Nat.blt k len) (some (.ptr (some (i,o+k * n))))
   | _=>none
  | .gptr g o=>match P.underlying t with
   | some (.array len e)=>(Ah P e).bind fun n=>AE (Nat.blt k len) (some (.gptr g (o+k * n)))
   | _=>none
  | .slice (some (i,o)) len _=>match P.underlying t with
   | some (.slice e)=>(Ah P e).bind fun n=>AE (Nat.blt k len) (some (.ptr (some (i,o+k * n))))
   | _=>none
  | _=>none
def Jt(P:Program)(t:TypeId)(x ix:AV):Option AV:=
 (FZ ix).bind fun k=>match x with
  | .agg cs=>match P.underlying t with
   | some (.array len e)=>(Ah P e).bind fun n=>AE (Nat.blt k len) (Km P e cs (k * n))
   | _=>none
  | .str l=>match P.underlying t with
   | some .string=>(l[k]?).bind fun b=>some (.int .u8 (.ofNat b))
   | _=>none
  | _=>none
def Df:AV→Option AV
 | .ptr none | .nilIface | .nilFunc | .junk=>none
 | v=>some v
def Xy(x:AV)(i:Nat):Option AV:=
 match x with
 | .tuple vs=>vs[i]?
 | _=>none
def Rt(c a b:AV):Option AV:=
 match c with
 | .bool true=>some a
 | .bool false=>some b
 | _=>none
def CV(mx:Bool):AV→List AV→Option AV
 | v,[]=>some v
 | .int k a,.int k' b::l=>AE (Ca k k') (CV mx (.int k (bif (bif mx then Ib a b else Ib b a)then b else a)) l)
 | _,_=>none
def Fe:AV→AV→Option Bool
 | .int k a,.int k' b=>AE (Ca k k') (some (LW a b))
 | .str a,.str b=>some (BU a b)
 | .agg a,.agg b=>keysEq a b
 | _,_=>none
where
 keysEq:List AV→List AV→Option Bool
 | [],[]=>some true
 | .int k a::x,.int k' b::y=>AE (Ca k k') ((keysEq x y).bind fun r=>some (LW a b && r))
 | .str a::x,.str b::y=>(keysEq x y).bind fun r=>some (BU a b && r)
 | _,_=>none
def FX(k:AV):List (AV×AV)→Nat→Option (Option (Nat×AV))
 | [],_=>some none
 | (k',v)::l,i=>(Fe k k').bind fun e=>match e with
  | true=>some (some (i,v))
  | false=>FX k l (i+1)
def Du(P:Program):Nat→TypeId→List AV→Bool
 | 0,_,_=>false
 | d+1,t,cs=>match P.underlying t with
  | some (.int q)=>match cs with
   | [.int q' n]=>Ca q' q && BG q n
   | _=>false
  | some .string=>match cs with
   | [.str l]=>Nat.ble l.length 1099511627776
   | _=>false
  | some (.array n e)=>Nat.beq cs.length (P.cellsOf t) && (List.range n).all fun i=>Du P d e ((cs.drop (i * P.cellsOf e)).take (P.cellsOf e))
  | some (.struct fs)=>Nat.beq cs.length (P.cellsOf t) && fs.toList.all fun f=>Du P d f.type ((cs.drop f.offset).take (P.cellsOf f.type))
  | _=>false
def Cr(P:Program)(t:TypeId)(k:AV):Bool:=match P.underlying t with
 | some (.array _ _) | some (.struct _)=>match k with
  | .agg cs=>Du P 4 t cs
  | _=>false
 | _=>Du P 1 t [k]
def C1(P:Program)(t:TypeId):Bool:=match P.underlying t with
 | some (.int _) | some .string=>true
 | some (.array _ _) | some (.struct _)=>P.keyType t && (P.tiled (P.types.size+1) t && (Nat.ble 4 P.types.size && Nat.ble P.types.size 9990))
 | _=>false
def Dv(P:Program)(t:TypeId):Bool:=match P.underlying t with
 | some (.map kt _)=>C1 P kt
 | _=>false
def LE(P:Program)(t:TypeId):Option TypeId:=match P.underlying t with
 | some (.map kt _)=>some kt
 | _=>none
def JA(s:AC)(kt:TypeId)(i:Nat):Option (List (AV×AV)):=match s.heap.get i with
 | some (.map kt' es)=>AE (Nat.beq kt' kt) (some es)
 | _=>none
def Kj(s:AC)(kt:TypeId)(i:Nat):Option (List (AV×AV)):=match s.heap.get i with
 | some (.map kt' es)=>AE (Nat.beq kt' kt) (some es)
 | some (.mapRo kt' es)=>AE (Nat.beq kt' kt) (some es)
 | _=>none
def Dc(P:Program)(s:AC)(t:TypeId)(m k:AV)(ok:Bool):Option AV:=
 match P.underlying t with
 | some (.map kt et)=>AE (Cr P kt k) <|
  (match m with
   | .map none=>some []
   | .map (some i)=>Kj s kt i
   | _=>none).bind fun es=>(FX k es 0).bind fun r =>
   (match r with
    | some (_,v)=>some (v,true)
    | none=>(B9 P et).bind fun z=>some (z,false)).bind fun p=>some (bif ok then .tuple [p.1,.bool p.2]else p.1)
 | _=>none
def setNth(es:List (AV×AV))(i:Nat)(v:AV):List (AV×AV):=
 match es,i with
 | [],_=>[]
 | (k,_)::l,0=>(k,v)::l
 | e::l,i+1=>e::setNth l i v
def O5(k v:AV)(es:List (AV×AV)):Option (List (AV×AV)):=(FX k es 0).bind fun r=>match r with
 | some (j,_)=>some (setNth es j v)
 | none=>some (es++[(k,v)])
def IY(P:Program)(s:AC)(t:TypeId)(m k v:AV):Option AC:=
 match P.underlying t,m with
 | some (.map kt _),.map (some i)=>AE (Cr P kt k) <|
  (JA s kt i).bind fun es=>(O5 k v es).bind fun es'=>some (setObj s i (.map kt es'))
 | _,_=>none
def delNth(es:List (AV×AV))(i:Nat):List (AV×AV):=
 match es,i with
 | [],_=>[]
 | _::l,0=>l
 | e::l,i+1=>e::delNth l i
def Fy(P:Program)(s:AC)(t:TypeId)(m k:AV):Option AC:=
 match P.underlying t with
 | some (.map kt _)=>AE (Cr P kt k) <| match m with
  | .map none=>some s
  | .map (some i)=>(JA s kt i).bind fun es=>(FX k es 0).bind fun r=>match r with
    | some (j,_)=>some (setObj s i (.map kt (delNth es j)))
    | none=>some s
  | _=>none
 | _=>none
def Ce(P:Program)(s:AC)(t:TypeId):AV→Option AV
 | .str l=>match P.underlying t with
  | some .string=>some (.int .i64 (.ofNat l.length))
  | _=>none
 | .slice _ n _=>match P.underlying t with
  | some (.slice _)=>some (.int .i64 (.ofNat n))
  | _=>none
 | .map none=>match P.underlying t with
  | some (.map ..)=>some (.int .i64 (.ofNat 0))
  | _=>none
 | .map (some i)=>match P.underlying t with
  | some (.map ..)=>match s.heap.get i with
   | some (.map _ es)=>some (.int .i64 (.ofNat es.length))
   | some (.mapRo _ es)=>some (.int .i64 (.ofNat es.length))
   | _=>none
  | _=>none
 | _=>none
def K2(P:Program)(s:AC)(t:TypeId):AV→Option AV
 | .slice a _ cap=>match P.underlying t with
  | some (.slice e)=>match cap with
   | some c=>some (.int .i64 (.ofNat c))
   | none=>match a with
    | some (i,o)=>(Ah P e).bind fun n=>(rowAt s i).bind fun r=>AE (!r.spare && Nat.ble o r.n && Nat.beq n r.sz && !Nat.beq n 0) (some (.int .i64 (.ofNat ((r.n - o) / n))))
    | none=>none
  | _=>none
 | _=>none
def Lr:AV→Option AV
 | .slice none _ _=>some (.ptr none)
 | .slice (some (i,o)) (_+1) _=>some (.ptr (some (i,o)))
 | _=>none
def Made.val(i:Nat):Made→AV
 | .ptr=>.ptr (some (i,0))
 | .slice n=>.slice (some (i,0)) n (some n)
 | .map=>.map (some i)
def E2(P:Program)(e:TypeId):Option (Ad×Made):=(B9 P e).bind fun z=>some (Dw e 0 z.cells,.ptr)
def Lh(e:TypeId)(v:AV):Option (Ad×Made):=some (Dw e 0 v.cells,.ptr)
def C3(P:Program)(t:TypeId)(l c:AV):Option (Ad×Made):=
 match P.underlying t,l,c with
  | some (.slice e),.int .i64 (.ofNat l),.int .i64 (.ofNat c)=>(Bj P e).bind fun by_=>(Ah P e).bind fun n =>
   AE (Nat.beq l c && Nat.ble (by_ * c) 1099511627776 && Nat.ble c 1099511627776) <|
   (B9 P e).bind fun z=>AE (Nat.beq z.cells.length n) (some (Dw e n (LZ z.cells c),.slice c))
  | _,_,_=>none
def Jv(P:Program)(t:TypeId):Bool:=match P.underlying t with
 | some (.int _)=>true
 | _=>false
def NE(s:AC)(i o n size:Nat):Option (List AV):=bif Nat.beq n 0 then some []else BJ s i o (n * size)
def B0(P:Program)(s:AC)(e:TypeId)(size:Nat):AV→Option (Nat×List AV)
 | .int _ (.ofNat n)=>AE (Nat.ble n 1099511627776 && Nat.blt 0 n) ((B9 P e).bind fun z=>AE (Nat.beq z.cells.length size) (some (n,LZ z.cells n)))
 | .slice none _ _=>some (0,[])
 | .slice (some (i,o)) n _=>(NE s i o n size).bind fun l=>some (n,l)
 | .str l=>AE (Nat.beq size 1) (some (l.length,l.map fun b=>.int .u8 (.ofNat b)))
 | _=>none
def A6(P:Program)(t:TypeId):Bool:=match P.underlying t with
 | some (.slice _) | some .string=>true
 | _=>false
def Bl(e:TypeId)(sz:Nat)(c:AG AV)(n:Nat)(par:Option Nat)(base:Bool):Ad:=
 .row { elem:=e,sz,n,c,spare:=true,mode:=.own,par,bytes:=base }
def Be(P:Program)(e:TypeId)(size:Nat):Bool:=match B9 P e with
 | some z=>Nat.beq z.cells.length size
 | none=>false
def Bi(P:Program)(s:AC)(e:TypeId)(size n:Nat)(cells:List AV):Option (AV×AC):=
 AE (Be P e size) (some (.slice (some (s.next,0)) n none,newObj s (Bl e size (AG.fill .leaf 0 cells) cells.length none true)))
def BZ(s:AC)(i:Nat)(r:Bw)(ends:Bool):AC:=
 bif ends then setObj (Al s i r) i (.row { r with mode:=.sealed,par:=none })else BL (Al s i r) i
def CP(P:Program)(s:AC)(e:TypeId)(size i o len:Nat)(src:Nat×List AV)(r:Bw)(old:List AV):Option (AV×AC):=
 AE (B5 r.mode && Nat.beq r.elem e && Be P e size) <|
  let ends:=Nat.beq (o+len * size) r.n
  let s2:=BZ s i r ends
  some (.slice (some (s.next,0)) (len+src.1) none,
   newObj s2 (Bl e size (bif Nat.beq o 0 then r.c.fill (len * size) src.2 else AG.fill .leaf 0 (old++src.2)) (old++src.2).length (bif ends then some i else none) (r.bytes && Nat.beq o 0)))
def Hp(P:Program)(s:AC)(e:TypeId)(size i o len:Nat)(src:Nat×List AV)(r:Bw):Option (AV×AC):=
 AE (Nat.beq size r.sz) <|
 bif Nat.ble (o+(len+src.1) * size) r.n then
  (Bd s i (o+len * size) src.2).bind fun s'=>some (.slice (some (i,o)) (len+src.1) none,s')
 else (BJ s i o (len * size)).bind fun old =>
  bif r.spare then CP P s e size i o len src r old else Bi P s e size (len+src.1) (old++src.2)
def Id(P:Program)(s:AC)(e:TypeId)(size i o len c:Nat)(src:Nat×List AV):Option (AV×AC):=
 bif Nat.ble (len+src.1) c then
  (Bd s i (o+len * size) src.2).bind fun s'=>some (.slice (some (i,o)) (len+src.1) (some c),s')
 else (BJ s i o (len * size)).bind fun old=>Bi P s e size (len+src.1) (old++src.2)
def appTo(P:Program)(s:AC)(e:TypeId)(size:Nat)(a:Option (Nat×Nat))(len:Nat)(cap:Option Nat)(src:Nat×List AV):Option (AV×AC):=
 match a with
 | none=>bif Nat.beq src.1 0 then some (.slice none 0 (some 0),s)else Bi P s e size src.1 src.2
 | some (i,o)=>match cap with
  | some c=>Id P s e size i o len c src
  | none=>(rowAt s i).bind fun r=>Hp P s e size i o len src r
def BY(P:Program)(s:AC)(argTypes:List TypeId)(args:List AV):Option (AV×AC):=
 match argTypes,args with
 | [st,xt],[.slice a len cap,x]=>match P.underlying st with
  | some (.slice e)=>(Ah P e).bind fun size=>(Bj P e).bind fun by_ =>
   AE (!Nat.beq size 0 && (match x with | .int ..=>Jv P xt | _=>A6 P xt)) <|
   (B0 P s e size x).bind fun src =>
   AE (Aj src.2 && Nat.ble ((len+src.1) * by_) 1099511627776 && Nat.ble (len+src.1) 1099511627776) <|
   appTo P s e size a len cap src
  | _=>none
 | _,_=>none
def Lo(P:Program)(s:AC)(argTypes:List TypeId)(args:List AV):Option (AV×AC):=
 match argTypes,args with
 | dt::_,[.slice a dl _,x]=>match P.underlying dt with
  | some (.slice e)=>(Ah P e).bind fun size =>
   (match x with | .slice _ n _=>some n | .str l=>some l.length | _=>none).bind fun sl =>
   let n:=bif Nat.ble sl dl then sl else dl
   (match x with
    | .slice none _ _=>some []
    | .slice (some (i,o)) _ _=>BJ s i o (n * size)
    | .str l=>AE (Nat.beq size 1) (some ((l.take n).map fun b=>.int .u8 (.ofNat b)))
    | _=>none).bind fun cells =>
   (match a with
    | none=>some s
    | some (i,o)=>Bd s i o cells).bind fun s'=>some (.int .i64 (.ofNat n),s')
  | _=>none
 | _,_=>none
def Kb(r:Bw):Ad:=.row { r with n:=0,spare:=true,mode:=.ro,par:=none,bytes:=false,glob:=none }
def Kt(P:Program)(s:AC)(t:TypeId)(n:Nat):Option (Nat×Nat)→Option (AV×AC)
 | none=>none
 | some (i,o)=>match P.underlying t with
  | some (.pointer e)=>(rowAt s i).bind fun r=>AE (B5 r.mode && r.bytes && Nat.beq o 0 && Nat.beq r.elem e && Nat.ble n 1099511627776) <| (Ah P e).bind fun z=>AE (Nat.beq z 1) <|
   (BJ s i o n).bind fun l=>(BF.bytesOf l).bind fun b=>some (.str b,setObj (Al s i r) i (Kb r))
  | _=>none
def Md(P:Program)(s:AC)(argTypes:List TypeId)(args:List AV):Option (AV×AC):=
 match argTypes,args with
 | [t,_],[.ptr a,.int .i64 (.ofNat n)]=>match n with
  | 0=>some (.str [],s)
  | n+1=>Kt P s t (n+1) a
 | _,_=>none
def MJ(s:AC):List AV→Option (AV×AC)
 | [x]=>some (x,s)
 | _=>none
def IJ(e:TypeId)(s:AC):List AV→Option (AV×AC)
 | [.int .i64 (.ofNat n)]=>AE (Nat.ble n 1099511627776) (some (.slice (some (s.next,0)) n none,newObj s (Bl e 1 .leaf n none true)))
 | _=>none
def KY(s:AC):List AV→Option (AV×AC)
 | [.str a,.str b]=>some (.int .i64 (bif DX a b then -1 else bif BU a b then 0 else 1),s)
 | _=>none
def Iu(P:Program)(name:String)(rt:Array TypeId):Option (AC→List AV→Option (AV×AC)):=
  bif name == "internal/abi.NoEscape" then some MJ else
  bif name == "internal/bytealg.abigen_runtime_cmpstring" then some KY else
  bif name == "internal/bytealg.MakeNoZero" then (match rt.toList with
    | [t]=>match P.underlying t with
      | some (.slice e)=>match Ah P e with
        | some 1=>some (IJ e)
        | _=>none
      | _=>none
    | _=>none)
  else none
def Lw(P:Program)(f:FuncId):Option (AC→List AV→Option (AV×AC)):=match P.funcs[f]? with
  | some fn=>match fn.body with
    | some _=>none
    | none => bif fn.origin == "" then Iu P fn.name fn.resultTypes else none
  | none=>none
def Ji(P:Program)(s:AC)(argTypes:List TypeId)(args:List AV):Option (AV×AC):=
 match argTypes,args with
 | t::_,[x]=>match P.underlying t,x with
  | some (.slice _),.slice none _ _=>some (As,s)
  | some (.slice _),.slice _ 0 _=>some (As,s)
  | some (.slice e),.slice (some (i,o)) n _=>(B9 P e).bind fun z=>(Bd s i o (LZ z.cells n)).bind fun s'=>some (As,s')
  | _,_=>none
 | _,_=>none
inductive Sh where
 | p1 (f:AV→Option AV)
 | p2 (f:AV→AV→Option AV)
 | p (f:List AV→Option AV)
 | r1 (f:AC→AV→Option AV)
 | r (f:AC→List AV→Option AV)
 | mk (f:List AV→Option (Ad×Made))
 | e (f:AC→List AV→Option (AV×AC))
 | call (f:FuncId)
 | callv
def Sh.isEff:Sh→Bool
 | .e _ | .call _ | .callv=>true
 | _=>false
def Sh.isRead:Sh→Bool
 | .r1 _ | .r _=>true
 | _=>false
def Rs:List AV→Option AV
 | [c,a,b]=>Rt c a b
 | _=>none
def Xv{α:Type}(f:AV→AV→Option α):List AV→Option α
 | [a,b]=>f a b
 | _=>none
def Xw{α:Type}(f:AV→AV→AV→Option α):List AV→Option α
 | [a,b,c]=>f a b c
 | _=>none
def Xx(x:Option AC):Option (AV×AC):=match x with
 | some s=>some (As,s)
 | none=>none
def A8(P:Program)(t:TypeId)(lo hi mx:Bool)(s:AC):List AV→Option AV
 | [x]=>match lo,hi,mx with
  | false,false,false=>Au P s t x none none none
  | _,_,_=>none
 | [x,a]=>match lo,hi,mx with
  | true,false,false=>Au P s t x (some a) none none
  | false,true,false=>Au P s t x none (some a) none
  | _,_,_=>none
 | [x,a,b]=>match lo,hi,mx with
  | true,true,false=>Au P s t x (some a) (some b) none
  | false,true,true=>Au P s t x none (some a) (some b)
  | _,_,_=>none
 | [x,a,b,c]=>match lo,hi,mx with
  | true,true,true=>Au P s t x (some a) (some b) (some c)
  | _,_,_=>none
 | _=>none
def zipIdx(is:List Nat)(l:List AV):List (Nat×AV):=is.zip l
def DO:Operand→Bool
 | .tmp _=>true
 | _=>false
def MP(P:Program)(op:BinOp)(t:TypeId)(x y:Operand):Option Bool:=match op with
 | .eql=>bif DO x && DO y && DN P t then some false else none
 | .neq=>bif DO x && DO y && DN P t then some true else none
 | _=>none
def AW(P:Program)(o:Op):Option (Sh×List Operand):=
 match o with
 | .move x | .assign x=>some (.p1 some,[x])
 | .pick c a b=>some (.p Rs,[c,a,b])
 | .build t ps=>some (.p (fun l=>Jh P t (zipIdx (ps.toList.map (·.1)) l)),ps.toList.map (·.2))
 | .nilCheck x=>some (.p1 Df,[x])
 | .binOp op t x y _=>match MP P op t x y with
  | some neg=>some (.r (fun s=>Xv (FH P s neg t)),[x,y])
  | none=>some (.p2 (Aw P op t),[x,y])
 | .unOp op _ x=>some (.p1 (Ks P op),[x])
 | .makeFunc fn first captured=>match fn with
  | .func f=>some (.p (fun l=>some (.func f (l.take first.size) (l.drop first.size))),first.toList++captured.toList)
  | _=>none
 | .fieldAddr t x f=>some (.p1 (fun x=>D7 P t x f),[x])
 | .field t x f=>some (.p1 (fun x=>Jq P t x f),[x])
 | .indexAddr t x i=>some (.p2 (AS P t),[x,i])
 | .index t x i=>some (.p2 (Jt P t),[x,i])
 | .extract t i=>some (.p1 (fun x=>Xy x i),[t])
 | .load t a=>some (.r1 (fun s a=>AZ P s t a),[a])
 | .lookup t m k ok=>AE (Dv P t) (some (.r (fun s=>Xv (fun m k=>Dc P s t m k ok)),[m,k]))
 | .convert src dst x=>some (.r1 (fun s x=>BF P s src dst x),[x])
 | .slice t x lo hi mx=>some (.r (A8 P t lo.isSome hi.isSome mx.isSome),[x]++lo.toList++hi.toList++mx.toList)
 | .alloc e=>some (.mk (fun l=>match l with | []=>E2 P e | _=>none),[])
 | .box e x=>some (.mk (fun l=>match l with | [v]=>Lh e v | _=>none),[x])
 | .buildSlice t len ps=>some (.mk (fun l=>(BS P t len (zipIdx (ps.toList.map (·.1)) l)).bind fun r=>some (r,.slice len)),ps.toList.map (·.2))
 | .makeMap t none=>AE (Dv P t) (some (.mk (fun l=>match l with | []=>(LE P t).bind fun kt=>some (.map kt [],.map) | _=>none),[]))
 | .makeSlice t l c=>some (.mk (Xv (C3 P t)),[l,c])
 | .store t a x=>some (.e (fun s=>Xv (fun a x=>Xx (FP P s t a x))),[a,x])
 | .mapUpdate t m k x | .insert t m k x=>AE (Dv P t) (some (.e (fun s=>Xw (fun m k x=>Xx (IY P s t m k x))),[m,k,x]))
 | .call { callee,args,argTypes }=>match callee with
  | .value (.func f)=>match Lw P f with
   | some e=>some (.e e,args.toList)
   | none=>some (.call f,args.toList)
  | .value x=>some (.callv,x::args.toList)
  | .invoke ..=>none
  | .builtin b=>match b with
   | .len=>match argTypes[0]? with
    | some t=>some (.r (fun s l=>match l with | [x]=>Ce P s t x | _=>none),args.toList)
    | none=>none
   | .cap=>match argTypes[0]? with
    | some t=>some (.r (fun s l=>match l with | [x]=>K2 P s t x | _=>none),args.toList)
    | none=>none
   | .min=>some (.p (fun l=>match l with | v::l=>CV false v l | []=>none),args.toList)
   | .max=>some (.p (fun l=>match l with | v::l=>CV true v l | []=>none),args.toList)
   | .append=>some (.e (fun s l=>BY P s argTypes.toList l),args.toList)
   | .copy=>some (.e (fun s l=>Lo P s argTypes.toList l),args.toList)
   | .unsafeSliceData=>some (.p (fun l=>match l with | [x]=>Lr x | _=>none),args.toList)
   | .unsafeString=>some (.e (fun s l=>Md P s argTypes.toList l),args.toList)
   | .clear=>some (.e (fun s l=>Ji P s argTypes.toList l),args.toList)
   | .delete=>match argTypes[0]? with
    | some t=>AE (Dv P t) (some (.e (fun s=>Xv (fun m k=>Xx (Fy P s t m k))),args.toList))
    | none=>none
   | _=>none
 | _=>none
def PE(t:Nat):Nat:=Nat.shiftLeft 1 t
def Co:List Operand→Nat
 | []=>0
 | .tmp t::l=>Nat.lor (PE t) (Co l)
 | _::l=>Co l
def GK(P:Program):List Oper→Nat→Nat→Nat
 | [],_,e=>e
 | o::l,wr,e =>
  let rd:=match AW P o.op with
   | some (_,xs)=>Co xs
   | none=>match o.op with
    | .range _ x | .next x _ | .entry x=>Co [x]
    | _=>0
  GK P l (match o.dst with | some d=>Nat.lor wr (PE d) | none=>wr) (Nat.lor e (Nat.sub rd (Nat.land rd wr)))
def CE(P:Program):Code→Nat
 | .region _ ops _=>GK P ops.toList 0 0
 | .seq a b=>Nat.lor (CE P a) (CE P b)
 | .cond c a b=>Nat.lor (Co [c]) (Nat.lor (CE P a) (CE P b))
 | .block _ b | .loop b | .scope b=>CE P b
 | .rangeFunc f ps a b=>Nat.lor (Co [f]) (Nat.lor (ps.toList.foldl (fun m t=>Nat.lor m (PE t)) 0) (Nat.lor (CE P a) (CE P b)))
 | _=>0
def EH:List ResultVar→Nat
 | []=>0
 | .tmp t::l | .cell t _::l=>Nat.lor (PE t) (EH l)
def Cm(m:Nat):Nat→Nat→List Nat
 | 0,_=>[]
 | n+1,k=>bif m.testBit k then k::Cm m n (k+1)else Cm m n (k+1)
def Ba(fn:Func):Nat:=fn.params.size+fn.nfree
def AL(P:Program)(fn:Func):List Tmp:=
 List.range (Ba fn)++match fn.body with
 | none=>[]
 | some c=>Cm (Nat.lor (CE P c) (EH fn.results.toList)) (fn.ntmps - Ba fn) (Ba fn)
def AQ:List Tmp→Tmp→Option Nat
 | [],_=>none
 | a::l,t=>bif Nat.beq a t then some 0 else (AQ l t).bind fun j=>some (j+1)
def It(P:Program)(o:Oper):Bool:=match AW P o.op with
 | some (s,_)=>s.isEff
 | none=>true
def Kn(b:Array Nat)(done:Nat)(i:Nat):Bool:=Nat.beq (Nat.land (b.getD i 0) done) (b.getD i 0)
def J5(P:Program)(ops:Array Oper)(b:Array Nat):Nat→Nat→List Nat→List Nat→List Nat
 | 0,_,_,acc=>acc.reverse
 | f+1,done,todo,acc =>
  match todo.find? fun i=>Kn b done i && !It P (ops.getD i default)with
  | some i=>J5 P ops b f (done+2 ^ i) (todo.filter fun j=>!Nat.beq j i) (i::acc)
  | none=>match todo.find? fun i=>Kn b done i with
   | some i=>J5 P ops b f (done+2 ^ i) (todo.filter fun j=>!Nat.beq j i) (i::acc)
   | none=>acc.reverse
def NA(P:Program)(ops:Array Oper):List Nat:=J5 P ops (Region.before ops) ops.size 0 (List.range ops.size) []
def C4(P:Program)(o:Oper):List Tmp:=o.dst.toList++((match AW P o.op with
 | some (_,xs)=>xs
 | none=>[]).filterMap fun x:Operand=>match x with
  | .tmp t=>some t
  | _=>none)
def Kg(o:Oper):List Nat:=match o.guard with
 | some (j,_)=>[j]
 | none=>[]
def IW(P:Program)(ops:Array Oper)(b:Array Nat)(before:List Nat)(i:Nat):Bool:=
 let o:=ops.getD i default
 let anc:=b.getD i 0
 Nat.blt i ops.size && !before.contains i &&
 (List.range ops.size).all (fun j=>!anc.testBit j || before.contains j) &&
 o.after.all (fun e=>!Region.binds .any e || before.contains e.on) &&
 before.all (fun j=>!It P (ops.getD j default) || anc.testBit j) &&
 (Kg o).all (fun j=>anc.testBit j) &&
 before.all (fun j=>let p:=ops.getD j default
  (match o.dst with
   | none=>true
   | some d=>p.dst != some d && (!(C4 P p).contains d || anc.testBit j)) &&
  (match p.dst with
   | none=>true
   | some d=>!(C4 P o).contains d || anc.testBit j))
def CW(P:Program)(ops:Array Oper)(b:Array Nat):List Nat→List Nat→Bool
 | before,[]=>Nat.beq before.length ops.size
 | before,i::l=>IW P ops b before i && CW P ops b (before++[i]) l
inductive Fq where
 | push | set (j:Nat)
structure DE where
 guard:Option (CX×Bool)
 sh:Sh
 xs:List CX
 ans:CX
structure AM where
 guard:Option (CX×Bool)
 sh:Sh
 xs:List CX
 dst:Fq
 again:List DE
structure Mi where
 map:List (Tmp×CX)
 cnt:Nat
def B6:List (Tmp×CX)→Tmp→Option CX
 | [],_=>none
 | (a,x)::l,t=>bif Nat.beq a t then some x else B6 l t
def BE(cnt:Nat):CX→CX
 | .loc p=>.loc (cnt - 1 - p)
 | x=>x
def B8(vars:List Tmp)(c:Mi)(t:Tmp):Option CX:=
 match B6 c.map t with
 | some x=>some x
 | none=>(AQ vars t).bind fun j=>some (.var j)
def B7(vars:List Tmp)(c:Mi):Operand→Option CX
 | .tmp t=>B8 vars c t
 | .const v=>(ofValue v).bind fun a=>some (.const a)
 | .global g=>some (.const (.gptr g 0))
 | .func f=>some (.const (.func f [] []))
def EE(vars:List Tmp)(c:Mi):List Operand→Option (List CX)
 | []=>some []
 | x::l=>(B7 vars c x).bind fun a=>(EE vars c l).bind fun r=>some (a::r)
def isVar(j:Nat):CX→Bool
 | .var i=>Nat.beq i j
 | _=>false
def Ef(j:Nat):List (Tmp×CX)→Bool
 | []=>true
 | (_,x)::l=>!isVar j x && Ef j l
def Ft(vars:List Tmp)(later:List (Option Tmp))(o:Oper)(x:CX):Bool:=
 (match o.op with | .move _=>true | _=>false) && o.guard.isNone &&
 (match o.dst with | some d=>(AQ vars d).isNone | none=>false) &&
 (match x with
  | .var j=>!(later.any fun d=>match d with
   | some t=>match AQ vars t with
    | some i=>Nat.beq i j
    | none=>false
   | none=>false)
  | _=>true)
def Cp(cnt:Nat):Option (CX×Bool)→Option (CX×Bool)
 | none=>none
 | some (x,b)=>some (BE cnt x,b)
def Ek(cnt:Nat)(r:DE):DE:={ guard:=Cp cnt r.guard,sh:=r.sh,xs:=r.xs.map (BE cnt),ans:=BE cnt r.ans }
def IL(j:Nat)(r:DE):Bool:=(match r.guard with | none=>true | some (x,_)=>!isVar j x) && r.xs.all fun x=>!isVar j x
def CD(P:Program)(nt:Nat)(vars:List Tmp)(ops:Array Oper)(b:Array Nat)(draw:Bool):List Nat→Mi→List (Nat×DE)→Option (List AM)
  | [],_,_=>some []
  | i::l,c,rs=>(ops[i]?).bind fun o=>(AW P o.op).bind fun sh=>(EE vars c sh.2).bind fun xs =>
    match (match xs with | [x]=>bif Ft vars (l.map fun j=>(ops.getD j default).dst) o x then some x else none | _=>none),o.dst with
    | some x,some d=>AE (Nat.blt d nt) (CD P nt vars ops b draw l { c with map:=(d,x)::c.map } rs)
    | _,_ =>
      (match o.guard with
        | none=>some none
        | some (j,want)=>(ops[j]?).bind fun p=>p.dst.bind fun d=>(B8 vars c d).bind fun x=>some (some (x,want))).bind fun g =>
      (match o.dst with
        | none=>some (Fq.push,{ c with cnt:=c.cnt+1 })
        | some d=>AE (Nat.blt d nt) <| match AQ vars d with
          | some j=>AE (Ef j c.map && rs.all fun r=>IL j r.2) (some (Fq.set j,c))
          | none=>some (Fq.push,{ map:=(d,.loc c.cnt)::c.map,cnt:=c.cnt+1 })).bind fun q =>
      let ag:=match draw,sh.1.isEff with
        | true,true=>rs.filter fun(r:Nat×DE)=>!(b.getD i 0).testBit r.1
        | _,_=>[]
      let rd:=draw && sh.1.isRead
      AE (!rd || (match q.1 with | .push=>true | .set _=>false)) <|
      (CD P nt vars ops b draw l q.2 (bif rd then (i,{ guard:=g,sh:=sh.1,xs,ans:=.loc c.cnt })::rs else rs)).bind fun r =>
        some ({ guard:=Cp c.cnt g,sh:=sh.1,xs:=xs.map (BE c.cnt),dst:=q.1,again:=ag.map fun(r:Nat×DE)=>Ek q.2.cnt r.2 }::r)
structure Ey where
 ad:CX
 rd:AC→AV→Option AV
 jt:Nat
 jok:Nat
 jk:Nat
 id2:Nat
inductive AT where
 | skip
 | ops (l:List AM)
 | seq (a b:AT)
 | cond (x:CX) (a b:AT)
 | block (id:Nat) (c:AT)
 | loop (c:AT)
 | rangeFunc (fn:FuncId) (f:CX) (params:Array Tmp) (assign body:Code)
 | exit (id:Nat)
 | ret
 | never
 | rangeMap (r:Ey) (body:AT)
structure Oa where
 ty:TypeId
 ad:Operand
 tm:Tmp
 it:Tmp
 tn:Tmp
 ok:Tmp
 te:Tmp
 tk:Tmp
 key:Tmp
 id2:Nat
def CF(o:Oper):Option (Op×Tmp):=match o.guard,o.dst with
 | none,some d=>some (o.op,d)
 | _,_=>none
def Je:Op→Option (TypeId×Operand)
 | .load t a=>some (t,a)
 | _=>none
def Hu:Op→Option (TypeId×Tmp)
 | .range t (.tmp m)=>some (t,m)
 | _=>none
def Jf:Op→Option Tmp
 | .next (.tmp i) false=>some i
 | _=>none
def Hs:Op→Option Tmp
 | .entry (.tmp i)=>some i
 | _=>none
def KT:Op→Option Tmp
 | .extract (.tmp n) 0=>some n
 | _=>none
def Lg:Op→Option Tmp
 | .assign (.tmp n)=>some n
 | _=>none
def IP:List Oper→Option (TypeId×Operand×Tmp×Tmp)
 | [o0,o1]=>(CF o0).bind fun p0=>(CF o1).bind fun p1=>(Je p0.1).bind fun l=>(Hu p1.1).bind fun r =>
  AE (Nat.beq l.1 r.1 && Nat.beq p0.2 r.2) (some (l.1,l.2,p0.2,p1.2))
 | _=>none
def IR(it:Tmp):List Oper→Option (Tmp×Tmp)
 | [o0,o1]=>(CF o0).bind fun p0=>(CF o1).bind fun p1=>(Jf p0.1).bind fun i=>(KT p1.1).bind fun n =>
  AE (Nat.beq i it && Nat.beq n p0.2) (some (p0.2,p1.2))
 | _=>none
def Gr(it:Tmp):List Oper→Option (Tmp×Tmp×Tmp)
 | [o0,o1,o2]=>(CF o0).bind fun p0=>(CF o1).bind fun p1=>(CF o2).bind fun p2=>(Hs p0.1).bind fun i=>(KT p1.1).bind fun n=>(Lg p2.1).bind fun k =>
  AE (Nat.beq i it && (Nat.beq n p0.2 && Nat.beq k p1.2)) (some (p0.2,p1.2,p2.2))
 | _=>none
def MU(ops1:Array Oper)(d1:Bool):Code→Option Oa
 | .block id (.loop (.seq (.region _ ops2 false) (.seq (.cond (.tmp c) .skip (.exit id')) (.block id2 (.seq (.region _ ops3 false) _))))) =>
  AE (!d1) <| (IP ops1.toList).bind fun h=>(IR h.2.2.2 ops2.toList).bind fun n=>(Gr h.2.2.2 ops3.toList).bind fun e =>
   AE (Nat.beq id' id && Nat.beq c n.2) (some ⟨h.1,h.2.1,h.2.2.1,h.2.2.2,n.1,n.2,e.1,e.2.1,e.2.2,id2⟩)
 | _=>none
def KZ(P:Program)(nt:Nat)(vars:List Tmp)(p:Oa):Option Ey:=
 (B7 vars ⟨[],0⟩ p.ad).bind fun ad=>(AQ vars p.it).bind fun jt=>(AQ vars p.ok).bind fun jok=>(AQ vars p.key).bind fun jk =>
  AE ((AQ vars p.tm).isNone && ((AQ vars p.tn).isNone && ((AQ vars p.te).isNone && (AQ vars p.tk).isNone))) <|
  AE (Nat.blt p.tm nt && (Nat.blt p.tn nt && (Nat.blt p.te nt && (Nat.blt p.tk nt && (Nat.blt p.it nt && (Nat.blt p.ok nt && Nat.blt p.key nt)))))) <|
  AE (FB P p.ty && (!Nat.beq jt jok && (!Nat.beq jt jk && !Nat.beq jok jk))) (some ⟨ad,fun s a=>AZ P s p.ty a,jt,jok,jk,p.id2⟩)
def Dg:AT→Option AT
 | .block _ (.loop (.seq _ (.seq _ (.block _ (.seq _ b)))))=>some b
 | _=>none
def Gw(r:Option Ey)(a b:AT):AT:=match r with
 | none=>.seq a b
 | some r=>match Dg b with
  | some c=>.rangeMap r c
  | none=>.seq a b
def Dy(P:Program)(nt:Nat)(vars:List Tmp):Code→Code→Option Ey
 | .region _ ops d,b=>(MU ops d b).bind (KZ P nt vars)
 | _,_=>none
def N1:Option (List AM)→AT
 | some l=>.ops l
 | none=>.never
def AK(P:Program)(fn:FuncId)(nt:Nat)(vars:List Tmp):Code→AT
 | .skip | .label _=>.skip
 | .ret=>.ret
 | .exit id=>.exit id
 | .goto _ | .refuse _=>.never
 | .region _ ops draw=>match draw with
  | false=>N1 (CD P nt vars ops #[] false (List.range ops.size) ⟨[],0⟩ [])
  | true=>N1 (AE (CW P ops (Region.before ops) [] (NA P ops)) (CD P nt vars ops (Region.before ops) true (NA P ops) ⟨[],0⟩ []))
 | .seq a b=>Gw (Dy P nt vars a b) (AK P fn nt vars a) (AK P fn nt vars b)
 | .cond c a b=>match B7 vars ⟨[],0⟩ c with
  | some z=>.cond z (AK P fn nt vars a) (AK P fn nt vars b)
  | none=>.never
 | .block id c=>.block id (AK P fn nt vars c)
 | .loop c=>.loop (AK P fn nt vars c)
 | .scope c=>AK P fn nt vars c
 | .rangeFunc f ps a b=>match B7 vars ⟨[],0⟩ f with
  | some x=>.rangeFunc fn x ps a b
  | none=>.never
structure CM where
 na:Nat
 nv:Nat
 body:AT
 results:List (CX×Option TypeId)
def BM(vars:List Tmp):List ResultVar→Option (List (CX×Option TypeId))
 | []=>some []
 | .tmp t::l=>(AQ vars t).bind fun j=>(BM vars l).bind fun r=>some ((.var j,none)::r)
 | .cell t ty::l=>(AQ vars t).bind fun j=>(BM vars l).bind fun r=>some ((.var j,some ty)::r)
def Ay(P:Program)(f:FuncId):Option CM:=(P.funcs[f]?).bind fun fn=>fn.body.bind fun c =>
 AE (Nat.ble (Ba fn) fn.ntmps) <|
 let vars:=AL P fn
 (BM vars fn.results.toList).bind fun r =>
  some { na:=Ba fn,nv:=vars.length,body:=AK P f fn.ntmps vars c,results:=r }
def Gd (l:List AV):Nat→AV:=
 List.rec (fun _=>As) (fun a _ ih i=>Nat.rec a (fun i _=>ih i) i) l
def C9 (v:AV) (l:List AV):Nat→List AV:=
 List.rec (fun _=>[]) (fun a l ih i=>Nat.rec (v::l) (fun i _=>a::ih i) i) l
def Bo (loc var:List AV) (x:CX):AV:=
 match x with
 | .loc i=>Gd loc i
 | .var j=>Gd var j
 | .const v=>v
def Br (loc var:List AV) (l:List CX):List AV:=
 List.rec [] (fun x _ ih=>Bo loc var x::ih) l
inductive F5 where
 | normal | exit (id:Nat) | ret
structure Af where
 exit:F5
 var:List AV
 marks:List Nat
 st:AC
def Jp:AV→AV→Bool
 | .bool a,.bool b=>a == b
 | .int k a,.int k' b=>Ca k k' && LW a b
 | .str a,.str b=>BU a b
 | .ptr none,.ptr none=>true
 | .gptr a b,.gptr c d=>Nat.beq a c && Nat.beq b d
 | .ptr (some (i,o)),.ptr (some (j,p))=>Nat.beq i j && Nat.beq o p
 | .slice none n (some c),.slice none n' (some c')=>Nat.beq n n' && Nat.beq c c'
 | .slice none n none,.slice none n' none=>Nat.beq n n'
 | .slice (some (i,o)) n none,.slice (some (j,p)) n' none=>Nat.beq i j && Nat.beq o p && Nat.beq n n'
 | .slice (some (i,o)) n (some c),.slice (some (j,p)) n' (some c')=>Nat.beq i j && Nat.beq o p && Nat.beq n n' && Nat.beq c c'
 | .map none,.map none=>true
 | .map (some i),.map (some j)=>Nat.beq i j
 | .func f a c,.func g b d=>Nat.beq f g && eqAs a b && eqAs c d
 | .nilFunc,.nilFunc=>true
 | .nilIface,.nilIface=>true
 | .yield i,.yield j=>Nat.beq i j
 | .agg a,.agg b=>eqAs a b
 | .tuple a,.tuple b=>eqAs a b
 | _,_=>false
where
 eqAs:List AV→List AV→Bool
 | [],[]=>true
 | a::x,b::y=>Jp a b && eqAs x y
 | _,_=>false
abbrev Lc:=FuncId→List AV→AC→Option (AV×AC)
structure EQ where
 P:Program
 nat:Lc
structure Bg where
 code:Option Nat→AT→List AV→List Nat→AC→Option Af
 call:FuncId→List AV→AC→Option (AV×AC)
 round:Nat→List AV→AC→Option (AV×AC)
def Dq(F:Bg)(f:AV)(args:List AV)(s:AC):Option (AV×AC):=
 match f with
 | .func f first cap=>F.call f (first++(args++cap)) s
 | .yield l=>F.round l args s
 | _=>none
def Bp(s:AC)(x:Option AV):Option (AV×AC):=match x with
 | some v=>some (v,s)
 | none=>none
def one{α:Type}(f:AV→Option α):List AV→Option α
 | [a]=>f a
 | _=>none
def CY(sh:Sh)(xs:List AV)(s:AC):Option AV:=
 match sh with
 | .r1 f=>one (f s) xs
 | .r f=>f s xs
 | _=>none
def I9(s:AC)(r:Option (Ad×Made)):Option (AV×AC):=match r with
 | some p=>some (p.2.val s.next,newObj s p.1)
 | none=>none
def LX {α:Type} (f:CX→Option α) (xs:List CX):Option α:=List.rec none (fun x _ _=>f x) xs
def Nv {α:Type} (f:CX→CX→Option α) (xs:List CX):Option α:=LX (fun x=>LX (f x) xs.tail) xs
def PV (f:AV→Option AV) (xs:List CX) (loc var:List AV) (s:AC):Option (AV×AC):=LX (fun x=>Bp s (f (Bo loc var x))) xs
def PW (f:AV→AV→Option AV) (xs:List CX) (loc var:List AV) (s:AC):Option (AV×AC):=Nv (fun x y=>Bp s (f (Bo loc var x) (Bo loc var y))) xs
def PX (f:AC→AV→Option AV) (xs:List CX) (loc var:List AV) (s:AC):Option (AV×AC):=LX (fun x=>Bp s (f s (Bo loc var x))) xs
def shV (F:Bg) (xs:List CX) (loc var:List AV) (s:AC):Option (AV×AC):=LX (fun x=>Dq F (Bo loc var x) (Br loc var xs.tail) s) xs
def OS (F:Bg) (sh:Sh) (xs:List CX) (loc var:List AV) (s:AC):Option (AV×AC):=
 match sh with
 | .p1 f=>PV f xs loc var s
 | .p2 f=>PW f xs loc var s
 | .p f=>Bp s (f (Br loc var xs))
 | .r1 f=>PX f xs loc var s
 | .r f=>Bp s (f s (Br loc var xs))
 | .mk f=>I9 s (f (Br loc var xs))
 | .e f=>f s (Br loc var xs)
 | .call f=>F.call f (Br loc var xs) s
 | .callv=>shV F xs loc var s
def OV(want:Bool):AV→Bool
 | .bool b=>b == want
 | _=>false
def An (loc var:List AV) (g:Option (CX×Bool)):Bool:=
 match g with
 | none=>true
 | some p=>OV p.2 (Bo loc var p.1)
def ON:AV→Bool
 | .junk=>true
 | _=>false
def LY (loc var:List AV) (g:Option (CX×Bool)):Bool:=
 match g with
 | none=>false
 | some p=>ON (Bo loc var p.1)
def PB(x:Option AV)(v:AV):Bool:=match x with
 | some u=>Jp u v
 | none=>false
def E1 (s:AC) (loc var:List AV) (r:DE):Bool:=
 !An loc var r.guard || PB (CY r.sh (Br loc var r.xs) s) (Bo loc var r.ans)
def B2 (s:AC) (loc var:List AV) (l:List DE):Bool:=
 List.rec true (fun r _ ih=>E1 s loc var r && ih) l
abbrev La:=List AV→List AV→AC→Option (List AV×AC)
def BR (ag:List DE) (d:Fq) (k:La) (loc var:List AV) (v:AV) (s:AC):Option (List AV×AC):=
 match d with
 | .push=>bif B2 s (v::loc) var ag then k (v::loc) var s else none
 | .set j=>bif B2 s loc (C9 v var j) ag then k loc (C9 v var j) s else none
def F2 (it:AM) (k:La) (loc var:List AV) (r:Option (AV×AC)):Option (List AV×AC):=
 match r with
 | none=>none
 | some p=>BR it.again it.dst k loc var p.1 p.2
def Fd (F:Bg) (it:AM) (k:La) (loc var:List AV) (s:AC):Option (List AV×AC):=
 match LY loc var it.guard with
 | true=>none
 | false=>match An loc var it.guard with
  | true=>F2 it k loc var (OS F it.sh it.xs loc var s)
  | false=>BR [] it.dst k loc var As s
def B3 (F:Bg) (l:List AM):La:=
 List.rec (fun _ var s=>some (var,s)) (fun it _ ih loc var s=>Fd F it ih loc var s) l
def Ql(l:List AV):Nat→List AV
 | 0=>[]
 | n+1=>match l with
  | []=>As::Ql [] n
  | a::l=>a::Ql l n
def A2 (P:Program) (s:AC) (var:List AV):List (CX×Option TypeId)→Option (List AV)
 | []=>some []
 | (x,none)::l=>(A2 P s var l).bind fun r=>some (Bo [] var x::r)
 | (x,some t)::l=>(AZ P s t (Bo [] var x)).bind fun v=>(A2 P s var l).bind fun r=>some (v::r)
def Ak:List AV→AV
 | [v]=>v
 | l=>.tuple l
def Cj(s:AC):List Nat→Option AC
 | []=>some s
 | i::l=>match s.heap.get i with
  | some .mark=>Cj (BL s i) l
  | _=>none
def CR:F5→Option Code
 | .normal=>none
 | .ret=>some .ret
 | .exit id=>some (.exit id)
def Dk (vars:List Tmp) (var:List AV):List Tmp→List AV→Option (List AV)
 | [],[]=>some var
 | t::ts,v::vs=>(AQ vars t).bind fun j=>Dk vars (C9 v var j) ts vs
 | _,_=>none
def EC(s:AC)(l:Nat):Option F6:=match s.heap.get l with
 | some (.loop r)=>some r
 | _=>none
def Jj(P:Program)(f:FuncId)(c:Code):Option AT:=(P.funcs[f]?).bind fun fn=>some (AK P f fn.ntmps (AL P fn) c)
def EP(P:Program)(f:FuncId):List Tmp:=match P.funcs[f]? with
 | some fn=>AL P fn
 | none=>[]
def Mt(marks:List Nat)(r:Option (List AV×AC)):Option Af:=match r with
 | some p=>some ⟨.normal,p.1,marks,p.2⟩
 | none=>none
def Dp(F:Bg)(rnd:Option Nat)(b:AT)(r:Af):Option Af:=match r.exit with
 | .normal=>F.code rnd b r.var r.marks r.st
 | _=>some r
def EU(F:Bg)(rnd:Option Nat)(b:AT)(r:Option Af):Option Af:=match r with
 | some r=>Dp F rnd b r
 | none=>none
def Iq(F:Bg)(rnd:Option Nat)(a b:AT)(var:List AV)(marks:List Nat)(s:AC)(v:AV):Option Af:=match v with
 | .bool t=>match t with
  | true=>F.code rnd a var marks s
  | false=>F.code rnd b var marks s
 | _=>none
def Fw(id:Nat)(r:Af):Option Af:=match r.exit with
 | .exit id'=>bif Nat.beq id' id then some ⟨.normal,r.var,r.marks,r.st⟩else some r
 | _=>some r
def GF(id:Nat)(r:Option Af):Option Af:=match r with
 | some r=>Fw id r
 | none=>none
def GG(var:List AV)(marks:List Nat)(s:AC)(c:Option Code):Option Af:=match c with
 | none=>some ⟨.normal,var,marks,s⟩
 | some .ret=>some ⟨.ret,var,marks,s⟩
 | some (.exit id)=>some ⟨.exit id,var,marks,s⟩
 | some _=>none
def MA:LoopState→Bool
 | .busy=>true
 | _=>false
def ID:LoopState→Bool
 | .ready=>true
 | _=>false
def E4(var:List AV)(marks:List Nat)(l:Nat)(q:Option (AV×AC)):Option Af:=
 q.bind fun q=>(EC q.2 l).bind fun r=>bif MA r.state then none else
  GG var marks (setObj q.2 l (.loop { r with state:=.exhausted })) r.pending
def Cx(F:Bg)(var:List AV)(f:AV)(params:Array Tmp)(assign body:Code)(fn:FuncId)(dfr:Nat)(marks:List Nat)(s:AC):Option Af:=
 E4 var marks s.next (Dq { F with round:=fun _ _ _=>none } f [.yield s.next] (newObj s (.loop { state:=.ready,pending:=none,fn,var,params,assign,body,dfr })))
def H0(F:Bg)(rnd:Option Nat)(fn:FuncId)(f:AV)(params:Array Tmp)(assign body:Code)(var:List AV)(marks:List Nat)(s:AC):Option Af:=
 match rnd with
 | some l=>(EC s l).bind fun r=>Cx F var f params assign body fn r.dfr marks s
 | none=>Cx F var f params assign body fn s.next (s.next::marks) (newObj s .mark)
def OM:Ad→Option Ad
 | .row r=>some (.row { r with mode:=.ro,par:=none })
 | .map kt es=>some (.mapRo kt es)
 | .mapRo kt es=>some (.mapRo kt es)
 | _=>none
def frz(n:Nat)(h:AG Ad):AC:=⟨n,h.mapO OM⟩
def EL:AV→Bool
 | .agg _=>false
 | _=>true
def He(a b:AV):Bool:=match a,b with
 | .junk,.junk=>true
 | _,_=>Jp a b
def IH:List AV→List AV→Option (List AV)
 | [],[]=>some []
 | a::l,b::m=>(bif He a b then some a else AE (EL a && EL b) (some .junk)).bind fun c=>(IH l m).bind fun r=>some (c::r)
 | _,_=>none
def Oy(x b:AV):Bool:=He x b || (EL x && He .junk b)
def Jm:List AV→List AV→Bool
 | [],[]=>true
 | x::l,b::m=>Oy x b && Jm l m
 | _,_=>false
def Di:List Nat→List Nat→Bool
 | [],[]=>true
 | a::l,b::m=>Nat.beq a b && Di l m
 | _,_=>false
def HM(id2:Nat):F5→Bool
 | .normal=>true
 | .exit i=>Nat.beq i id2
 | .ret=>false
def BD (F:Bg) (rnd:Option Nat) (r:Ey) (body:AT) (A:List AV) (marks:List Nat) (s:AC) (k:AV):Option (List AV):=
 (F.code rnd body (C9 k (C9 (.bool true) A r.jok) r.jk) marks s).bind fun q=>AE (HM r.id2 q.exit && Di q.marks marks) (some q.var)
def EI (f:AV→Option (List AV)) (B:List AV):List (AV×AV)→Option (List AV)
 | []=>some B
 | e::l=>(f e.1).bind fun X=>(IH B X).bind fun B'=>EI f B' l
def CG (f:AV→Option (List AV)) (B:List AV):List (AV×AV)→Bool
 | []=>true
 | e::l=>(match f e.1 with | some X=>Jm X B | none=>false) && CG f B l
def Gs (F:Bg) (rnd:Option Nat) (r:Ey) (body:AT) (it:AV) (marks:List Nat) (s:AC) (A0:List AV) (l:List (AV×AV)):Option (List AV):=
 (EI (BD F rnd r body A0 marks s) A0 l).bind fun A1=>AE (CG (BD F rnd r body A1 marks s) A1 l && (Jp (Gd A1 r.jt) it && Jm A0 A1)) (some A1)
def H4 (r:Ey) (marks:List Nat) (s:AC) (A:Option (List AV)):Option Af:=
 A.bind fun A=>some ⟨.normal,C9 (.bool false) A r.jok,marks,s⟩
def Ki(s:AC):AV→Option (List (AV×AV))
 | .map (some i)=>match s.heap.get i with
  | some (.map _ es)=>some es
  | some (.mapRo _ es)=>some es
  | _=>none
 | _=>none
def Mu (F:Bg) (rnd:Option Nat) (r:Ey) (body:AT) (var:List AV) (marks:List Nat) (s:AC):Option Af:=
 (r.rd s (Bo [] var r.ad)).bind fun m=>(Ki s m).bind fun es =>
  H4 r marks ⟨s.next+1,s.heap⟩ (Gs F rnd r body (.ptr (some (s.next,0))) marks (frz (s.next+1) s.heap) (C9 (.ptr (some (s.next,0))) var r.jt) es)
def BT (F:Bg) (rnd:Option Nat) (c:AT) (var:List AV) (marks:List Nat) (s:AC):Option Af:=
 match c with
 | .skip=>some ⟨.normal,var,marks,s⟩
 | .ret=>some ⟨.ret,var,marks,s⟩
 | .exit id=>some ⟨.exit id,var,marks,s⟩
 | .never=>none
 | .ops l=>Mt marks (B3 F l [] var s)
 | .seq a b=>EU F rnd b (F.code rnd a var marks s)
 | .cond x a b=>Iq F rnd a b var marks s (Bo [] var x)
 | .block id body=>GF id (F.code rnd body var marks s)
 | .loop body=>EU F rnd (.loop body) (F.code rnd body var marks s)
 | .rangeFunc fn f params assign body=>H0 F rnd fn (Bo [] var f) params assign body var marks s
 | .rangeMap r body=>Mu F rnd r body var marks s
def Kh:F5→Bool
 | .normal | .ret=>true
 | .exit _=>false
def Fx (P:Program) (cf:CM) (r:Option Af):Option (AV×AC):=
 r.bind fun r=>bif Kh r.exit then (Cj r.st r.marks).bind fun s=>(A2 P s r.var cf.results).bind fun l=>some (Ak l,s)else none
def DI (P:Program) (F:Bg) (args:List AV) (s:AC) (cf:Option CM):Option (AV×AC):=
 cf.bind fun cf=>bif Nat.beq args.length cf.na then Fx P cf (F.code none cf.body (Ql args cf.nv) [] s)else none
def D2 (E:EQ) (F:Bg) (f:FuncId) (args:List AV) (s:AC):Option (AV×AC):=
 match E.nat f args s with
 | some p=>some p
 | none=>DI E.P F args s (Ay E.P f)
def GR:F5→Bool
 | .normal=>true
 | _=>false
def Es:Option Code→LoopState
 | none=>.ready
 | some _=>.done
def Gt(l:Nat)(q:Option Af):Option (AV×AC):=q.bind fun q=>(EC q.st l).bind fun r =>
 some (.bool (CR q.exit).isNone,setObj q.st l (.loop { r with state:=Es (CR q.exit),pending:=CR q.exit }))
def FK(F:Bg)(l:Nat)(cb:AT)(q:Option Af):Option (AV×AC):=q.bind fun q=>bif GR q.exit then
  (EC q.st l).bind fun r=>bif ID r.state then Gt l (F.code (some l) cb q.var q.marks (setObj q.st l (.loop { r with state:=.busy })))else none
 else none
def Hh (E:EQ) (F:Bg) (l:Nat) (args:List AV) (s:AC):Option (AV×AC):=
 (EC s l).bind fun r=>(Dk (EP E.P r.fn) r.var r.params.toList args).bind fun var =>
  (Jj E.P r.fn r.assign).bind fun ca=>(Jj E.P r.fn r.body).bind fun cb=>FK F l cb (F.code (some l) ca var [] s)
def O4:Bg:=⟨fun _ _ _ _ _=>none,fun _ _ _=>none,fun _ _ _=>none⟩
def O2 (E:EQ) (F:Bg):Bg:=⟨BT F,D2 E F,Hh E F⟩
def CH (E:EQ) (n:Nat):Bg:=Nat.rec O4 (fun _ F=>O2 E F) n
structure RB where
 b:Nat
 off:Nat
 N:Nat
 sz:Nat
abbrev Aa:=Nat→Option RB
mutual
inductive AH (ρ:Aa):AV→Value→Prop
 | bool (b:Bool):AH ρ (.bool b) (.bool b)
 | int (k:IntKind) (n:Int):AH ρ (.int k n) (.int k n)
 | str {l:List Nat} {s:ByteArray} (h:s.data.toList.map (fun(b:UInt8)=>b.toNat)=l):AH ρ (.str l) (.string s)
 | ptrNil:AH ρ (.ptr none) (.pointer none)
 | ptr {i o:Nat} {rb:RB} (h:ρ i=some rb):AH ρ (.ptr (some (i,o))) (.pointer (some ⟨rb.b,rb.off+o,none⟩))
 | gptr (g o:Nat):AH ρ (.gptr g o) (.pointer (some ⟨g,o,none⟩))
 | sliceNil:AH ρ (.slice none 0 (some 0)) (.slice none 0 0)
 | slice {i o len c:Nat} {rb:RB} (h:ρ i=some rb) (hl:len≤c):AH ρ (.slice (some (i,o)) len (some c)) (.slice (some ⟨rb.b,rb.off+o,none⟩) len c)
 | sliceOpen {i o len c:Nat} {rb:RB} (h:ρ i=some rb) (hs:0<rb.sz) (hl:len≤c) (h1:o+c * rb.sz≤rb.N) (h2:rb.N<o+(c+1) * rb.sz):
   AH ρ (.slice (some (i,o)) len none) (.slice (some ⟨rb.b,rb.off+o,none⟩) len c)
 | sliceEnd {i o:Nat} {rb:RB} {a:Addr} (h:ρ i=some rb) (hs:0<rb.sz) (h1:o≤rb.N) (h2:rb.N<o+rb.sz):
   AH ρ (.slice (some (i,o)) 0 none) (.slice (some a) 0 0)
 | mapNil:AH ρ (.map none) (.map none)
 | map {i:Nat} {rb:RB} (h:ρ i=some rb):AH ρ (.map (some i)) (.map (some rb.b))
 | func {f:FuncId} {a c:List AV} {a' c':Array Value} (ha:AD ρ a a'.toList) (hc:AD ρ c c'.toList):AH ρ (.func f a c) (.func (.func f) a' c')
 | yield {i:Nat} {rb:RB} (h:ρ i=some rb):AH ρ (.yield i) (.func (.yield rb.b) #[] #[])
 | nilFunc:AH ρ .nilFunc .nilFunc
 | nilIface:AH ρ .nilIface .nilIface
 | iface {t:TypeId} {v:AV} {v':Value} (h:AH ρ v v'):AH ρ (.iface t v) (.iface t v')
 | agg {cs:List AV} {cs':Array Value} (h:AD ρ cs cs'.toList):AH ρ (.agg cs) (.agg cs')
 | tuple {cs:List AV} {cs':Array Value} (h:AD ρ cs cs'.toList):AH ρ (.tuple cs) (.tuple cs')
 | any {v':Value} (h:v'.cells.toList=[v']):AH ρ .junk v'
inductive AD (ρ:Aa):List AV→List Value→Prop
 | nil:AD ρ [] []
 | cons {v:AV} {v':Value} {l:List AV} {l':List Value} (h:AH ρ v v') (hs:AD ρ l l'):AD ρ (v::l) (v'::l')
end
def Aa.le(ρ σ:Aa):Prop:=∀i rb,ρ i=some rb→σ i=some rb
theorem Aa.le_refl(ρ:Aa):ρ.le ρ:=fun _ _ h=>h
theorem Aa.le_trans{ρ σ τ:Aa}(h:ρ.le σ)(k:σ.le τ):ρ.le τ:=fun i rb e=>k i rb (h i rb e)
mutual
theorem AH.mono{ρ σ:Aa}(le:ρ.le σ){v:AV}{v':Value}(h:AH ρ v v'):AH σ v v':=by
 cases h with
 | bool b=>exact .bool b
 | int k n=>exact .int k n
 | str h=>exact .str h
 | ptrNil=>exact .ptrNil
 | ptr h=>exact .ptr (le _ _ h)
 | gptr g o=>exact .gptr g o
 | sliceNil=>exact .sliceNil
 | slice h hl=>exact .slice (le _ _ h) hl
 | sliceOpen h hs hl h1 h2=>exact .sliceOpen (le _ _ h) hs hl h1 h2
 | sliceEnd h hs h1 h2=>exact .sliceEnd (le _ _ h) hs h1 h2
 | mapNil=>exact .mapNil
 | map h=>exact .map (le _ _ h)
 | func ha hc=>exact .func (AD.mono le ha) (AD.mono le hc)
 | yield h=>exact .yield (le _ _ h)
 | nilFunc=>exact .nilFunc
 | nilIface=>exact .nilIface
 | iface h=>exact .iface (AH.mono le h)
 | agg h=>exact .agg (AD.mono le h)
 | tuple h=>exact .tuple (AD.mono le h)
 | any h=>exact .any h
theorem AD.mono{ρ σ:Aa}(le:ρ.le σ){v:List AV}{v':List Value}(h:AD ρ v v'):AD σ v v':=by
 cases h with
 | nil=>exact .nil
 | cons h hs=>exact .cons (AH.mono le h) (AD.mono le hs)
end
section lists
variable{ρ:Aa}
theorem AD.length{l:List AV}{l':List Value}(h:AD ρ l l'):l.length=l'.length:=by
 induction l generalizing l' with
 | nil=>cases h;rfl
 | cons a l ih=>cases h with | cons h hs=>simp[ih hs]
theorem AD.get{l:List AV}{l':List Value}(h:AD ρ l l'){k:Nat}{v:AV}(hk:l[k]? = some v):∃v',l'[k]? = some v'∧AH ρ v v':=by
  induction l generalizing l' k with
  | nil=>simp at hk
  | cons a l ih =>
    cases h with
    | cons h hs =>
      cases k with
      | zero=>simp at hk;subst hk;exact⟨_,rfl,h⟩
      | succ k=>simp at hk;obtain⟨v',h1,h2⟩:=ih hs hk;exact⟨v',by simpa using h1,h2⟩
theorem AD.of_get{l:List AV}{l':List Value}(hl:l.length=l'.length)(h:∀ (k:Nat)(v:AV)(v':Value),l[k]? = some v→l'[k]? = some v'→AH ρ v v'):AD ρ l l':=by
  induction l generalizing l' with
  | nil=>cases l' with | nil=>exact .nil | cons=>simp at hl
  | cons a l ih =>
    cases l' with
    | nil=>simp at hl
    | cons a' l'=>exact .cons (h 0 a a' rfl rfl) (ih (by simpa using hl) fun k v v' h1 h2=>h (k+1) v v' (by simpa using h1) (by simpa using h2))
theorem AD.append{l m:List AV}{l' m':List Value}(h:AD ρ l l')(k:AD ρ m m'):AD ρ (l++m) (l'++m'):=by
 induction l generalizing l' with
 | nil=>cases h;exact k
 | cons a l ih=>cases h with | cons h hs=>exact .cons h (ih hs)
theorem AD.take{l:List AV}{l':List Value}(h:AD ρ l l')(n:Nat):AD ρ (l.take n) (l'.take n):=by
  induction l generalizing l' n with
  | nil=>cases h;simp;exact .nil
  | cons a l ih =>
    cases h with
    | cons h hs=>cases n with
      | zero=>exact .nil
      | succ n=>exact .cons h (ih hs n)
theorem AD.drop{l:List AV}{l':List Value}(h:AD ρ l l')(n:Nat):AD ρ (l.drop n) (l'.drop n):=by
  induction l generalizing l' n with
  | nil=>cases h;simp;exact .nil
  | cons a l ih =>
    cases h with
    | cons h hs=>cases n with
      | zero=>exact .cons h hs
      | succ n=>exact ih hs n
theorem AH.cells{v:AV}{v':Value}(h:AH ρ v v'):AD ρ v.cells v'.cells.toList:=by
 cases h with
 | agg h=>exact h
 | bool b=>exact .cons (.bool b) .nil
 | int k n=>exact .cons (.int k n) .nil
 | str h=>exact .cons (.str h) .nil
 | ptrNil=>exact .cons .ptrNil .nil
 | ptr h=>exact .cons (.ptr h) .nil
 | gptr g o=>exact .cons (.gptr g o) .nil
 | sliceNil=>exact .cons .sliceNil .nil
 | slice h hl=>exact .cons (.slice h hl) .nil
 | sliceOpen h hs hl h1 h2=>exact .cons (.sliceOpen h hs hl h1 h2) .nil
 | sliceEnd h hs h1 h2=>exact .cons (.sliceEnd h hs h1 h2) .nil
 | mapNil=>exact .cons .mapNil .nil
 | map h=>exact .cons (.map h) .nil
 | func ha hc=>exact .cons (.func ha hc) .nil
 | yield h=>exact .cons (.yield h) .nil
 | nilFunc=>exact .cons .nilFunc .nil
 | nilIface=>exact .cons .nilIface .nil
 | iface h=>exact .cons (.iface h) .nil
 | tuple h=>exact .cons (.tuple h) .nil
 | any h=>rw[h];exact .cons (.any h) .nil
theorem AH.oneCell{v:AV}{v':Value}(h:AH ρ v v')(hc:v.isCell=true):v'.oneCell'=true:=by
 cases h<;>first | rfl | cases hc
theorem AD.oneCell{l:List AV}{l':List Value}(h:AD ρ l l')(hc:Aj l=true):∀v∈l',v.oneCell'=true:=by
  induction l generalizing l' with
  | nil=>cases h;simp
  | cons a l ih =>
    cases h with
    | cons h hs =>
      simp only[Aj,Bool.and_eq_true]at hc
      intro v hv
      rcases List.mem_cons.1 hv with rfl | hv
      · exact h.oneCell hc.1
      · exact ih hs hc.2 v hv
end lists
theorem Ei(ρ:Aa){v:Value}{a:AV}(h:Eh v=some a):AH ρ a v:=by
 unfold Eh at h
 split at h<;>first
  | (injection h with h;subst h;first | exact .bool _ | exact .int _ _ | exact .str rfl | exact .ptrNil | exact .sliceNil | exact .mapNil | exact .nilFunc | exact .nilIface)
  | cases h
theorem Cg(ρ:Aa):∀ {l:List Value}{r:List AV},CJ l=some r→AD ρ r l
 | [],r,h=>by simp[CJ]at h;subst h;exact .nil
 | v::l,r,h=>by
  simp only[CJ,Pk]at h
  obtain⟨a,ha,r',hr,h⟩:=h
  injection h with h;subst h
  exact .cons (Ei ρ ha) (Cg ρ hr)
theorem Av(ρ:Aa){v:Value}{a:AV}(h:ofValue v=some a):AH ρ a v:=by
 unfold ofValue at h
 split at h
 ·simp only[Pk]at h
  obtain⟨l,hl,h⟩:=h
  injection h with h;subst h
  exact .agg (Cg ρ hl)
 ·simp only[Pk]at h
  obtain⟨l,hl,h⟩:=h
  injection h with h;subst h
  exact .tuple (Cg ρ hl)
 ·exact Ei ρ h
theorem Bf(ρ:Aa):AH ρ As undef:=.tuple .nil
theorem AA{α:Type}{b:Bool}{x:Option α}{a:α}(h:AE b x=some a):b=true∧x=some a:=by
 cases b with
 | true=>exact⟨rfl,h⟩
 | false=>cases h
inductive Bx (ρ:Aa):List (AV×AV)→List MapEntry→Prop
 | nil:Bx ρ [] []
 | cons {k v:AV} {e:MapEntry} {l:List (AV×AV)} {l':List MapEntry} (hk:AH ρ k e.key) (hv:AH ρ v e.val) (hs:Bx ρ l l'):Bx ρ ((k,v)::l) (e::l')
theorem Bx.mono{ρ σ:Aa}(le:ρ.le σ){l:List (AV×AV)}{l':List MapEntry}(h:Bx ρ l l'):Bx σ l l':=by
 induction h with
 | nil=>exact .nil
 | cons hk hv _ ih=>exact .cons (hk.mono le) (hv.mono le) ih
theorem Bx.length{ρ:Aa}{l:List (AV×AV)}{l':List MapEntry}(h:Bx ρ l l'):l.length=l'.length:=by
 induction h with
 | nil=>rfl
 | cons _ _ _ ih=>simp[ih]
structure FR(P:Program)(ρ:Aa)(w:World)(kt:TypeId)(es:List (AV×AV))(rb:RB):Prop where
 ex:∃ (es':Array MapEntry) (clock:Nat),w.heap[rb.b]? = some (.map es' clock)∧MapKept.Stamped es' clock∧(∃l,l.Perm es'.toList∧Bx ρ es l)∧∀e∈es'.toList,∃l,keyOf P kt e.key=some l
structure BI(ρ:Aa)(w:World)(r:Bw)(rb:RB):Prop where
 cells:∀k v,k<r.n→r.c.get k=some v→∃v',w.cell? ⟨rb.b,rb.off+k,none⟩=some v'∧AH ρ v v'
 le:r.n≤rb.N
 sz:r.sz=rb.sz
 tight:r.spare=false→rb.N=r.n
 own:r.mode≠.ro→∃cs,w.heap[rb.b]? = some (.cells cs r.elem (0,0))∧rb.off+rb.N≤cs.size
 base:r.bytes=true→rb.off=0
 gl:∀g,r.glob=some g→rb.b=g∧rb.off=0
 par:∀p,r.par=some p→∃rp,ρ p=some rp
def Bv(ρ:Aa)(vars:List Tmp)(var:List AV)(tmps:Array Value):Prop:=
 ∀ (t:Tmp) (k:Nat),AQ vars t=some k→t<tmps.size∧∃v:AV,var[k]? = some v∧AH ρ v (tmps.getD t undef)
end
end Go.Proofs.YtniabnfoflogaaaGreatDoor.Am
set_option linter.unusedVariables false
set_option linter.unusedSimpArgs false
namespace Go.Proofs.YtniabnfoflogaaaGreatDoor.Am
open Go
noncomputable section
theorem Cq{α:Type}{P:Program}{w:World}:∀ {s:Sem α}{a:α},Ch P s=some a→s.run P w=.ok a w:=by
 intro s
 induction s with
 | pure b=>intro a h;simp[Ch]at h;subst h;rfl
 | program k ih=>intro a h;simp only[Ch]at h;simp only[Sem.run];exact ih P h
 | mark m k ih=>intro a h;simp only[Ch]at h;simp only[Sem.run];exact ih h
 | load=>intro a h;simp[Ch]at h
 | store=>intro a h;simp[Ch]at h
 | new=>intro a h;simp[Ch]at h
 | shape=>intro a h;simp[Ch]at h
 | freeze=>intro a h;simp[Ch]at h
 | frozen=>intro a h;simp[Ch]at h
 | getObj=>intro a h;simp[Ch]at h
 | setObj=>intro a h;simp[Ch]at h
 | choose=>intro a h;simp[Ch]at h
 | sys=>intro a h;simp[Ch]at h
 | halt=>intro a h;simp[Ch]at h
section types
variable{P:Program}{w:World}{t:TypeId}
theorem AB{d:TypeDesc}(h:P.underlying t=some d):(underlying t).run P w=.ok d w:=by simp[underlying,h]
theorem Dh{g:Bool}(h:ES P t=some g):(isAgg t).run P w=.ok g w:=by
 unfold ES at h
 split at h
 ·injection h with h;subst h;simp[isAgg,underlying, *]
 ·injection h with h;subst h;simp[isAgg,underlying, *]
 ·rename_i d _ _ hd
  injection h with h;subst h
  simp only[isAgg,Sem.run_bind,AB hd,Result.andThen_ok]
  cases d<;>simp_all
 ·cases h
theorem AR{n:Nat}(h:Ah P t=some n):(sizeOf t).run P w=.ok n w:=by
 unfold Ah at h
 split at h
 ·injection h with h;subst h;simp[sizeOf,typeInfo, *]
 ·cases h
theorem LP{n:Nat}(h:Bj P t=some n):∃i,(typeInfo t).run P w=.ok i w∧i.bytes=n:=by
 unfold Bj at h
 split at h
 ·injection h with h;rename_i i hi;exact⟨i,by simp[typeInfo,hi],h⟩
 ·cases h
theorem Eo(ρ:Aa){z:AV}(h:B9 P t=some z):∃v,(zeroValue t).run P w=.ok v w∧AH ρ z v:=by
  unfold B9 at h
  split at h
  · split at h
    · rename_i i hi _ v hv
      exact⟨v,by simp[zeroValue,typeInfo,hi,hv],Av ρ h⟩
    · cases h
  · cases h
end types
theorem F4{k:IntKind}{n:Int}(h:BG k n=true):k.wrap n=n:=by
 have hb:k.min≤n∧n≤k.max:=by
  unfold BG at h
  cases n with
  | ofNat m=>cases k<;>simp[Pn]at h<;>simp[IntKind.min,IntKind.max,IntKind.signed,IntKind.bits]<;>omega
  | negSucc m=>cases k<;>simp[Pn]at h<;>simp[IntKind.min,IntKind.max,IntKind.signed,IntKind.bits]<;>omega
 cases k<;>simp[IntKind.min,IntKind.max,IntKind.signed,IntKind.bits]at hb<;>simp only[IntKind.wrap,IntKind.signed,IntKind.bits]<;>simp<;>omega
theorem DY(k:IntKind)(n:Int):Ct k n=k.wrap n:=by
 unfold Ct
 cases h:BG k n with
 | true=>simp[F4 h]
 | false=>rfl
theorem B4(a b:Int):Ib a b=decide (a<b):=by
 cases a with
 | ofNat a=>cases b with
  | ofNat b=>rw[Bool.eq_iff_iff];simp only[Ib,Pt,decide_eq_true_iff,QN];omega
  | negSucc b=>simp only[Ib];rw[eq_comm,decide_eq_false_iff_not];simp only[QN];omega
 | negSucc a=>cases b with
  | ofNat b=>simp only[Ib];rw[eq_comm,decide_eq_true_iff];simp only[QN];omega
  | negSucc b=>rw[Bool.eq_iff_iff];simp only[Ib,Pt,decide_eq_true_iff];omega
theorem D6(a b:Int):LW a b=(a == b):=by
 rw[Bool.eq_iff_iff,beq_iff_eq]
 cases a with
 | ofNat a=>cases b with
  | ofNat b=>simp only[LW,P9,QN];omega
  | negSucc b=>simp[LW]
 | negSucc a=>cases b with
  | ofNat b=>simp[LW]
  | negSucc b=>simp only[LW,P9];omega
theorem BO{k k':IntKind}(h:Ca k k'=true):k=k':=by cases k<;>cases k'<;>first | rfl | cases h
theorem MH{n:Int}{m:Nat}(h:JE n=some m):n=(m:Int):=by cases n<;>simp[JE]at h;subst h;rfl
theorem L9{P:Program}{ρ:Aa}{op:BinOp}{k:IntKind}{a b:Int}{v:AV}(h:L8 P op k a b=some v)(t:TypeId)(w:World):
  ∃v',(Go.binOp op t (.int k a) (.int k b)).run P w=.ok v' w∧AH ρ v v':=by
 unfold L8 at h
 split at h
 case h_1=>injection h with h;subst h;exact⟨.int k (k.wrap (a+b)),by simp[Go.binOp,Op.intArith],by rw[DY];exact .int _ _⟩
 case h_2=>injection h with h;subst h;exact⟨.int k (k.wrap (a - b)),by simp[Go.binOp,Op.intArith],by rw[DY];exact .int _ _⟩
 case h_3=>injection h with h;subst h;exact⟨.int k (k.wrap (a * b)),by simp[Go.binOp,Op.intArith],by rw[DY];exact .int _ _⟩
 case h_4=>injection h with h;subst h;exact⟨.bool (a == b),by simp[Go.binOp,Op.intCmp],by rw[D6];exact .bool _⟩
 case h_5=>injection h with h;subst h;exact⟨.bool (a != b),by simp[Go.binOp,Op.intCmp],by rw[D6];exact .bool _⟩
 case h_6=>injection h with h;subst h;exact⟨.bool (a<b),by simp[Go.binOp,Op.intCmp],by rw[B4];exact .bool _⟩
 case h_7=>injection h with h;subst h;exact⟨.bool (a≤b),by simp[Go.binOp,Op.intCmp],by rw[B4,show(!decide (b<a))=decide (a≤b)from by rw[Bool.eq_iff_iff];simp];exact .bool _⟩
 case h_8=>injection h with h;subst h;exact⟨.bool (a > b),by simp[Go.binOp,Op.intCmp],by rw[B4];exact .bool _⟩
 case h_9=>injection h with h;subst h;exact⟨.bool (a≥b),by simp[Go.binOp,Op.intCmp],by rw[B4,show(!decide (a<b))=decide (a≥b)from by rw[Bool.eq_iff_iff];simp];exact .bool _⟩
 case h_10 =>
  simp only[Pk]at h
  obtain⟨u,hu,h⟩:=h
  exact⟨u,by have:=Cq (w:=w) hu;simpa[Go.binOp]using this,Av ρ h⟩
 case h_11 =>
  simp only[Pk]at h
  obtain⟨u,hu,h⟩:=h
  exact⟨u,by have:=Cq (w:=w) hu;simpa[Go.binOp]using this,Av ρ h⟩
 case h_12=>cases h
 case h_13=>cases h
 case h_14 =>
  simp only[Pk]at h
  obtain⟨u,hu,h⟩:=h
  refine⟨u,?_,Av ρ h⟩
  have:=Cq (w:=w) hu
  rename_i n1 n2 n3 n4 n5 n6 n7 n8 n9 n10 n11 n12 n13
  cases op<;>first | (exfalso;simp at *;done) | simpa[Go.binOp]using this
abbrev Bn(l:List UInt8):List Nat:=l.map (fun(b:UInt8)=>b.toNat)
theorem toNat_inj{a b:UInt8}(h:a.toNat=b.toNat):a=b:=UInt8.toNat_inj.1 h
theorem EN:∀ (x y:List UInt8),BU (Bn x) (Bn y)=(x == y)
 | [],[]=>rfl
 | [],_::_=>rfl
 | _::_,[]=>rfl
 | a::x,b::y=>by
  simp only[Bn,QA,BU]
  by_cases e:a=b
  ·subst e
   have:Nat.beq a.toNat a.toNat=true:=by simp[P9]
   rw[this]
   have ih:=EN x y
   simp only[Bn]at ih
   simp[ih]
  ·have:Nat.beq a.toNat b.toNat=false:=AG.beq_no (fun h=>e (toNat_inj h))
   rw[this]
   simp[e]
theorem G3:∀ (x y:List UInt8),DX (Bn x) (Bn y)=Op.bytesLess x y
 | [],[]=>rfl
 | [],_::_=>rfl
 | _::_,[]=>rfl
 | a::x,b::y=>by
  simp only[Bn,QA,DX,Op.bytesLess]
  have ih:=G3 x y
  simp only[Bn]at ih
  have h1:Nat.blt a.toNat b.toNat=decide (a<b):=by rw[Bool.eq_iff_iff];simp[Pt,UInt8.lt_iff_toNat_lt]
  have h2:Nat.beq a.toNat b.toNat=(a == b):=by
   rw[Bool.eq_iff_iff,beq_iff_eq,P9]
   exact⟨fun h=>toNat_inj h,fun h=>by rw[h]⟩
  rw[h1,h2,ih]
  cases decide (a<b)<;>cases (a == b)<;>rfl
theorem Cs(s:ByteArray):(Bn s.data.toList).length=s.size:=by simp[Bn]
theorem Mb{P:Program}{ρ:Aa}{op:BinOp}{x y:ByteArray}{v:AV}(h:Kq op (Bn x.data.toList) (Bn y.data.toList)=some v)(w:World):
  ∃v',(Op.stringOp op x y).run P w=.ok v' w∧AH ρ v v':=by
 unfold Kq at h
 rw[EN,G3,Cs,Cs]at h
 unfold Op.stringOp
 rw[ByteArray.toList_eq,ByteArray.toList_eq]
 split at h
 case h_1 =>
  obtain⟨hb,h⟩:=AA h
  injection h with h;subst h
  have hb':x.size+y.size≤1152921504606846976:=by simpa[Pn]using hb
  refine⟨.string (x++y),?_,.str (by simp[Bn])⟩
  have:¬ ((x.size+y.size:Nat):Int) > IntKind.i64.max:=by simp[IntKind.max,IntKind.signed,IntKind.bits];omega
  simp only[this,if_false]
  rfl
 case h_2=>injection h with h;subst h;exact⟨_,rfl,.bool _⟩
 case h_3=>injection h with h;subst h;exact⟨_,rfl,.bool _⟩
 case h_4=>injection h with h;subst h;exact⟨_,rfl,.bool _⟩
 case h_5=>injection h with h;subst h;exact⟨_,rfl,.bool _⟩
 case h_6=>injection h with h;subst h;exact⟨_,rfl,.bool _⟩
 case h_7=>injection h with h;subst h;exact⟨_,rfl,.bool _⟩
 case h_8=>cases h
section
variable{P:Program}{ρ:Aa}{w:World}
theorem Fc{t:TypeId}(h:DN P t=true):∃e,P.underlying t=some (.pointer e):=by
 unfold DN at h;split at h
 ·rename_i e he;exact⟨e,he⟩
 ·cases h
theorem Dt{t:TypeId}(h:Eb P t=true):∃e,P.underlying t=some (.slice e):=by
 unfold Eb at h;split at h
 ·rename_i e he;exact⟨e,he⟩
 ·cases h
theorem Fb{t:TypeId}(h:FB P t=true):∃k e,P.underlying t=some (.map k e):=by
 unfold FB at h;split at h
 ·rename_i k e he;exact⟨k,e,he⟩
 ·cases h
theorem C0{t:TypeId}(h:Ea P t=true):∃a b c,P.underlying t=some (.func a b c):=by
 unfold Ea at h;split at h
 ·rename_i a b c he;exact⟨a,b,c,he⟩
 ·cases h
theorem IC{t:TypeId}(h:IB P t=true):P.underlying t=some .bool:=by
 unfold IB at h;split at h
 ·rename_i he;exact he
 ·cases h
set_option maxHeartbeats 1000000 in
theorem OI{t:TypeId}{x y:AV}{x' y':Value}{b:Bool}(h:M0 P t x y=some b)(hx:AH ρ x x')(hy:AH ρ y y')(d:Nat):
  (Op.equalIn (d+1) t x' y').run P w=.ok b w:=by
 unfold M0 at h
 split at h
 all_goals first | (cases h;done) | skip
 ·obtain⟨ht,h⟩:=AA h
  injection h with h;subst h
  cases hx;cases hy
  simp[Op.equalIn,AB (IC ht)]
 ·obtain⟨ht,h⟩:=AA h
  injection h with h;subst h
  obtain⟨e,ht⟩:=Fc ht
  cases hx;cases hy<;>simp[Op.equalIn,AB ht]
 ·obtain⟨ht,h⟩:=AA h
  injection h with h;subst h
  obtain⟨e,ht⟩:=Fc ht
  cases hy;cases hx<;>simp[Op.equalIn,AB ht]
 ·obtain⟨ht,h⟩:=AA h
  injection h with h;subst h
  obtain⟨e,ht⟩:=Dt ht
  cases hx;cases hy<;>simp[Op.equalIn,AB ht]
 ·obtain⟨ht,h⟩:=AA h
  injection h with h;subst h
  obtain⟨e,ht⟩:=Dt ht
  cases hy;cases hx<;>simp[Op.equalIn,AB ht]
 ·obtain⟨ht,h⟩:=AA h
  injection h with h;subst h
  obtain⟨k,e,ht⟩:=Fb ht
  cases hx;cases hy<;>simp[Op.equalIn,AB ht]
 ·obtain⟨ht,h⟩:=AA h
  injection h with h;subst h
  obtain⟨k,e,ht⟩:=Fb ht
  cases hy;cases hx<;>simp[Op.equalIn,AB ht]
 ·obtain⟨ht,h⟩:=AA h
  injection h with h;subst h
  obtain⟨a,b,c,ht⟩:=C0 ht
  cases hy;cases hx;simp[Op.equalIn,AB ht]
 ·obtain⟨ht,h⟩:=AA h
  injection h with h;subst h
  obtain⟨a,b,c,ht⟩:=C0 ht
  cases hy;cases hx;simp[Op.equalIn,AB ht]
 ·obtain⟨ht,h⟩:=AA h
  injection h with h;subst h
  obtain⟨a,b,c,ht⟩:=C0 ht
  cases hy;cases hx;simp[Op.equalIn,AB ht]
theorem Lv{t:TypeId}{x y:AV}{x' y':Value}{b:Bool}(h:M0 P t x y=some b)(hx:AH ρ x x')(hy:AH ρ y y'):
  (Op.equal t x' y').run P w=.ok b w:=OI h hx hy 9999
def MO:Value→Bool
 | .nilIface | .agg _=>false
 | _=>true
theorem CQ{x':Value}(h:MO x'=true)(op:BinOp)(t:TypeId)(ox oy:Operand)(y':Value):
  (eqGuard op t ox oy x' y').run P w=.ok () w:=by
 cases x'<;>first | (cases h;done) | (cases op<;>rfl)
theorem HN{t:TypeId}{x y:AV}{x':Value}{b:Bool}(h:M0 P t x y=some b)(hx:AH ρ x x'):MO x'=true:=by
 unfold M0 at h
 split at h<;>first | (cases h;done) | (cases hx<;>rfl)
theorem KU      {op : BinOp} {t : TypeId} {x y v : AV} {x' y' : Value} (h : Aw   P op t x y = some v) (hx : AH   ρ x x') (hy : AH   ρ y y') (ox oy : Operand) :
    ∃v',(do eqGuard op t ox oy x' y';Go.binOp op t x' y').run P w=.ok v' w∧AH ρ v v':=by
  unfold Aw at h
  split at h
  · cases hx;cases hy
    rename_i k a k' b
    rw[Sem.run_bind,CQ rfl]
    simp only[Result.andThen_ok]
    split at h
    · simp only[Pk]at h
      obtain⟨u,hu,h⟩:=h
      exact⟨u,by have:=Cq (w:=w) hu;simpa[Go.binOp]using this,Av ρ h⟩
    · simp only[Pk]at h
      obtain⟨u,hu,h⟩:=h
      exact⟨u,by have:=Cq (w:=w) hu;simpa[Go.binOp]using this,Av ρ h⟩
    · obtain⟨hk,h2⟩:=AA h
      have hkk:=BO hk
      subst hkk
      exact L9 h2 t w
  · cases hx;cases hy
    rename_i a b s1 h1 s2 h2
    subst h1;subst h2
    rw[Sem.run_bind,CQ rfl]
    simp only[Result.andThen_ok]
    obtain⟨v',h1,h2⟩:=Mb (P:=P) (ρ:=ρ) h w
    refine⟨v',?_,h2⟩
    rw[← h1]
    cases op<;>first | rfl | (simp[Kq]at h;done)
  · split at h
    · simp only[Pk]at h
      obtain⟨b,hb,h⟩:=h
      injection h with h;subst h
      rw[Sem.run_bind,CQ (HN hb hx)]
      simp only[Result.andThen_ok]
      refine⟨.bool b,?_,.bool b⟩
      have he:=Lv (w:=w) hb hx hy
      have:Go.binOp .eql t x' y'=(do pure (.bool (← Op.equal t x' y')):Sem Value):=by
        unfold M0 at hb
        split at hb<;>first | (cases hb;done) | (cases hx<;>cases hy<;>rfl)
      rw[this,Sem.run_bind,he]
      rfl
    · simp only[Pk]at h
      obtain⟨b,hb,h⟩:=h
      injection h with h;subst h
      rw[Sem.run_bind,CQ (HN hb hx)]
      simp only[Result.andThen_ok]
      refine⟨.bool (!b),?_,.bool _⟩
      have he:=Lv (w:=w) hb hx hy
      have:Go.binOp .neq t x' y'=(do pure (.bool (!(← Op.equal t x' y'))):Sem Value):=by
        unfold M0 at hb
        split at hb<;>first | (cases hb;done) | (cases hx<;>cases hy<;>rfl)
      rw[this,Sem.run_bind,he]
      rfl
    · cases h
theorem OT{op:UnOp}{x v:AV}{x':Value}(h:Ks P op x=some v)(hx:AH ρ x x'):
  ∃v',(Op.unary op x').run P w=.ok v' w∧AH ρ v v':=by
 unfold Ks at h
 split at h
 ·cases hx
  rename_i k n
  split at h
  ·injection h with h;subst h
   exact⟨.int k (k.wrap (0 - n)),rfl,by rw[DY];exact .int _ _⟩
  ·simp only[Pk]at h
   obtain⟨u,hu,h⟩:=h
   exact⟨u,Cq hu,Av ρ h⟩
  ·cases h
 ·cases hx
  split at h
  ·injection h with h;subst h
   exact⟨_,rfl,.bool _⟩
  ·cases h
 ·cases h
theorem II{x v:AV}{x':Value}(h:Df x=some v)(hx:AH ρ x x')(ev:Operand→Value)(o:Oper)(y:Operand)(ho:o.op=.nilCheck y)(he:ev y=x'):
  ∃v',(execOp ev o).run P w=.ok (.value v') w∧AH ρ v v':=by
 unfold Df at h
 split at h<;>first | (cases h;done) | skip
 injection h with h;subst h
 refine⟨x',?_,hx⟩
 cases hx<;>first | (simp only[execOp,ho,he];done) | (simp only[execOp,ho,he];rfl) | (exfalso;simp_all;done)
theorem Iv{x v:AV}{i:Nat}{x':Value}(h:Xy x i=some v)(hx:AH ρ x x'):
  ∃v',(Instr.extract x' i).run P w=.ok v' w∧AH ρ v v':=by
 unfold Xy at h
 split at h<;>first | (cases h;done) | skip
 cases hx with
 | tuple hs =>
  rename_i cs'
  obtain⟨v',h1,h2⟩:=hs.get h
  refine⟨v',?_,h2⟩
  have:cs'[i]? = some v':=by rw[← Array.getElem?_toList];exact h1
  simp[Instr.extract,this]
theorem JM{t:TypeId}{cs:List AV}{cs':Array Value}{off:Nat}{v:AV}(h:Km P t cs off=some v)(hc:AD ρ cs cs'.toList):
  ∃v',(part t cs' off).run P w=.ok v' w∧AH ρ v v':=by
 unfold Km at h
 simp only[Pk]at h
 obtain⟨g,hg,h⟩:=h
 cases g with
 | true =>
  simp only[Pk]at h
  obtain⟨n,hn,h⟩:=h
  injection h with h;subst h
  refine⟨.agg (cs'.extract off (off+n)),by simp[part,Dh hg,AR hn],.agg ?_⟩
  have:(cs'.extract off (off+n)).toList=(cs'.toList.drop off).take n:=by
   rw[Array.toList_extract,List.extract_eq_take_drop]
   congr 1
   omega
  rw[this]
  exact(hc.drop off).take n
 | false =>
  obtain⟨v',h1,h2⟩:=hc.get h
  refine⟨v',?_,h2⟩
  have:cs'[off]? = some v':=by rw[← Array.getElem?_toList];exact h1
  simp[part,Dh hg,this]
theorem GP{x:AV}{x':Value}{k:Nat}(h:FZ x=some k)(hx:AH ρ x x'):∃kd,x'=.int kd (k:Int):=by
 unfold FZ at h
 split at h<;>first | (cases h;done) | skip
 cases hx
 rename_i kd n
 exact⟨kd,by rw[MH h]⟩
theorem K7{t:TypeId}{x v:AV}{x':Value}{f:Nat}(h:Jq P t x f=some v)(hx:AH ρ x x'):
  ∃v',(Instr.field t x' f).run P w=.ok v' w∧AH ρ v v':=by
 unfold Jq at h
 split at h<;>first | (cases h;done) | skip
 split at h<;>first | (cases h;done) | skip
 rename_i fs hfs
 simp only[Pk]at h
 obtain⟨fd,hfd,h⟩:=h
 cases hx with
 | agg hs =>
  obtain⟨v',h1,h2⟩:=JM (w:=w) h hs
  exact⟨v',by simp[Instr.field,AB hfs,hfd,asAgg,h1],h2⟩
theorem LC        {t : TypeId} {x ix v : AV} {x' ix' : Value} (h : Jt     P t x ix = some v) (hx : AH   ρ x x') (hi : AH   ρ ix ix') :
    ∃v',(Instr.index t x' ix').run P w=.ok v' w∧AH ρ v v':=by
  unfold Jt at h
  simp only[Pk]at h
  obtain⟨k,hk,h⟩:=h
  obtain⟨kd,rfl⟩:=GP hk hi
  split at h<;>first | (cases h;done) | skip
  · split at h<;>first | (cases h;done) | skip
    rename_i len e he
    simp only[Pk]at h
    obtain⟨n,hn,h⟩:=h
    obtain⟨hlt,h⟩:=AA h
    have hlt':k<len:=by simpa[Pt]using hlt
    cases hx with
    | agg hs =>
      obtain⟨v',h1,h2⟩:=JM (w:=w) h hs
      refine⟨v',?_,h2⟩
      have:(0:Int)≤(k:Int)∧(k:Int)<(len:Int):=by omega
      simp only[Instr.index,asIntOf,Sem.run_bind,Sem.run_pure,Result.andThen_ok,AB he,this,and_self,if_true,AR hn]
      simpa using h1
  · split at h <;> first | (cases h; done) | skip
    rename_i l _ he
    simp only[Pk]at h
    obtain⟨b,hb,h⟩:=h
    injection h with h;subst h
    cases hx with
    | str hs =>
      rename_i s
      subst hs
      rw[P3]at hb
      simp only[Option.map_eq_some_iff]at hb
      obtain⟨u,hu,rfl⟩:=hb
      refine⟨.int .u8 u.toNat,?_,.int _ _⟩
      have h0:(0:Int)≤(k:Int):=by omega
      have:s[k]? = some u:=by
        rw[← hu]
        rcases Pm k s.size with hlt | hge
        · rw [getElem?_pos s k hlt, Po                       (by simpa using hlt)]
          rfl
        · rw[getElem?_neg s k (by omega),Pr (by simpa using hge)]
      simp[Instr.index,asIntOf,AB he,this]
end
structure DG(P:Program)(ρ:Aa)(w:World)(l:F6)(rb:RB):Prop where
 ex:∃L:Loop,w.heap[rb.b]? = some (.loop L)∧L.state=l.state∧L.pending=l.pending∧L.params=l.params∧L.assign=l.assign∧L.body=l.body ∧
  (∃rd,ρ l.dfr=some rd∧L.defers=rd.b)∧Bv ρ (EP P l.fn) l.var L.tmps∧(∀fn,P.funcs[l.fn]? = some fn→fn.ntmps≤L.tmps.size)∧l.var.length=(EP P l.fn).length
def Ck(P:Program)(ρ:Aa)(w:World):Ad→RB→Prop
 | .row r,rb=>BI ρ w r rb
 | .map kt es,rb=>FR P ρ w kt es rb
 | .mapRo kt es,rb=>FR P ρ w kt es rb
 | .loop l,rb=>DG P ρ w l rb
 | .mark,rb=>w.heap[rb.b]? = some (.deferred (some []))
 | .iter _ _,_=>False
def wr:Ad→Bool
 | .row r=>B5 r.mode
 | .mapRo _ _=>false
 | _=>true
def Ha:Ad→Option Nat
 | .row r=>r.par
 | _=>none
def Cz:Ad→Option Nat
 | .row r=>r.glob
 | _=>none
structure Ac(P:Program)(ρ:Aa)(s:AC)(w:World):Prop where
 obj:∀i o rb,s.heap.get i=some o→ρ i=some rb→Ck P ρ w o rb
 lt:∀i rb,ρ i=some rb→rb.b<w.heap.size
 sep:∀i j oi oj ri rj,i≠j→s.heap.get i=some oi→s.heap.get j=some oj→ρ i=some ri→ρ j=some rj→ri.b=rj.b→wr oj=true→Ha oj=some i∧wr oi=false
 glb:∀i o g,s.heap.get i=some o→Cz o=some g→∃rb,ρ i=some rb
def DC(ρ:Aa)(s:AC)(b:Nat):Prop:=∃i o rb,s.heap.get i=some o∧wr o=true∧ρ i=some rb∧rb.b=b
structure Fr(ρ:Aa)(s:AC)(w:World)(ρ':Aa)(s':AC)(w':World):Prop where
 le:ρ.le ρ'
 fresh:∀i,ρ i=none→(i<s.next∨s'.next≤i)→ρ' i=none
 next:s.next≤s'.next
 size:w.heap.size≤w'.heap.size
 os:w'.os=w.os
 tape:w'.tape=w.tape
 output:w'.output=w.output
 keep:∀b,b<w.heap.size→¬ DC ρ s b→w'.heap[b]? = w.heap[b]?
 own:∀b,DC ρ' s' b→DC ρ s b∨w.heap.size≤b
 unborn:∀i,ρ i=none→(i<s.next∨s'.next≤i)→s'.heap.get i=s.heap.get i
section
variable{P:Program}{ρ ρ1 ρ2:Aa}{s s1 s2:AC}{w w1 w2:World}
theorem Fr.refl(ρ:Aa)(s:AC)(w:World):Fr ρ s w ρ s w:=
 ⟨Aa.le_refl ρ,fun _ h _=>h,Pl _,Pl _,rfl,rfl,rfl,fun _ _ _=>rfl,fun _ h=>.inl h,fun _ _ _=>rfl⟩
theorem Fr.trans(h:Fr ρ s w ρ1 s1 w1)(k:Fr ρ1 s1 w1 ρ2 s2 w2):Fr ρ s w ρ2 s2 w2 where
 le:=Aa.le_trans h.le k.le
 fresh:=fun i hi hr=>k.fresh i (h.fresh i hi (hr.imp id (fun h'=>Pu k.next h'))) (hr.imp (fun h'=>Pp h' h.next) id)
 next:=Pu h.next k.next
 size:=Pu h.size k.size
 os:=k.os.trans h.os
 tape:=k.tape.trans h.tape
 output:=k.output.trans h.output
 keep:=fun b hb ho=>(k.keep b (Pp hb h.size) (fun ho1=>(h.own b ho1).elim ho (fun hge=>by omega))).trans (h.keep b hb ho)
 own:=fun b hb=>(k.own b hb).elim (fun h1=>h.own b h1) (fun hge=>.inr (Pu h.size hge))
 unborn:=fun i hi hr=>(k.unborn i (h.fresh i hi (hr.imp id (fun h'=>Pu k.next h'))) (hr.imp (fun h'=>Pp h' h.next) id)).trans (h.unborn i hi (hr.imp id (fun h'=>Pu k.next h')))
theorem EV{a:Addr}(h:w1.heap[a.block]? = w.heap[a.block]?):w1.cell? a=w.cell? a:=by simp[World.cell?,h]
theorem Bv.mono{σ:Aa}(le:ρ.le σ){vars:List Tmp}{var:List AV}{tmps:Array Value}(h:Bv ρ vars var tmps):Bv σ vars var tmps:=
 fun t k hk=>let ⟨h1,v,h2,h3⟩:=h t k hk;⟨h1,v,h2,h3.mono le⟩
theorem Ck.mono    {o : Ad}   {rb : RB} (h : Ck    P ρ w o rb) (le : ρ.le ρ1) (hk : w1.heap[rb.b]? = w.heap[rb.b]?) : Ck    P ρ1 w1 o rb := by
  cases o with
  | row r =>
    exact⟨fun k v hk' hv=>by
        obtain⟨v',h1,h2⟩:=h.cells k v hk' hv
        exact⟨v',(EV (a:=⟨rb.b,_,none⟩) hk).trans h1,h2.mono le⟩,
      h.le,h.sz,h.tight,fun hm=>by
        obtain⟨cs,h1,h2⟩:=h.own hm
        exact⟨cs,hk.trans h1,h2⟩,h.base,h.gl,fun p hp=>let ⟨rp,h1⟩:=h.par p hp;⟨rp,le _ _ h1⟩⟩
  | map kt es =>
    obtain⟨es',clock,h1,h2,⟨l,h3,h4⟩,h5⟩:=h.ex
    exact⟨es',clock,hk.trans h1,h2,⟨l,h3,h4.mono le⟩,h5⟩
  | mapRo kt es =>
    obtain⟨es',clock,h1,h2,⟨l,h3,h4⟩,h5⟩:=h.ex
    exact⟨es',clock,hk.trans h1,h2,⟨l,h3,h4.mono le⟩,h5⟩
  | loop l =>
    obtain⟨L,h0,h1,h2,h4,h5,h6,⟨rd,h7,h7'⟩,h8,h9⟩:=h.ex
    exact⟨L,hk.trans h0,h1,h2,h4,h5,h6,⟨rd,le _ _ h7,h7'⟩,h8.mono le,h9⟩
  | mark=>exact hk.trans h
  | iter=>exact h
def A3(ρ:Aa)(i:Nat)(rb:RB):Aa:=fun j=>if j=i then some rb else ρ j
theorem AJ(i:Nat)(rb:RB):A3 ρ i rb i=some rb:=by simp[A3]
theorem AI{i j:Nat}(rb:RB)(h:j≠i):A3 ρ i rb j=ρ j:=by simp[A3,h]
theorem Ao{i:Nat}{rb:RB}(h:ρ i=none):ρ.le (A3 ρ i rb):=fun j r hj=>by
 have:j≠i:=fun e=>by subst e;rw[h]at hj;cases hj
 rw[AI rb this];exact hj
theorem Ab(s:AC)(o:Ad)(j:Nat):(newObj s o).heap.get j=if j=s.next then some o else s.heap.get j:=AG.get_set _ _ _ _
theorem BN(s:AC)(i:Nat)(o:Ad)(j:Nat):(setObj s i o).heap.get j=if j=i then some o else s.heap.get j:=AG.get_set _ _ _ _
theorem Ai(s:AC)(i j:Nat):(BL s i).heap.get j=if j=i then none else s.heap.get j:=AG.get_del _ _ _
theorem Ds{o:Obj}{b:Nat}(h:b<w.heap.size):(w.alloc o).heap[b]? = w.heap[b]? :=
 Go.RowKit.Below.heap_alloc w o b h
theorem Ac.new  (h : Ac  P ρ s w) {o : Ad}   {o' : Obj} {rb : RB} (hf : ρ s.next = none) (hb : rb.b = w.heap.size)
    (ho:Ck P (A3 ρ s.next rb) (w.alloc o') o rb):
    Ac P (A3 ρ s.next rb) (newObj s o) (w.alloc o')∧Fr ρ s w (A3 ρ s.next rb) (newObj s o) (w.alloc o'):=by
  have hle:=Ao (rb:=rb) hf
  have hglb:∀i oi g,(newObj s o).heap.get i=some oi→Cz oi=some g→∃r,A3 ρ s.next rb i=some r:=by
    intro i oi g hi hg
    rw[Ab]at hi
    by_cases e:i=s.next
    · subst e;exact⟨_,AJ _ _⟩
    · rw[if_neg e]at hi
      obtain⟨r,hr⟩:=h.glb i oi g hi hg
      exact⟨r,hle _ _ hr⟩
  refine⟨⟨?_,?_,?_,hglb⟩,?_⟩
  · intro i oi ri hi hr
    rw[Ab]at hi
    by_cases e:i=s.next
    · subst e
      rw[if_pos rfl]at hi
      injection hi with hi
      rw[AJ]at hr
      injection hr with hr
      subst hi;subst hr
      exact ho
    · rw [if_neg e] at hi
      rw[AI rb e]at hr
      exact(h.obj i oi ri hi hr).mono hle (Ds (h.lt i ri hr))
  · intro i ri hr
    by_cases e:i=s.next
    · subst e
      rw[AJ]at hr
      injection hr with hr
      subst hr
      simp[hb]
    · rw[AI rb e]at hr
      have:=h.lt i ri hr
      simp;omega
  · intro i j oi oj ri rj hne hi hj hri hrj hbb hw
    rw[Ab]at hi hj
    by_cases ei:i=s.next
    · subst ei
      have ej:j≠s.next:=fun e=>hne e.symm
      rw[AJ]at hri
      rw[AI rb ej]at hrj
      injection hri with hri
      subst hri
      have:=h.lt j rj hrj
      omega
    · by_cases ej : j = s.next
      · subst ej
        rw[AI rb ei]at hri
        rw[AJ]at hrj
        injection hrj with hrj
        subst hrj
        have:=h.lt i ri hri
        omega
      · rw [if_neg ei] at hi
        rw[if_neg ej]at hj
        rw[AI rb ei]at hri
        rw[AI rb ej]at hrj
        exact h.sep i j oi oj ri rj hne hi hj hri hrj hbb hw
  · refine ⟨hle, ?_, by simp [newObj], by simp, rfl, rfl, rfl, fun b hb _ => Ds            hb, ?_, ?_⟩
    · intro i hi hr
      have:i≠s.next:=by simp[newObj]at hr;omega
      rw[AI rb this];exact hi
    · rintro b ⟨i, oi, ri, hi, hw, hr, rfl⟩
      rw[Ab]at hi
      by_cases e:i=s.next
      · subst e
        rw[AJ]at hr
        injection hr with hr
        subst hr
        exact .inr (by omega)
      · rw [if_neg e] at hi
        rw[AI rb e]at hr
        exact .inl ⟨i,oi,ri,hi,hw,hr,rfl⟩
    · intro i _ hi
      rw[Ab,if_neg (by simp[newObj]at hi;omega)]
theorem Ac.set  (h : Ac  P ρ s w) {i : Nat} {o o1 : Ad}   {rb : RB} (hg : s.heap.get i = some o) (hr : ρ i = some rb) (hw : wr o = true) (hp : ∀ p, Ha    o = some p → p ≠ i → s.heap.get p = none)
    (hp1:Ha o1=none) (hsz:w1.heap.size=w.heap.size) (hkeep:∀b,b≠rb.b→w1.heap[b]? = w.heap[b]?) (hos:w1.os=w.os) (htape:w1.tape=w.tape) (hout:w1.output=w.output)
    (ho:Ck P ρ w1 o1 rb):Ac P ρ (setObj s i o1) w1∧Fr ρ s w ρ (setObj s i o1) w1:=by
  have hsep:∀j oj rj,j≠i→s.heap.get j=some oj→ρ j=some rj→rj.b≠rb.b:=by
    intro j oj rj hne hj hrj e
    have:=hp j (h.sep j i oj o rj rb hne hj hg hrj hr e hw).1 hne
    rw[hj]at this
    cases this
  have hglb:∀j oj g,(setObj s i o1).heap.get j=some oj→Cz oj=some g→∃r,ρ j=some r:=by
    intro j oj g hj hg
    rw[BN]at hj
    by_cases e:j=i
    · subst e;exact⟨_,hr⟩
    · rw[if_neg e]at hj
      exact h.glb j oj g hj hg
  refine⟨⟨?_,?_,?_,hglb⟩,?_⟩
  · intro j oj rj hj hrj
    rw[BN]at hj
    by_cases e:j=i
    · subst e
      rw[if_pos rfl]at hj
      injection hj with hj
      subst hj
      rw[hr]at hrj
      injection hrj with hrj
      subst hrj
      exact ho
    · rw[if_neg e]at hj
      exact(h.obj j oj rj hj hrj).mono (Aa.le_refl ρ) (hkeep _ (hsep j oj rj e hj hrj))
  · intro j rj hrj
    rw[hsz];exact h.lt j rj hrj
  · intro j k oj ok rj rk hne hj hk hrj hrk hbb hwk
    rw[BN]at hj hk
    by_cases ej:j=i
    · subst ej
      have ek:k≠j:=fun e=>hne e.symm
      rw[if_neg ek]at hk
      rw[hr]at hrj
      injection hrj with hrj
      subst hrj
      exact absurd hbb.symm (hsep k ok rk ek hk hrk)
    · by_cases ek : k = i
      · subst ek
        rw[if_neg ej]at hj
        rw[hr]at hrk
        injection hrk with hrk
        subst hrk
        exact absurd hbb (hsep j oj rj ej hj hrj)
      · rw [if_neg ej] at hj
        rw[if_neg ek]at hk
        exact h.sep j k oj ok rj rk hne hj hk hrj hrk hbb hwk
  · refine ⟨Aa.le_refl  ρ, fun _ h _ => h, Pl          _, by omega, hos, htape, hout, ?_, ?_, ?_⟩
    · intro b _ hno
      exact hkeep b (fun e=>hno ⟨i,o,rb,hg,hw,hr,e.symm⟩)
    · rintro b ⟨j, oj, rj, hj, hwj, hrj, rfl⟩
      rw[BN]at hj
      by_cases e:j=i
      · subst e
        rw[hr]at hrj
        injection hrj with hrj
        subst hrj
        exact .inl ⟨j,o,rb,hg,hw,hr,rfl⟩
      · rw[if_neg e]at hj
        exact .inl ⟨j,oj,rj,hj,hwj,hrj,rfl⟩
    · intro j hrj _
      rw[BN,if_neg]
      intro e
      subst e
      rw[hr]at hrj
      cases hrj
theorem Ac.del  (h : Ac  P ρ s w) {i : Nat} {rb : RB} (hr : ρ i = some rb) : Ac  P ρ (BL     s i) w ∧ Fr ρ s w ρ (BL     s i) w := by
  have hglb:∀j oj g,(BL s i).heap.get j=some oj→Cz oj=some g→∃r,ρ j=some r:=by
    intro j oj g hj hg
    rw[Ai]at hj
    by_cases e:j=i
    · rw[if_pos e]at hj;cases hj
    · rw[if_neg e]at hj
      exact h.glb j oj g hj hg
  refine⟨⟨?_,h.lt,?_,hglb⟩,⟨Aa.le_refl ρ,fun _ h _=>h,Pl _,Pl _,rfl,rfl,rfl,fun _ _ _=>rfl,?_,?_⟩⟩
  · intro j oj rj hj hrj
    rw[Ai]at hj
    by_cases e:j=i
    · rw[if_pos e]at hj;cases hj
    · rw[if_neg e]at hj
      exact h.obj j oj rj hj hrj
  · intro j k oj ok rj rk hne hj hk
    rw[Ai]at hj hk
    by_cases ej:j=i
    · rw[if_pos ej]at hj;cases hj
    · by_cases ek : k = i
      · rw[if_pos ek]at hk;cases hk
      · rw [if_neg ej] at hj
        rw[if_neg ek]at hk
        exact h.sep j k oj ok rj rk hne hj hk
  · rintro b ⟨j, oj, rj, hj, hwj, hrj, rfl⟩
    rw[Ai]at hj
    by_cases e:j=i
    · rw[if_pos e]at hj;cases hj
    · rw[if_neg e]at hj
      exact .inl ⟨j,oj,rj,hj,hwj,hrj,rfl⟩
  · intro j hrj _
    rw[Ai,if_neg]
    intro e
    subst e
    rw[hr]at hrj
    cases hrj
theorem Ae{i:Nat}{r:Bw}(h:rowAt s i=some r):s.heap.get i=some (.row r):=by
 unfold rowAt at h
 split at h
 ·injection h with h;subst h;assumption
 ·cases h
theorem A5(b o k:Nat):(⟨b,o,none⟩:Addr).add k=⟨b,o+k,none⟩:=by unfold Addr.add;split<;>simp_all
theorem BW(h:Ac P ρ s w){i off n:Nat}{l:List AV}{rb:RB}(hr:ρ i=some rb)(hl:BJ s i off n=some l):
  ∃l':List Value,AD ρ l l'∧l'.length=n∧∀w1:World,w1.heap=w.heap→(loadCells ⟨rb.b,rb.off+off,none⟩ n).run P w1=.ok l'.toArray w1:=by
 unfold BJ at hl
 simp only[Pk]at hl
 obtain⟨r,hrow,hl⟩:=hl
 obtain⟨hb,hl⟩:=AA hl
 have hb:off+n≤r.n:=by simpa[Pn]using hb
 have hok:BI ρ w r rb:=h.obj i _ rb (Ae hrow) hr
 have hlen:=AG.take_length hl
 have hc:∀k,k<n→∃v v',l[k]? = some v∧w.cell? ⟨rb.b,rb.off+off+k,none⟩=some v'∧AH ρ v v':=by
  intro k hk
  have hv:l[k]? = some l[k]:=Po (by omega)
  have hg:=AG.take_get hl k hk
  rw[hv]at hg
  obtain⟨v',h1,h2⟩:=hok.cells (off+k) _ (by omega) hg
  exact⟨l[k],v',hv,by rw[show rb.off+off+k=rb.off+(off+k)from by omega];exact h1,h2⟩
 let f:Nat→Value:=fun k=>(w.cell? ⟨rb.b,rb.off+off+k,none⟩).getD undef
 have hf:∀k,k<n→w.cell? ⟨rb.b,rb.off+off+k,none⟩=some (f k):=by
  intro k hk
  obtain⟨v,v',_,h2,_⟩:=hc k hk
  simp[f,h2]
 refine⟨(List.range n).map f,?_,by simp,?_⟩
 ·refine AD.of_get (by simp[hlen]) ?_
  intro k v v' hv hv'
  have hk:k<n:=by
   rcases Pm k n with h' | h'
   ·exact h'
   ·rw[Pr (by omega)]at hv;cases hv
  obtain⟨u,u',h1,h2,h3⟩:=hc k hk
  rw[h1]at hv
  injection hv with hv
  subst hv
  rw[P3,QO hk]at hv'
  simp only[P5]at hv'
  injection hv' with hv'
  rw[← hv']
  have:f k=u':=by simp[f,h2]
  rw[this];exact h3
 ·intro w1 he
  exact run_loadCells w1 _ n f (fun j hj=>by rw[A5];exact(EV (by rw[he])).trans (hf j hj))
theorem GW(h:Ac P ρ s w){i off:Nat}{v:AV}{rb:RB}(hr:ρ i=some rb)(hl:BV s i off=some v):
  ∃v',AH ρ v v'∧w.cell? ⟨rb.b,rb.off+off,none⟩=some v':=by
 unfold BV at hl
 simp only[Pk]at hl
 obtain⟨r,hrow,hl⟩:=hl
 obtain⟨hb,hl⟩:=AA hl
 have hb:off<r.n:=by simpa[Pt]using hb
 have hok:BI ρ w r rb:=h.obj i _ rb (Ae hrow) hr
 obtain⟨v',h1,h2⟩:=hok.cells off v hb hl
 exact⟨v',h2,h1⟩
theorem GX       (h : Ac  P ρ s w) {t : TypeId} {a v : AV} {a' : Value} (hl : AZ    P s t a = some v) (ha : AH   ρ a a') :
    ∃v',(Instr.loadAt t a').run P w=.ok v' w∧AH ρ v v'∧∃ad,a'=.pointer (some ad)∧(loadVar t ad).run P w=.ok v' w:=by
  unfold AZ at hl
  split at hl<;>first | (cases hl;done) | skip
  · rename_i i o
    cases ha
    simp only[Pk]at hl
    obtain⟨r,hgr,g,hg,hl⟩:=hl
    have hrow:rowAt s i=some r∧r.glob=some i:=by
      unfold IA at hgr
      simp only[Pk]at hgr
      obtain⟨r',h1,h2⟩:=hgr
      split at h2<;>first | (cases h2;done) | skip
      rename_i g' hg'
      obtain⟨h3,h4⟩:=AA h2
      injection h4 with h4
      subst h4
      exact⟨h1,by rw[hg',Pq h3]⟩
    obtain⟨rb,hr⟩:=h.glb i _ i (Ae hrow.1) hrow.2
    have hok:BI ρ w r rb:=h.obj i _ rb (Ae hrow.1) hr
    obtain⟨hb,ho⟩:=hok.gl i hrow.2
    cases g with
    | true =>
      simp only[Pk]at hl
      obtain⟨n,hn,l,hl,hv⟩:=hl
      injection hv with hv;subst hv
      obtain⟨l',h1,h2,h3⟩:=BW h hr hl
      rw[hb,ho,Pv]at h3
      have hrun:(loadVar t ⟨i,o,none⟩).run P w=.ok (.agg l'.toArray) w:=by
        simp[loadVar,Dh hg,AR hn,h3 w rfl]
      exact⟨.agg l'.toArray,by simp[Instr.loadAt,Instr.sureAddr,hrun],.agg (by simpa using h1),_,rfl,hrun⟩
    | false =>
      obtain⟨v',h1,h2⟩:=GW h hr hl
      rw[hb,ho,Pv]at h2
      have hrun:(loadVar t ⟨i,o,none⟩).run P w=.ok v' w:=by
        simp[loadVar,Dh hg,h2]
      exact⟨v',by simp[Instr.loadAt,Instr.sureAddr,hrun],h1,_,rfl,hrun⟩
  rename_i i o
  cases ha with
  | ptr hr =>
    rename_i rb
    simp only[Pk]at hl
    obtain⟨g,hg,hl⟩:=hl
    cases g with
    | true =>
      simp only[Pk]at hl
      obtain⟨n,hn,l,hl,hv⟩:=hl
      injection hv with hv;subst hv
      obtain⟨l',h1,h2,h3⟩:=BW h hr hl
      have hrun:(loadVar t ⟨rb.b,rb.off+o,none⟩).run P w=.ok (.agg l'.toArray) w:=by
        simp[loadVar,Dh hg,AR hn,h3 w rfl]
      exact⟨.agg l'.toArray,by simp[Instr.loadAt,Instr.sureAddr,hrun],.agg (by simpa using h1),_,rfl,hrun⟩
    | false =>
      obtain⟨v',h1,h2⟩:=GW h hr hl
      have hrun:(loadVar t ⟨rb.b,rb.off+o,none⟩).run P w=.ok v' w:=by
        simp[loadVar,Dh hg,h2]
      exact⟨v',by simp[Instr.loadAt,Instr.sureAddr,hrun],h1,_,rfl,hrun⟩
end
section
variable{P:Program}{ρ ρ1 ρ2:Aa}{s s1 s2:AC}{w w1 w2:World}
theorem MF{e:TypeId}{sz:Nat}{l:List AV}{cs:Array Value}(hl:AD ρ l cs.toList)(b:Nat)(hb:w.heap[b]? = some (.cells cs e (0,0))):
  Ck P ρ w (Dw e sz l) ⟨b,0,l.length,sz⟩:=by
 have hlen:=hl.length
 refine⟨?_,Pl _,rfl,fun _=>rfl,fun _=>⟨cs,hb,by simp[hlen]⟩,fun _=>rfl,(fun g hg=>by cases hg),fun p hp=>by cases hp⟩
 intro k v hk hv
 simp only[AG.get_fill,Ps,Pv,true_and,Nat.sub_zero]at hv
 rw[if_pos hk]at hv
 obtain⟨v',h1,h2⟩:=hl.get hv
 refine⟨v',?_,h2⟩
 simp only[World.cell?,hb,Pv]
 rw[← Array.getElem?_toList]
 simpa using h1
theorem De(h:Ac P ρ s w)(hf:ρ s.next=none){e:TypeId}{sz:Nat}{l:List AV}{cs:Array Value}(hl:AD ρ l cs.toList):
  ∃ρ',ρ' s.next=some ⟨w.heap.size,0,l.length,sz⟩∧Ac P ρ' (newObj s (Dw e sz l)) (w.alloc (.cells cs e))∧Fr ρ s w ρ' (newObj s (Dw e sz l)) (w.alloc (.cells cs e)):=by
 have hle:=Ao (rb:=⟨w.heap.size,0,l.length,sz⟩) hf
 obtain⟨h1,h2⟩:=h.new (o:=Dw e sz l) (o':=.cells cs e) (rb:=⟨w.heap.size,0,l.length,sz⟩) hf rfl
  (MF (hl.mono hle) _ (World.alloc_heap_new w _))
 exact⟨_,AJ _ _,h1,h2⟩
theorem Dj        (h : Ac  P ρ s w) {i off : Nat} {vs : List AV} {vs' : List Value} {rb : RB} (hr : ρ i = some rb) (hs : Bd     s i off vs = some s1) (hv : AD    ρ vs vs') :
    ∃w1,(storeCells ⟨rb.b,rb.off+off,none⟩ vs').run P w=.ok () w1∧Ac P ρ s1 w1∧Fr ρ s w ρ s1 w1:=by
  cases vs with
  | nil =>
    cases hv
    simp only[Bd]at hs
    injection hs with hs
    subst hs
    exact⟨w,rfl,h,Fr.refl _ _ _⟩
  | cons v0 vs0 =>
    have hsv:Bd s i off (v0::vs0)=(rowAt s i).bind fun r =>
      AE (B5 r.mode && Nat.ble (off+(v0::vs0).length) r.n && Aj (v0::vs0))
        (some (setObj (Al s i r) i (.row { r with c:=r.c.fill off (v0::vs0),par:=none }))):=rfl
    rw[hsv]at hs
    generalize v0::vs0=vs at hs hv
    simp only[Pk]at hs
    obtain⟨r,hrow,hs⟩:=hs
    obtain⟨hb,hs⟩:=AA hs
    injection hs with hs
    subst hs
    simp only[Bool.and_eq_true,Pn]at hb
    obtain⟨⟨hown,hle⟩,hall⟩:=hb
    have hg:=Ae hrow
    have hok:BI ρ w r rb:=h.obj i _ rb hg hr
    have hmode:r.mode≠.ro:=fun e=>by rw[e]at hown;cases hown
    obtain⟨cs,hblk,hsz⟩:=hok.own hmode
    obtain⟨e,he0⟩:∃e,r.elem=e:=⟨_,rfl⟩
    rw[he0]at hblk
    have hlen:=hv.length
    have hfit:rb.off+off+vs'.length≤cs.size:=by have:=hok.le;omega
    have hrun:=run_storeCells_at P rb.b (rb.off+off) e vs' 0 cs w hblk (by simpa using hfit) (hv.oneCell hall)
    refine⟨_,hrun,?_⟩
    simp only[QB]
    generalize hnew:(cs.toList.take (rb.off+off)++vs'++cs.toList.drop (rb.off+off+vs'.length)).toArray=cs1
    have hblk1:(w.setRow rb.b cs1).heap[rb.b]? = some (.cells cs1 e (0,0)):=setRow_heap w rb.b cs cs1 e (0,0) hblk
    have hsize1:cs1.size=cs.size:=by rw[← hnew];simp;omega
    have hget:∀k,cs1[k]? = if rb.off+off≤k∧k<rb.off+off+vs'.length then vs'[k - (rb.off+off)]? else cs[k]? := by
      intro k
      rw[← hnew,List.getElem?_toArray]
      by_cases h1:k<rb.off+off
      · rw[if_neg (by omega),QK,Py (by simp;omega),QP h1,Array.getElem?_toList]
      · rw[QK,Pz (by simp;omega)]
        have hmin:(cs.toList.take (rb.off+off)).length=rb.off+off:=by simp;omega
        rw[hmin]
        by_cases h2:k<rb.off+off+vs'.length
        · rw[if_pos (by omega),Py (by omega)]
        · rw[if_neg (by omega),Pz (by omega),List.getElem?_drop,← Array.getElem?_toList]
          congr 1
          omega
    have key:∀sx:AC,Ac P ρ sx w→Fr ρ s w ρ sx w→sx.heap.get i=some (.row r)→(∀p,r.par=some p→p≠i→sx.heap.get p=none) →
        Ac P ρ (setObj sx i (.row { r with c:=r.c.fill off vs,par:=none })) (w.setRow rb.b cs1) ∧
        Fr ρ s w ρ (setObj sx i (.row { r with c:=r.c.fill off vs,par:=none })) (w.setRow rb.b cs1):=by
      intro sx hx hfx hgx hpx
      obtain⟨h1,h2⟩:=hx.set (o1:=.row { r with c:=r.c.fill off vs,par:=none }) (w1:=w.setRow rb.b cs1) hgx hr (by simpa[wr]using hown) hpx rfl (by simp)
        (fun b hb=>setRow_other w rb.b b cs1 hb) rfl rfl rfl (by
          refine⟨?_,hok.le,hok.sz,hok.tight,fun _=>⟨cs1,by show _=some (Obj.cells cs1 r.elem (0,0));rw[he0];exact hblk1,by rw[hsize1];exact hsz⟩,hok.base,hok.gl,fun p hp=>by cases hp⟩
          intro k v hk hkv
          simp only[AG.get_fill]at hkv
          have hcell:(w.setRow rb.b cs1).cell? ⟨rb.b,rb.off+k,none⟩=cs1[rb.off+k]? := by simp[World.cell?,hblk1]
          rw[hcell,hget]
          by_cases hin:off≤k∧k<off+vs.length
          · rw [if_pos hin] at hkv
            rw[if_pos (by omega),show rb.off+k - (rb.off+off)=k - off from by omega]
            exact hv.get hkv
          · rw [if_neg hin] at hkv
            rw[if_neg (by omega)]
            obtain⟨v',h1,h2⟩:=hok.cells k v hk hkv
            refine⟨v',?_,h2⟩
            simpa[World.cell?,hblk]using h1)
      exact⟨h1,hfx.trans h2⟩
    unfold Al
    split
    · rename_i hp
      exact key s h (Fr.refl _ _ _) hg (fun p hp' _=>by rw[hp]at hp';cases hp')
    · rename_i p hp
      by_cases hpi:p=i
      · have:Nat.beq p i=true:=by rw[hpi];simp[P9]
        rw[this]
        exact key s h (Fr.refl _ _ _) hg (fun q hq hqi=>by rw[hp]at hq;injection hq with hq;exact absurd (hq.symm.trans hpi) hqi)
      · rw[AG.beq_no hpi]
        obtain⟨rp,hrp⟩:=hok.par p hp
        obtain⟨hd,hfd⟩:=h.del hrp
        exact key (BL s p) hd hfd (by rw[Ai,if_neg (fun e=>hpi e.symm)];exact hg) (fun q hq _=>by
          rw[hp]at hq
          injection hq with hq
          subst hq
          rw[Ai,if_pos rfl])
theorem AN{a b:Nat}(h:Nat.beq a b=true):a=b:=Pq h
theorem LT(h:Ac P ρ s w){t:TypeId}{a v:AV}{a' v':Value}(hs:FP P s t a v=some s1)(ha:AH ρ a a')(hv:AH ρ v v'):
  ∃w1,(Instr.storeAt t a' v').run P w=.ok () w1∧Ac P ρ s1 w1∧Fr ρ s w ρ s1 w1:=by
 unfold FP at hs
 split at hs<;>first | (cases hs;done) | skip
 rename_i i o
 cases ha with
 | ptr hr =>
  rename_i rb
  simp only[Pk]at hs
  obtain⟨n,hn,hs⟩:=hs
  obtain⟨hb,hs⟩:=AA hs
  have hb:=AN hb
  obtain⟨w1,h1,h2⟩:=Dj h hr hs hv.cells
  refine⟨w1,?_,h2⟩
  have hc:v'.cells.size=n:=by have:=hv.cells.length;simp at this;omega
  simp[Instr.storeAt,Instr.sureAddr,storeVar,AR hn,hc,h1]
def HG(P:Program)(ρ:Aa)(s:AC)(w:World)(sem:Sem Value)(o:Ad)(m:Made):Prop:=
 ∃v' w' ρ',sem.run P w=.ok v' w'∧AH ρ' (m.val s.next) v'∧Ac P ρ' (newObj s o) w'∧Fr ρ s w ρ' (newObj s o) w'
theorem Ky(h:Ac P ρ s w)(hf:ρ s.next=none){e:TypeId}{o:Ad}{m:Made}(hs:E2 P e=some (o,m)):
  HG P ρ s w (Instr.alloc e true (.tuple #[])) o m:=by
 unfold E2 at hs
 simp only[Pk]at hs
 obtain⟨z,hz,hs⟩:=hs
 injection hs with hs
 injection hs with h1 h2
 subst h1;subst h2
 obtain⟨z',hz',hzr⟩:=Eo (w:=w) ρ hz
 obtain⟨ρ',h1,h2,h3⟩:=De h hf (e:=e) (sz:=0) hzr.cells
 exact⟨.pointer (some ⟨w.heap.size,0,none⟩),_,ρ',by simp[Instr.alloc,hz',newVar,newRow],AH.ptr h1,h2,h3⟩
theorem Mp(h:Ac P ρ s w)(hf:ρ s.next=none){e:TypeId}{v:AV}{v':Value}{o:Ad}{m:Made}(hs:Lh e v=some (o,m))(hv:AH ρ v v'):
  HG P ρ s w (Instr.box e v') o m:=by
 unfold Lh at hs
 injection hs with hs
 injection hs with h1 h2
 subst h1;subst h2
 obtain⟨ρ',h1,h2,h3⟩:=De h hf (e:=e) (sz:=0) hv.cells
 exact⟨.pointer (some ⟨w.heap.size,0,none⟩),_,ρ',by simp[Instr.box,newVar,newRow],AH.ptr h1,h2,h3⟩
theorem J0(h:Ac P ρ s w)(hf:ρ s.next=none)(t kt:TypeId):HG P ρ s w (Instr.makeMap t none) (.map kt []) .map:=by
 have hle:=Ao (rb:=⟨w.heap.size,0,0,0⟩) hf
 obtain⟨h1,h2⟩:=h.new (o:=.map kt []) (o':=.map #[] 0) (rb:=⟨w.heap.size,0,0,0⟩) hf rfl ⟨#[],0,World.alloc_heap_new w _,MapKept.stamped_empty 0,⟨[],.refl _,.nil⟩,by simp⟩
 exact⟨.map (some w.heap.size),_,_,by simp[Instr.makeMap,newObj],AH.map (AJ _ _),h1,h2⟩
theorem GM       {place : Nat → Option (Nat × Nat)} {place' : Nat → Option (Nat × Nat)} (hp : ∀ i p, place i = some p → place' i = some p) :
    ∀ {parts:List (Nat×AV)} {parts':List (Nat×Value)} {cs l:List AV} {cs':Array Value},GL place cs parts=some l→AD ρ cs cs'.toList →
      (parts.map (·.1)=parts'.map (·.1))→AD ρ (parts.map (·.2)) (parts'.map (·.2))→∃l',Instr.fill place' cs' parts'=some l'∧AD ρ l l'.toList:=by
  intro parts
  induction parts with
  | nil =>
    intro parts' cs l cs' h hc hm hv
    cases parts' with
    | nil=>simp[GL]at h;subst h;exact⟨cs',rfl,hc⟩
    | cons=>simp at hm
  | cons p rest ih =>
    intro parts' cs l cs' h hc hm hv
    cases parts' with
    | nil=>simp at hm
    | cons p' rest' =>
      obtain⟨i,v⟩:=p
      obtain⟨i',v'⟩:=p'
      simp only[QA,List.cons.injEq]at hm
      obtain⟨hi,hm⟩:=hm
      skip
      subst hi
      simp only[QA]at hv
      cases hv with
      | cons hv hvs =>
        simp only[GL,Pk]at h
        obtain⟨q,hq,h⟩:=h
        obtain⟨hb,h⟩:=AA h
        simp only[Bool.and_eq_true,Pn]at hb
        obtain⟨hb1,hb2⟩:=hb
        have hb1:=AN hb1
        have hvc:=hv.cells
        have hvl:=hvc.length
        have hcl:=hc.length
        simp only[Array.length_toList]at hvl hcl
        have hnew:AD ρ (cs.take q.1++(v.cells++cs.drop (q.1+v.cells.length)))
            (v'.cells.zipIdx.foldl (fun cs (c,j)=>cs.setIfInBounds (q.1+j) c) cs').toList:=by
          have e:(v'.cells.zipIdx.foldl (fun cs (c,j)=>cs.setIfInBounds (q.1+j) c) cs').toList=cs'.toList.take q.1++(v'.cells.toList++cs'.toList.drop (q.1+v.cells.length)):=by
            have key:∀ (l:List Value) (k:Nat) (a:Array Value),q.1+k+l.length≤a.size →
                ((l.zipIdx k).foldl (fun cs (x:Value×Nat)=>cs.setIfInBounds (q.1+x.2) x.1) a).toList=a.toList.take (q.1+k)++(l++a.toList.drop (q.1+k+l.length)):=by
              intro l
              induction l with
              | nil=>intro k a _;simp
              | cons x l ihl =>
                intro k a hk
                simp only[P2]at hk
                rw[List.zipIdx_cons,List.foldl_cons,ihl (k+1) _ (by simp;omega)]
                simp only[Array.toList_setIfInBounds,P2]
                have e:=list_seg_step a.toList (q.1+k) x l (by simp;omega)
                simpa[P0,QK]using e
            have:=key v'.cells.toList 0 cs' (by simp;omega)
            simp only[QB]at this
            rw[← Array.foldl_toList,Array.toList_zipIdx]
            rw[hvl]
            simpa using this
          rw[e]
          exact(hc.take _).append (hvc.append (hc.drop _))
        obtain⟨l',h1,h2⟩:=ih h hnew hm hvs
        refine⟨l',?_,h2⟩
        have hpq:=hp i q hq
        obtain⟨o,n⟩:=q
        simp only[Instr.fill,hpq]
        have c1:¬ (v'.cells.size≠n∨o+v'.cells.size > cs'.size):=by simp only at hb1 hb2;omega
        have:(decide (v'.cells.size≠n) || decide (o+v'.cells.size > cs'.size))=false:=by
          rw[Bool.eq_false_iff];intro hh;apply c1;simpa using hh
        simp only[this]
        exact h1
theorem Dr:∀ {fs:List Field}{l:List (Nat×Nat)},CS P fs=some l →
  ∀w:World,((fs.mapM fun f=>do pure (f.offset,← sizeOf f.type):Sem (List (Nat×Nat)))).run P w=.ok l w
 | [],l,h,w=>by simp[CS]at h;subst h;rfl
 | f::fs,l,h,w=>by
  simp only[CS,Pk]at h
  obtain⟨n,hn,r,hr,h⟩:=h
  injection h with h
  subst h
  have ih:=Dr hr w
  simp only[QL,Sem.run_bind,AR hn,Sem.run_pure,Result.andThen_ok,ih]
theorem Kz{t:TypeId}{parts:List (Nat×AV)}{parts':Array (Nat×Value)}{v:AV}(h:Jh P t parts=some v)
  (hm:parts.map (·.1)=parts'.toList.map (·.1)) (hv:AD ρ (parts.map (·.2)) (parts'.toList.map (·.2))) (w:World):
  ∃v',(Instr.build t parts').run P w=.ok v' w∧AH ρ v v':=by
 unfold Jh at h
 simp only[Pk]at h
 obtain⟨z,hz,h⟩:=h
 obtain⟨z',hz',hzr⟩:=Eo (w:=w) ρ hz
 split at h<;>first | (cases h;done) | skip
 ·rename_i fields hf
  simp only[Pk]at h
  obtain⟨places,hpl,l,hl,h⟩:=h
  injection h with h
  subst h
  have hpl':=Dr hpl w
  obtain⟨l',h1,h2⟩:=GM (place':=fun i=>(places.toArray)[i]?) (fun i p hp=>by simpa using hp) hl hzr.cells hm hv
  refine⟨.agg l',?_,.agg h2⟩
  have hma:(fields.mapM fun f=>do pure (f.offset,← sizeOf f.type):Sem (Array (Nat×Nat))).run P w=.ok places.toArray w:=by
   rw[Array.mapM_eq_mapM_toList,Sem.run_map,hpl']
   rfl
  simp only[Instr.build,Sem.run_bind,hz',Result.andThen_ok,AB hf,hma,h1,Sem.run_pure]
 ·rename_i len e hf
  simp only[Pk]at h
  obtain⟨n,hn,l,hl,h⟩:=h
  injection h with h
  subst h
  obtain⟨l',h1,h2⟩:=GM (place':=fun i=>some (i * n,n)) (fun i p hp=>hp) hl hzr.cells hm hv
  refine⟨.agg l',?_,.agg h2⟩
  simp only[Instr.build,Sem.run_bind,hz',Result.andThen_ok,AB hf,AR hn,h1,Sem.run_pure]
theorem IM      {z : AV} {z' : Value} {n c : Nat} (hz : AH   ρ z z') (hl : z.cells.length = n) :
    AD ρ (LZ z.cells c) (((Array.range (c * n)).map (z'.cells[· % z'.cells.size]!)).toList):=by
  have hc:=hz.cells
  have hlen:z'.cells.size=n:=by have:=hc.length;simp at this;omega
  have hrl:∀c,(LZ z.cells c).length=c * n:=by
    intro c
    induction c with
    | zero=>simp[LZ]
    | succ c ih=>simp[LZ,ih,hl,Nat.succ_mul];omega
  have hrg:∀ (c k:Nat),k<c * n→(LZ z.cells c)[k]? = z.cells[k % n]? := by
    intro c
    induction c with
    | zero=>intro k hk;omega
    | succ c ih =>
      intro k hk
      simp only[LZ]
      by_cases h1:k<n
      · rw[Py (by omega),Nat.mod_eq_of_lt h1]
      · rw [Pz                         (by omega), hl, ih (k - n) (by rw [Nat.succ_mul] at hk; omega)]
        rw[← Nat.mod_eq_sub_mod (by omega)]
  refine AD.of_get (by simp[hrl]) ?_
  intro k v v' hv hv'
  have hk:k<c * n:=by
    rcases Pm k (c * n)with h | h
    · exact h
    · rw[Pr (by rw[hrl];omega)]at hv;cases hv
  have hn:0<n:=by
    rcases QF n with h | h
    · subst h;simp at hk
    · exact h
  rw[hrg c k hk]at hv
  obtain⟨u,h1,h2⟩:=hc.get hv
  have:v'=u:=by
    rw[Array.getElem?_toList,Array.getElem?_map,Array.getElem?_range]at hv'
    rw[if_pos hk]at hv'
    simp only[P5]at hv'
    injection hv' with hv'
    rw[← hv',hlen]
    rw[Array.getElem?_toList]at h1
    rw[getElem!_def,h1]
  rw[this]
  exact h2
theorem IV(h:Ac P ρ s w)(hf:ρ s.next=none){t:TypeId}{len:Nat}{parts:List (Nat×AV)}{parts':Array (Nat×Value)}{o:Ad}(hs:BS P t len parts=some o)
  (hm:parts.map (·.1)=parts'.toList.map (·.1)) (hv:AD ρ (parts.map (·.2)) (parts'.toList.map (·.2))):
  HG P ρ s w (Instr.buildSlice t len parts') o (.slice len):=by
 unfold BS at hs
 split at hs<;>first | (cases hs;done) | skip
 rename_i e he
 simp only[Pk]at hs
 obtain⟨n,hn,hs⟩:=hs
 obtain⟨hb,hs⟩:=AA hs
 have hb:len * n≤16777216:=by simpa[Pn]using hb
 simp only[Pk]at hs
 obtain⟨z,hz,hs⟩:=hs
 obtain⟨hc,hs⟩:=AA hs
 simp only[Pk]at hs
 obtain⟨l,hl,hs⟩:=hs
 injection hs with hs
 subst hs
 obtain⟨z',hz',hzr⟩:=Eo (w:=w) ρ hz
 have hz2:=IM (c:=len) hzr (AN hc)
 obtain⟨l',h1,h2⟩:=GM (place':=fun i=>some (i * n,n)) (fun i p hp=>hp) hl hz2 hm hv
 obtain⟨ρ',g1,g2,g3⟩:=De h hf (e:=e) (sz:=n) h2
 refine⟨.slice (some ⟨w.heap.size,0,none⟩) len len,_,ρ',?_,AH.slice g1 (Pl _),g2,g3⟩
 have hbig:¬ len * n > 2 ^ 24:=by omega
 by_cases h0:len * n=0
 ·have hr0:Array.range 0=#[]:=by simp
  rw[h0,hr0]at h1
  simp only[Array.map_empty]at h1
  simp[Instr.buildSlice,AB he,AR hn,h0,hr0,h1,newRow]
 ·simp[Instr.buildSlice,AB he,AR hn,hbig,h0,hz',h1,newRow]
theorem HA(h:Ac P ρ s w)(hf:ρ s.next=none){t:TypeId}{l c:AV}{l' c':Value}{o:Ad}{m:Made}(hs:C3 P t l c=some (o,m))
  (hl:AH ρ l l') (hc:AH ρ c c'):HG P ρ s w (Instr.makeSlice t l' c') o m:=by
 unfold C3 at hs
 split at hs<;>first | (cases hs;done) | skip
 rename_i e l0 c0 he
 cases hl;cases hc
 simp only[Pk]at hs
 obtain⟨by_,hby,n,hn,hs⟩:=hs
 obtain⟨hb,hs⟩:=AA hs
 simp only[Bool.and_eq_true,Pn]at hb
 obtain⟨⟨hlc,hb1⟩,hb2⟩:=hb
 have hlc:=AN hlc
 subst hlc
 simp only[Pk]at hs
 obtain⟨z,hz,hs⟩:=hs
 obtain⟨hc,hs⟩:=AA hs
 injection hs with hs
 injection hs with hs1 hs2
 subst hs1;subst hs2
 obtain⟨z',hz',hzr⟩:=Eo (w:=w) ρ hz
 have hz2:=IM (c:=l0) hzr (AN hc)
 obtain⟨i,hi,hi2⟩:=LP (w:=w) hby
 obtain⟨ρ',g1,g2,g3⟩:=De h hf (e:=e) (sz:=n) hz2
 refine⟨.slice (some ⟨w.heap.size,0,none⟩) l0 l0,_,ρ',?_,AH.slice g1 (Pl _),g2,g3⟩
 have hw:IntKind.i64.wrap (l0:Int)=(l0:Int):=F4 (k:=.i64) (n:=Int.ofNat l0) (by simp[BG,Pn];omega)
 have hmul:((by_:Int) * (l0:Int))≤1099511627776:=by
  have:((by_ * l0:Nat):Int)≤1099511627776:=by omega
  simpa using this
 have h1:¬ ((l0:Int)<0):=by omega
 have h2:¬ ((i.bytes:Int) * (l0:Int) > 2 ^ 48):=by rw[hi2];omega
 have h3:¬ ((281474976710656:Int)<(i.bytes:Int) * (l0:Int)):=by omega
 by_cases h0:l0 * n=0
 ·have hr0:Array.range 0=#[]:=by simp
  simp[Instr.makeSlice,AB he,asInt,asIntOf,hi,hw,h1,h3,AR hn,h0,newRow,hr0]
 ·simp[Instr.makeSlice,AB he,asInt,asIntOf,hi,hw,h1,h3,AR hn,h0,hz',newRow]
end
end
end Go.Proofs.YtniabnfoflogaaaGreatDoor.Am
