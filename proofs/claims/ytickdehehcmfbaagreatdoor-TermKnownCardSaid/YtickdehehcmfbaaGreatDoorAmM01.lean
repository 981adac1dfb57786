/- Binary tries over Nat keys, made for evaluation by the kernel: get, set, and their laws; conditions: none. -/
import GoSem.Dispatch
import GoSem.ClaimKeys
import Derived.DeepKeys2
import Derived.CallsIn
import Derived.Laws.Sem
import Derived.MapKept
import Derived.Laws.Entries
import Derived.Laws.Slices
import Derived.Laws.Strings
import Derived.Lib.Hide
import Derived.Laws.CopyRow
import Derived.Laws.Cells
import Derived.RangeFuncRecord
import Derived.Below
namespace Go.Proofs.YtickdehehcmfbaaGreatDoor.Am
noncomputable section
abbrev Y9 := @Nat.le_refl
abbrev ZA := @Option.bind_eq_some_iff
abbrev ZB := @Nat.zero_add
abbrev ZC := @List.length_cons
abbrev ZD := @List.nil_append
abbrev ZE := @List.cons_append
abbrev ZF := @List.length_nil
abbrev ZG := @List.drop_zero
abbrev ZH := @List.set_cons_zero
abbrev ZI := @List.set_cons_succ
abbrev ZJ := @List.drop_succ_cons
abbrev ZK := @List.take_succ_cons
abbrev ZL := @List.take_zero
abbrev ZM := @Nat.lt_add_one
abbrev ZN := @Nat.ble_eq
abbrev ZO := @Nat.lt_or_ge
abbrev ZP := @List.getElem?_eq_getElem
abbrev ZQ := @List.mem_cons_of_mem
abbrev ZR := @Nat.eq_of_beq_eq_true
abbrev ZS := @Nat.lt_of_lt_of_le
abbrev ZT := @List.getElem?_eq_none
abbrev ZU := @List.mem_cons_self
abbrev ZV := @List.map_cons
abbrev ZW := @Nat.zero_le
abbrev ZX := @Nat.blt_eq
abbrev ZY := @List.length_map
abbrev ZZ := @List.mem_of_getElem?
abbrev Za := @Nat.le_trans
abbrev Zb := @List.getElem?_append_left
abbrev Zc := @List.getElem?_append_right
abbrev Zd := @List.mem_cons
abbrev Ze := @List.length_append
abbrev Zf := @Nat.mul_one
abbrev Zg := @List.getElem?_map
abbrev Zh := @Nat.add_assoc
abbrev Zi := @Nat.add_mul
abbrev Zj := @List.not_mem_nil
abbrev Zk := @List.append_assoc
abbrev Zl := @Option.map_some
abbrev Zm := @Nat.beq_eq
abbrev Zn := @List.nodup_cons
abbrev Zo := @List.take_of_length_le
abbrev Zp := @Nat.eq_zero_or_pos
abbrev Zq := @Nat.mul_le_mul_right
abbrev Zr := @List.eq_nil_of_length_eq_zero
abbrev Zs := @Nat.lt_succ_self
abbrev Zt := @List.mem_append_right
abbrev Zu := @List.foldl_cons
abbrev Zv := @Nat.lt_succ_of_lt
abbrev Zw := @Nat.lt_trichotomy
abbrev Zx := @List.map_map
abbrev Zy := @List.getElem?_take_of_lt
abbrev Zz := @List.map_append
abbrev Z0 := @Int.ofNat_eq_natCast
abbrev Z1 := @List.getElem?_drop
abbrev Z2 := @List.map_congr_left
abbrev Z3 := @List.mem_append_left
abbrev Z4 := @List.getD_eq_getElem?_getD
abbrev Z5 := @List.idxOf_lt_length_of_mem
inductive AG (α:Type) where
 | leaf
 | node (v:Option α) (l r:AG α)
namespace AG
variable{α:Type}
def get:AG α→Nat→Option α
 | .leaf,_=>none
 | .node v l r,k=>match k with
  | 0=>v
  | k+1=>bif Nat.beq (k % 2) 0 then l.get (k / 2)else r.get (k / 2)
def val:AG α→Option α
 | .leaf=>none
 | .node v _ _=>v
def left:AG α→AG α
 | .leaf=>.leaf
 | .node _ l _=>l
def right:AG α→AG α
 | .leaf=>.leaf
 | .node _ _ r=>r
def Ve(v:Option α)(l r:AG α):AG α:=
 match l with
 | .leaf=>.node v .leaf r
 | .node x a b=>.node v (.node x a b) r
def Vf(v:Option α)(l r:AG α):AG α:=
 match r with
 | .leaf=>.node v l .leaf
 | .node x a b=>.node v l (.node x a b)
def setF(v:Option α):Nat→AG α→Nat→AG α
 | 0,t,_=>t
 | f+1,t,k=>match k with
  | 0=>.node v t.left t.right
  | k+1=>bif Nat.beq (k % 2) 0 then Ve t.val (setF v f t.left (k / 2)) t.right
   else Vf t.val t.left (setF v f t.right (k / 2))
def put(t:AG α)(k:Nat)(v:Option α):AG α:=setF v (k+1) t k
def set(t:AG α)(k:Nat)(v:α):AG α:=t.put k (some v)
def del(t:AG α)(k:Nat):AG α:=t.put k none
theorem beq_no{a b:Nat}(h:¬ a=b):Nat.beq a b=false:=by
 cases e:Nat.beq a b with
 | false=>rfl
 | true=>exact absurd (ZR e) h
theorem nodeL_eq(v:Option α)(l r:AG α):Ve v l r=.node v l r:=by cases l<;>rfl
theorem nodeR_eq(v:Option α)(l r:AG α):Vf v l r=.node v l r:=by cases r<;>rfl
theorem IQ(t:AG α):t.get 0=t.val:=by cases t<;>rfl
theorem CK(t:AG α)(k:Nat):t.get (k+1)=if k % 2=0 then t.left.get (k / 2)else t.right.get (k / 2):=by
 cases t with
 | leaf=>simp[get,left,right]
 | node v l r =>
  by_cases h:k % 2=0
  ·simp[get,left,h]
  ·have:Nat.beq (k % 2) 0=false:=beq_no h
   simp[get,right,h,this]
theorem RM       (v : Option α) : ∀ (f : Nat) (t : AG   α) (k j : Nat), k < f → (setF v f t k).get j = if j = k then v else t.get j := by
  intro f
  induction f with
  | zero=>intro t k j h;omega
  | succ f ih =>
    intro t k j h
    cases k with
    | zero =>
      cases j with
      | zero=>simp[setF,IQ,val]
      | succ j=>simp[setF,CK,left,right]
    | succ k =>
      by_cases hk:k % 2=0
      · have hb:Nat.beq (k % 2) 0=true:=by rw[hk];rfl
        simp only[setF,hb,cond_true,nodeL_eq]
        cases j with
        | zero=>simp[IQ,val]
        | succ j =>
          by_cases hj:j % 2=0
          · rw[CK,CK,if_pos hj,if_pos hj]
            simp only[left]
            rw[ih _ _ _ (by omega)]
            by_cases e:j=k
            · subst e;simp
            · rw[if_neg (by omega),if_neg (by omega)]
          · rw[CK,CK,if_neg hj,if_neg hj,if_neg (by omega)]
            simp only[right]
      · have hb:Nat.beq (k % 2) 0=false:=beq_no hk
        simp only[setF,hb,cond_false,nodeR_eq]
        cases j with
        | zero=>simp[IQ,val]
        | succ j =>
          by_cases hj:j % 2=0
          · rw[CK,CK,if_pos hj,if_pos hj,if_neg (by omega)]
            simp only[left]
          · rw[CK,CK,if_neg hj,if_neg hj]
            simp only[right]
            rw[ih _ _ _ (by omega)]
            by_cases e:j=k
            · subst e;simp
            · rw[if_neg (by omega),if_neg (by omega)]
theorem Nf(t:AG α)(k j:Nat)(v:Option α):(t.put k v).get j=if j=k then v else t.get j:=RM v _ t k j (by omega)
theorem get_set(t:AG α)(k j:Nat)(v:α):(t.set k v).get j=if j=k then some v else t.get j:=Nf t k j _
theorem get_del(t:AG α)(k j:Nat):(t.del k).get j=if j=k then none else t.get j:=Nf t k j _
def fill(t:AG α)(k:Nat):List α→AG α
 | []=>t
 | v::l=>fill (t.set k v) (k+1) l
theorem get_fill(l:List α):∀ (t:AG α)(k j:Nat),(t.fill k l).get j=if k≤j∧j<k+l.length then l[j - k]? else t.get j:=by
  induction l with
  | nil=>intro t k j;simp[fill];omega
  | cons v l ih =>
    intro t k j
    simp only[fill,ih,get_set,ZC]
    by_cases h1:k+1≤j∧j<k+1+l.length
    · rw [if_pos h1, if_pos (by omega), show j - k = (j - (k + 1)) + 1 from by omega]
      rfl
    · rw[if_neg h1]
      by_cases h2:j=k
      · subst h2;simp
      · rw[if_neg h2,if_neg (by omega)]
def take(t:AG α)(k:Nat):Nat→Option (List α)
 | 0=>some []
 | n+1=>match t.get k with
  | none=>none
  | some v=>match take t (k+1) n with
   | none=>none
   | some l=>some (v::l)
theorem take_length{t:AG α}{k n:Nat}{l:List α}(h:t.take k n=some l):l.length=n:=by
  induction n generalizing k l with
  | zero=>simp[take]at h;subst h;rfl
  | succ n ih =>
    simp only[take]at h
    split at h
    · cases h
    · split at h
      · cases h
      · rename_i h2;injection h with h;subst h;simp[ih h2]
theorem take_get {t : AG   α} {k n : Nat} {l : List α} (h : t.take k n = some l) (j : Nat) (hj : j < n) : t.get (k + j) = l[j]? := by
  induction n generalizing k l j with
  | zero=>omega
  | succ n ih =>
    simp only[take]at h
    split at h
    · cases h
    · rename_i v hv
      split at h
      · cases h
      · rename_i l' h2
        injection h with h
        subst h
        cases j with
        | zero=>simpa using hv
        | succ j=>rw[show k+(j+1)=k+1+j from by omega,ih h2 j (by omega)];rfl
end AG
end
end Go.Proofs.YtickdehehcmfbaaGreatDoor.Am
namespace Go.Proofs.YtickdehehcmfbaaGreatDoor.Am
open Go
noncomputable section
inductive AV where
 | bool (b:Bool)
 | int (k:IntKind) (n:Int)
 | str (s:List Nat)
 | ptr (a:Option (Nat×Nat))
 | gptr (g o:Nat)
 | slice (a:Option (Nat×Nat)) (len:Nat) (cap:Option Nat)
 | map (r:Option Nat)
 | func (f:FuncId) (first cap:List AV)
 | yield (l:Nat)
 | nilFunc
 | iface (t:TypeId) (v:AV)
 | nilIface
 | agg (cs:List AV)
 | tuple (vs:List AV)
def A1:AV:=.tuple []
def AV.cells:AV→List AV
 | .agg cs=>cs
 | v=>[v]
def AV.isCell:AV→Bool
 | .agg _ | .tuple _=>false
 | _=>true
def Af:List AV→Bool
 | []=>true
 | v::l=>v.isCell && Af l
inductive UJ where
 | ro | own | sealed
structure B0 where
 elem:TypeId
 sz:Nat
 n:Nat
 c:AG AV
 spare:Bool
 mode:UJ
 par:Option Nat
 bytes:Bool
 glob:Option Nat:=none
inductive CX where
 | loc (i:Nat)
 | var (j:Nat)
 | const (v:AV)
inductive Made where
 | ptr | slice (n:Nat) | map
structure Hs where
 state:LoopState
 pending:Option Code
 fn:FuncId
 var:List AV
 params:Array Tmp
 assign:Code
 body:Code
 dfr:Nat
inductive AX where
 | row (r:B0)
 | map (kt:TypeId) (es:List (AV×AV))
 | loop (l:Hs)
 | mark
 | iter (s:List Nat) (pos:Nat)
structure AE where
 next:Nat
 heap:AG AX
def GO:Value→Option AV
 | .bool b=>some (.bool b)
 | .int k n=>some (.int k n)
 | .string s=>some (.str (s.data.toList.map (fun(b:UInt8)=>b.toNat)))
 | .pointer none=>some (.ptr none)
 | .slice none 0 0=>some (.slice none 0 (some 0))
 | .map none=>some (.map none)
 | .nilFunc=>some .nilFunc
 | .nilIface=>some .nilIface
 | _=>none
def DK:List Value→Option (List AV)
 | []=>some []
 | v::l=>(GO v).bind fun a=>(DK l).bind fun r=>some (a::r)
def ofValue:Value→Option AV
 | .agg cs=>(DK cs.toList).bind fun l=>some (.agg l)
 | .tuple vs=>(DK vs.toList).bind fun l=>some (.tuple l)
 | v=>GO v
def AF{α:Type}(b:Bool)(x:Option α):Option α:=bif b then x else none
def Du{α:Type}(P:Program):Sem α→Option α
 | .pure a=>some a
 | .program k=>Du P (k P)
 | .mark _ k=>Du P k
 | _=>none
def A4(k:IntKind):Int→Bool
 | .ofNat m=>match k with
  | .i64=>Nat.ble m 9223372036854775807
  | .u64=>Nat.ble m 18446744073709551615
  | .i32=>Nat.ble m 2147483647
  | .u32=>Nat.ble m 4294967295
  | .u8=>Nat.ble m 255
  | .i8=>Nat.ble m 127
  | .u16=>Nat.ble m 65535
  | .i16=>Nat.ble m 32767
 | .negSucc m=>match k with
  | .i64=>Nat.ble m 9223372036854775807
  | .i32=>Nat.ble m 2147483647
  | .i8=>Nat.ble m 127
  | .i16=>Nat.ble m 32767
  | _=>false
def EW(k:IntKind)(n:Int):Int:=bif A4 k n then n else k.wrap n
def KP:Int→Int→Bool
 | .ofNat a,.ofNat b=>Nat.blt a b
 | .ofNat _,.negSucc _=>false
 | .negSucc _,.ofNat _=>true
 | .negSucc a,.negSucc b=>Nat.blt b a
def Nd:Int→Int→Bool
 | .ofNat a,.ofNat b=>Nat.beq a b
 | .negSucc a,.negSucc b=>Nat.beq a b
 | _,_=>false
def Nu:Int→Option Nat
 | .ofNat m=>some m
 | .negSucc _=>none
def BU:List Nat→List Nat→Bool
 | [],[]=>true
 | a::x,b::y=>bif Nat.beq a b then BU x y else false
 | _,_=>false
def E5:List Nat→List Nat→Bool
 | _,[]=>false
 | [],_::_=>true
 | a::x,b::y=>bif Nat.blt a b then true else bif Nat.beq a b then E5 x y else false
def OF(op:BinOp)(x y:List Nat):Option AV:=
 match op with
 | .add=>AF (Nat.ble (x.length+y.length) 1152921504606846976) (some (.str (x++y)))
 | .eql=>some (.bool (BU x y))
 | .neq=>some (.bool (!BU x y))
 | .lss=>some (.bool (E5 x y))
 | .leq=>some (.bool (E5 x y || BU x y))
 | .gtr=>some (.bool (!(E5 x y || BU x y)))
 | .geq=>some (.bool (!E5 x y))
 | _=>none
def Dy(P:Program)(t:TypeId):Option Bool:=
 match P.underlying t with
 | some (.struct _) | some (.array _ _)=>some true
 | some _=>some false
 | none=>none
def An(P:Program)(t:TypeId):Option Nat:=match P.info? t with
 | some i=>some i.size
 | none=>none
def Bw(P:Program)(t:TypeId):Option AV:=match P.info? t with
 | some i=>match i.zero with
  | some v=>ofValue v
  | none=>none
 | none=>none
def CH(P:Program)(t:TypeId):Option Nat:=match P.info? t with
 | some i=>some i.bytes
 | none=>none
def rowAt(s:AE)(i:Nat):Option B0:=match s.heap.get i with
 | some (.row r)=>some r
 | _=>none
def newObj(s:AE)(o:AX):AE:={ next:=s.next+1,heap:=s.heap.set s.next o }
def HI(elem:TypeId)(sz:Nat)(cells:List AV):AX:=
 .row { elem,sz,n:=cells.length,c:=AG.fill .leaf 0 cells,spare:=false,mode:=.own,par:=none,bytes:=true }
def setObj(s:AE)(i:Nat)(o:AX):AE:={ s with heap:=s.heap.set i o }
def Bd(s:AE)(i:Nat):AE:={ s with heap:=s.heap.del i }
def A9(s:AE)(i off n:Nat):Option (List AV):=
 (rowAt s i).bind fun r=>AF (Nat.ble (off+n) r.n) (r.c.take off n)
def B9(s:AE)(i off:Nat):Option AV:=
 (rowAt s i).bind fun r=>AF (Nat.blt off r.n) (r.c.get off)
def Ax(s:AE)(i:Nat)(r:B0):AE:=match r.par with
 | none=>s
 | some p=>bif Nat.beq p i then s else Bd s p
def Cx:UJ→Bool
 | .own=>true
 | _=>false
def Bk(s:AE)(i off:Nat)(vs:List AV):Option AE:=
 match vs with
 | []=>some s
 | _::_=>(rowAt s i).bind fun r =>
  AF (Cx r.mode && Nat.ble (off+vs.length) r.n && Af vs)
   (some (setObj (Ax s i r) i (.row { r with c:=r.c.fill off vs,par:=none })))
def KA(s:AE)(g:Nat):Option B0:=(rowAt s g).bind fun r=>match r.glob with
 | some g'=>AF (Nat.beq g' g) (some r)
 | none=>none
def AO(P:Program)(s:AE)(t:TypeId):AV→Option AV
 | .gptr i o=>(KA s i).bind fun _=>(Dy P t).bind fun g=>match g with
  | true=>(An P t).bind fun n=>(A9 s i o n).bind fun l=>some (.agg l)
  | false=>B9 s i o
 | .ptr (some (i,o))=>(Dy P t).bind fun g=>match g with
  | true=>(An P t).bind fun n=>(A9 s i o n).bind fun l=>some (.agg l)
  | false=>B9 s i o
 | _=>none
def BH(P:Program)(s:AE)(t:TypeId)(a v:AV):Option AE:=
 match a with
 | .ptr (some (i,o))=>(An P t).bind fun n=>AF (Nat.beq v.cells.length n) (Bk s i o v.cells)
 | _=>none
def El(P:Program)(t:TypeId):Bool:=match P.underlying t with
 | some (.pointer _)=>true
 | _=>false
def GI(P:Program)(t:TypeId):Bool:=match P.underlying t with
 | some (.slice _)=>true
 | _=>false
def KD(P:Program)(t:TypeId):Bool:=match P.underlying t with
 | some (.map ..)=>true
 | _=>false
def GH(P:Program)(t:TypeId):Bool:=match P.underlying t with
 | some (.func ..)=>true
 | _=>false
def KB(P:Program)(t:TypeId):Bool:=match P.underlying t with
 | some .bool=>true
 | _=>false
def Ta(P:Program)(t:TypeId):AV→AV→Option Bool
 | .bool a,.bool b=>AF (KB P t) (some (a == b))
 | .ptr none,.ptr b=>AF (El P t) (some b.isNone)
 | .ptr a,.ptr none=>AF (El P t) (some a.isNone)
 | .slice none _ _,.slice b _ _=>AF (GI P t) (some b.isNone)
 | .slice a _ _,.slice none _ _=>AF (GI P t) (some a.isNone)
 | .map none,.map b=>AF (KD P t) (some b.isNone)
 | .map a,.map none=>AF (KD P t) (some a.isNone)
 | .nilFunc,.nilFunc=>AF (GH P t) (some true)
 | .func ..,.nilFunc=>AF (GH P t) (some false)
 | .nilFunc,.func ..=>AF (GH P t) (some false)
 | _,_=>none
def Bh:IntKind→IntKind→Bool
 | .i8,.i8 | .i16,.i16 | .i32,.i32 | .i64,.i64 | .u8,.u8 | .u16,.u16 | .u32,.u32 | .u64,.u64=>true
 | _,_=>false
def RW(P:Program)(op:BinOp)(k:IntKind)(a b:Int):Option AV:=
 match op with
 | .add=>some (.int k (EW k (a+b)))
 | .sub=>some (.int k (EW k (a - b)))
 | .mul=>some (.int k (EW k (a * b)))
 | .eql=>some (.bool (Nd a b))
 | .neq=>some (.bool (!Nd a b))
 | .lss=>some (.bool (KP a b))
 | .leq=>some (.bool (!KP b a))
 | .gtr=>some (.bool (KP b a))
 | .geq=>some (.bool (!KP a b))
 | .quo | .rem=>(Du P (Op.intDiv op k a b)).bind ofValue
 | .shl | .shr=>none
 | _=>(Du P (Op.intBits op k a b)).bind ofValue
def AU(P:Program)(op:BinOp)(t:TypeId)(x y:AV):Option AV:=
 match x,y with
 | .int k a,.int k' b=>match op with
  | .shl | .shr=>(Du P (Op.shift op k a k' b)).bind ofValue
  | _=>AF (Bh k k') (RW P op k a b)
 | .str a,.str b=>OF op a b
 | x,y=>match op with
  | .eql=>(Ta P t x y).bind fun b=>some (.bool b)
  | .neq=>(Ta P t x y).bind fun b=>some (.bool (!b))
  | _=>none
def Rp(P:Program)(t:TypeId):Bool:=match P.underlying t with
 | some (.pointer e)=>(match P.info? e with | some j=>!Nat.beq j.size 0 | none=>false)
 | _=>false
def Fu(s:AE)(i:Nat):Bool:=match rowAt s i with
 | some r=>Cx r.mode && r.par.isNone
 | none=>false
def Gs(P:Program)(s:AE)(neg:Bool)(t:TypeId)(x y:AV):Option AV:=
 match x,y with
 | .ptr (some (i,o)),.ptr (some (j,q))=>AF (Rp P t && Fu s i && Fu s j) (some (.bool ((Nat.beq i j && Nat.beq o q) != neg)))
 | x,y=>AU P (bif neg then .neq else .eql) t x y
def X8(P:Program)(op:UnOp):AV→Option AV
 | .int k n=>match op with
  | .neg=>some (.int k (EW k (0 - n)))
  | .xor=>(Du P (Op.unary .xor (.int k n))).bind ofValue
  | _=>none
 | .bool b=>match op with
  | .not=>some (.bool (!b))
  | _=>none
 | _=>none
def IJ(place:Nat→Option (Nat×Nat))(cells:List AV):List (Nat×AV)→Option (List AV)
 | []=>some cells
 | (i,v)::rest=>(place i).bind fun p =>
  AF (Nat.beq v.cells.length p.2 && Nat.ble (p.1+v.cells.length) cells.length)
   (IJ place (cells.take p.1++(v.cells++cells.drop (p.1+v.cells.length))) rest)
def DU(P:Program):List Field→Option (List (Nat×Nat))
 | []=>some []
 | f::l=>(An P f.type).bind fun n=>(DU P l).bind fun r=>some ((f.offset,n)::r)
def Ab(P:Program)(t:TypeId)(parts:List (Nat×AV)):Option AV:=
 (Bw P t).bind fun z=>match P.underlying t with
  | some (.struct fields)=>(DU P fields.toList).bind fun places =>
   (IJ (fun i=>places[i]?) z.cells parts).bind fun l=>some (.agg l)
  | some (.array _ e)=>(An P e).bind fun n =>
   (IJ (fun i=>some (i * n,n)) z.cells parts).bind fun l=>some (.agg l)
  | _=>none
def Pc(l:List AV):Nat→List AV
 | 0=>[]
 | n+1=>l++Pc l n
def AW(P:Program)(t:TypeId)(len:Nat)(parts:List (Nat×AV)):Option AX:=
 match P.underlying t with
 | some (.slice e)=>(An P e).bind fun n=>AF (Nat.ble (len * n) 16777216) <|
  (Bw P e).bind fun z=>AF (Nat.beq z.cells.length n) <|
   (IJ (fun i=>some (i * n,n)) (Pc z.cells len) parts).bind fun l=>some (HI e n l)
 | _=>none
def Bu(P:Program)(s:AE)(src dst:TypeId)(x:AV):Option AV:=
 match P.underlying src,P.underlying dst,x with
 | some _,some (.int k),.int _ n=>some (.int k (EW k n))
 | some _,some .string,.str l=>some (.str l)
 | some (.slice e),some .string,.slice a len _=>match P.underlying e with
  | some (.int .u8)=>match a with
   | none=>some (.str [])
   | some (i,o)=>(A9 s i o len).bind fun l=>(bytesOf l).bind fun b=>some (.str b)
  | _=>none
 | some (.pointer u),some .unsafePointer,x=>seenPtr u x
 | some .unsafePointer,some (.pointer u),x=>seenPtr u x
 | _,_,_=>none
where
 seenPtr (u:TypeId):AV→Option AV
  | .ptr none=>some (.ptr none)
  | .ptr (some (i,o))=>(rowAt s i).bind fun r=>(An P u).bind fun n =>
   AF (Cx r.mode && r.bytes && Nat.beq o 0 && Nat.beq r.elem u && Nat.ble n r.n && !Nat.beq n 0) (some (.ptr (some (i,o))))
  | _=>none
 bytesOf:List AV→Option (List Nat)
  | []=>some []
  | .int .u8 (.ofNat n)::l=>AF (Nat.blt n 256) ((bytesOf l).bind fun r=>some (n::r))
  | _::_=>none
def idxOf:AV→Option Nat
 | .int _ n=>Nu n
 | _=>none
def BT(x:AV)(y:Nat):Option Nat:=(idxOf x).bind fun i=>AF (Nat.ble i y) (some i)
def BO(P:Program)(s:AE)(t:TypeId)(x:AV)(lo hi mx:Option AV):Option AV:=
 match x with
 | .str l=>(match mx with | some _=>none | none=>some ()).bind fun _ =>
  (match hi with | some h=>BT h l.length | none=>some l.length).bind fun h =>
  (match lo with | some v=>BT v h | none=>some 0).bind fun o =>
  (match P.underlying t with | some .string=>some () | _=>none).bind fun _=>some (.str ((l.drop o).take (h - o)))
 | .slice a len cap=>match P.underlying t with
  | some (.slice e)=>(An P e).bind fun n =>
   (match cap with
    | some c=>some c
    | none=>match a with
     | none=>none
     | some (i,o)=>(rowAt s i).bind fun r=>AF (Nat.ble o r.n && Nat.beq n r.sz && !Nat.beq n 0) (some ((r.n - o) / n))).bind fun far =>
   (match mx with | some m=>(BT m far).bind fun c=>AF (cap.isSome || Nat.blt 0 far) (some (some c)) | none=>some cap).bind fun m =>
   (match hi,m with
    | some h,some c=>BT h c
    | some h,none=>BT h far
    | none,some c=>(match mx with | none=>some len | some _=>(fun(_:Nat)=>none) c)
    | none,none=>some len).bind fun h =>
   (match lo with | some v=>BT v h | none=>some 0).bind fun l =>
   some (.slice
    (match a with
     | none=>none
     | some (i,o)=>match m with
      | some c=>bif Nat.beq c l then some (i,o)else some (i,o+l * n)
      | none=>some (i,o+l * n))
    (h - l) (match m with | some c=>some (c - l) | none=>none))
  | _=>none
 | .ptr (some (i,o))=>match P.underlying t with
  | some (.array len e)=>arr len e i o
  | some (.pointer u)=>match P.underlying u with
   | some (.array len e)=>arr len e i o
   | _=>none
  | _=>none
 | _=>none
where
 arr (len:Nat) (e:TypeId) (i o:Nat):Option AV:=(An P e).bind fun n =>
  (match mx with | some m=>BT m len | none=>some len).bind fun m =>
  (match hi with | some h=>BT h m | none=>match mx with | none=>some len | some _=>none).bind fun h =>
  (match lo with | some v=>BT v h | none=>some 0).bind fun l =>
  some (.slice (some (i,bif Nat.beq m l then o else o+l * n)) (h - l) (some (m - l)))
def AB(P:Program)(t:TypeId)(x:AV)(f:Nat):Option AV:=
 match x with
 | .ptr (some (i,o))=>match P.underlying t with
  | some (.struct fs)=>(fs[f]?).bind fun fd=>(An P fd.type).bind fun n =>
   AF (!Nat.beq n 0) (some (.ptr (some (i,o+fd.offset))))
  | _=>none
 | _=>none
def Nz(P:Program)(t:TypeId)(cs:List AV)(off:Nat):Option AV:=
 (Dy P t).bind fun g=>match g with
  | true=>(An P t).bind fun n=>some (.agg ((cs.drop off).take n))
  | false=>cs[off]?
def Cb(P:Program)(t:TypeId)(x:AV)(f:Nat):Option AV:=
 match x with
 | .agg cs=>match P.underlying t with
  | some (.struct fs)=>(fs[f]?).bind fun fd=>Nz P fd.type cs fd.offset
  | _=>none
 | _=>none
def AQ(P:Program)(t:TypeId)(x ix:AV):Option AV:=
 (idxOf ix).bind fun k=>match x with
  | .ptr (some (i,o))=>match P.underlying t with
   | some (.array len e)=>(An P e).bind fun n=>AF (Nat.blt k len) (some (.ptr (some (i,o+k * n))))
   | _=>none
  | .gptr g o=>match P.underlying t with
   | some (.array len e)=>(An P e).bind fun n=>AF (Nat.blt k len) (some (.gptr g (o+k * n)))
   | _=>none
  | .slice (some (i,o)) len _=>match P.underlying t with
   | some (.slice e)=>(An P e).bind fun n=>AF (Nat.blt k len) (some (.ptr (some (i,o+k * n))))
   | _=>none
  | _=>none
def Mb(P:Program)(t:TypeId)(x ix:AV):Option AV:=
 (idxOf ix).bind fun k=>match x with
  | .agg cs=>match P.underlying t with
   | some (.array len e)=>(An P e).bind fun n=>AF (Nat.blt k len) (Nz P e cs (k * n))
   | _=>none
  | .str l=>match P.underlying t with
   | some .string=>(l[k]?).bind fun b=>some (.int .u8 (.ofNat b))
   | _=>none
  | _=>none
def Az:AV→Option AV
 | .ptr none | .nilIface | .nilFunc=>none
 | v=>some v
def Xv(x:AV)(i:Nat):Option AV:=
 match x with
 | .tuple vs=>vs[i]?
 | _=>none
def Ro(c a b:AV):Option AV:=
 match c with
 | .bool true=>some a
 | .bool false=>some b
 | _=>none
def Dp(mx:Bool):AV→List AV→Option AV
 | v,[]=>some v
 | .int k a,.int k' b::l=>AF (Bh k k') (Dp mx (.int k (bif (bif mx then KP a b else KP b a)then b else a)) l)
 | _,_=>none
def Cm:AV→AV→Option Bool
 | .int k a,.int k' b=>AF (Bh k k') (some (Nd a b))
 | .str a,.str b=>some (BU a b)
 | .agg a,.agg b=>keysEq a b
 | _,_=>none
where
 keysEq:List AV→List AV→Option Bool
 | [],[]=>some true
 | .int k a::x,.int k' b::y=>AF (Bh k k') ((keysEq x y).bind fun r=>some (Nd a b && r))
 | .str a::x,.str b::y=>(keysEq x y).bind fun r=>some (BU a b && r)
 | _,_=>none
def CI(k:AV):List (AV×AV)→Nat→Option (Option (Nat×AV))
 | [],_=>some none
 | (k',v)::l,i=>(Cm k k').bind fun e=>match e with
  | true=>some (some (i,v))
  | false=>CI k l (i+1)
def FY(P:Program):Nat→TypeId→List AV→Bool
 | 0,_,_=>false
 | d+1,t,cs=>match P.underlying t with
  | some (.int q)=>match cs with
   | [.int q' n]=>Bh q' q && A4 q n
   | _=>false
  | some .string=>match cs with
   | [.str l]=>Nat.ble l.length 1099511627776
   | _=>false
  | some (.array n e)=>Nat.beq cs.length (P.cellsOf t) && (List.range n).all fun i=>FY P d e ((cs.drop (i * P.cellsOf e)).take (P.cellsOf e))
  | some (.struct fs)=>Nat.beq cs.length (P.cellsOf t) && fs.toList.all fun f=>FY P d f.type ((cs.drop f.offset).take (P.cellsOf f.type))
  | _=>false
def CA(P:Program)(t:TypeId)(k:AV):Bool:=match P.underlying t with
 | some (.array _ _) | some (.struct _)=>match k with
  | .agg cs=>FY P 4 t cs
  | _=>false
 | _=>FY P 1 t [k]
def Do(P:Program)(t:TypeId):Bool:=match P.underlying t with
 | some (.int _) | some .string=>true
 | some (.array _ _) | some (.struct _)=>P.keyType t && (P.tiled (P.types.size+1) t && (Nat.ble 4 P.types.size && Nat.ble P.types.size 9990))
 | _=>false
def Fa(P:Program)(t:TypeId):Bool:=match P.underlying t with
 | some (.map kt _)=>Do P kt
 | _=>false
def DH(P:Program)(t:TypeId):Option TypeId:=match P.underlying t with
 | some (.map kt _)=>some kt
 | _=>none
def FZ(s:AE)(kt:TypeId)(i:Nat):Option (List (AV×AV)):=match s.heap.get i with
 | some (.map kt' es)=>AF (Nat.beq kt' kt) (some es)
 | _=>none
def Bp(P:Program)(s:AE)(t:TypeId)(m k:AV)(ok:Bool):Option AV:=
 match P.underlying t with
 | some (.map kt et)=>AF (CA P kt k) <|
  (match m with
   | .map none=>some []
   | .map (some i)=>FZ s kt i
   | _=>none).bind fun es=>(CI k es 0).bind fun r =>
   (match r with
    | some (_,v)=>some (v,true)
    | none=>(Bw P et).bind fun z=>some (z,false)).bind fun p=>some (bif ok then .tuple [p.1,.bool p.2]else p.1)
 | _=>none
def setNth(es:List (AV×AV))(i:Nat)(v:AV):List (AV×AV):=
 match es,i with
 | [],_=>[]
 | (k,_)::l,0=>(k,v)::l
 | e::l,i+1=>e::setNth l i v
def JD(k v:AV)(es:List (AV×AV)):Option (List (AV×AV)):=(CI k es 0).bind fun r=>match r with
 | some (j,_)=>some (setNth es j v)
 | none=>some (es++[(k,v)])
def Br(P:Program)(s:AE)(t:TypeId)(m k v:AV):Option AE:=
 match P.underlying t,m with
 | some (.map kt _),.map (some i)=>AF (CA P kt k) <|
  (FZ s kt i).bind fun es=>(JD k v es).bind fun es'=>some (setObj s i (.map kt es'))
 | _,_=>none
def delNth(es:List (AV×AV))(i:Nat):List (AV×AV):=
 match es,i with
 | [],_=>[]
 | _::l,0=>l
 | e::l,i+1=>e::delNth l i
def Hf(P:Program)(s:AE)(t:TypeId)(m k:AV):Option AE:=
 match P.underlying t with
 | some (.map kt _)=>AF (CA P kt k) <| match m with
  | .map none=>some s
  | .map (some i)=>(FZ s kt i).bind fun es=>(CI k es 0).bind fun r=>match r with
    | some (j,_)=>some (setObj s i (.map kt (delNth es j)))
    | none=>some s
  | _=>none
 | _=>none
def Ce(P:Program)(s:AE)(t:TypeId):AV→Option AV
 | .str l=>match P.underlying t with
  | some .string=>some (.int .i64 (.ofNat l.length))
  | _=>none
 | .slice _ n _=>match P.underlying t with
  | some (.slice _)=>some (.int .i64 (.ofNat n))
  | _=>none
 | .map none=>match P.underlying t with
  | some (.map ..)=>some (.int .i64 (.ofNat 0))
  | _=>none
 | .map (some i)=>match P.underlying t with
  | some (.map ..)=>match s.heap.get i with
   | some (.map _ es)=>some (.int .i64 (.ofNat es.length))
   | _=>none
  | _=>none
 | _=>none
def OV(P:Program)(s:AE)(t:TypeId):AV→Option AV
 | .slice a _ cap=>match P.underlying t with
  | some (.slice e)=>match cap with
   | some c=>some (.int .i64 (.ofNat c))
   | none=>match a with
    | some (i,o)=>(An P e).bind fun n=>(rowAt s i).bind fun r=>AF (!r.spare && Nat.ble o r.n && Nat.beq n r.sz && !Nat.beq n 0) (some (.int .i64 (.ofNat ((r.n - o) / n))))
    | none=>none
  | _=>none
 | _=>none
def Q3:AV→Option AV
 | .slice none _ _=>some (.ptr none)
 | .slice (some (i,o)) (_+1) _=>some (.ptr (some (i,o)))
 | _=>none
def Made.val(i:Nat):Made→AV
 | .ptr=>.ptr (some (i,0))
 | .slice n=>.slice (some (i,0)) n (some n)
 | .map=>.map (some i)
def B2(P:Program)(e:TypeId):Option (AX×Made):=(Bw P e).bind fun z=>some (HI e 0 z.cells,.ptr)
def FN(e:TypeId)(v:AV):Option (AX×Made):=some (HI e 0 v.cells,.ptr)
def EL(P:Program)(t:TypeId)(l c:AV):Option (AX×Made):=
 match P.underlying t,l,c with
  | some (.slice e),.int .i64 (.ofNat l),.int .i64 (.ofNat c)=>(CH P e).bind fun by_=>(An P e).bind fun n =>
   AF (Nat.beq l c && Nat.ble (by_ * c) 1099511627776 && Nat.ble c 1099511627776) <|
   (Bw P e).bind fun z=>AF (Nat.beq z.cells.length n) (some (HI e n (Pc z.cells c),.slice c))
  | _,_,_=>none
def Md(P:Program)(t:TypeId):Bool:=match P.underlying t with
 | some (.int _)=>true
 | _=>false
def Ki(s:AE)(i o n size:Nat):Option (List AV):=bif Nat.beq n 0 then some []else A9 s i o (n * size)
def Co(P:Program)(s:AE)(e:TypeId)(size:Nat):AV→Option (Nat×List AV)
 | .int _ (.ofNat n)=>AF (Nat.ble n 1099511627776 && Nat.blt 0 n) ((Bw P e).bind fun z=>AF (Nat.beq z.cells.length size) (some (n,Pc z.cells n)))
 | .slice none _ _=>some (0,[])
 | .slice (some (i,o)) n _=>(Ki s i o n size).bind fun l=>some (n,l)
 | .str l=>AF (Nat.beq size 1) (some (l.length,l.map fun b=>.int .u8 (.ofNat b)))
 | _=>none
def BX(P:Program)(t:TypeId):Bool:=match P.underlying t with
 | some (.slice _) | some .string=>true
 | _=>false
def CM(e:TypeId)(sz:Nat)(c:AG AV)(n:Nat)(par:Option Nat)(base:Bool):AX:=
 .row { elem:=e,sz,n,c,spare:=true,mode:=.own,par,bytes:=base }
def B6(P:Program)(e:TypeId)(size:Nat):Bool:=match Bw P e with
 | some z=>Nat.beq z.cells.length size
 | none=>false
def Ba(P:Program)(s:AE)(e:TypeId)(size n:Nat)(cells:List AV):Option (AV×AE):=
 AF (B6 P e size) (some (.slice (some (s.next,0)) n none,newObj s (CM e size (AG.fill .leaf 0 cells) cells.length none true)))
def Bz(s:AE)(i:Nat)(r:B0)(ends:Bool):AE:=
 bif ends then setObj (Ax s i r) i (.row { r with mode:=.sealed,par:=none })else Bd (Ax s i r) i
def DP(P:Program)(s:AE)(e:TypeId)(size i o len:Nat)(src:Nat×List AV)(r:B0)(old:List AV):Option (AV×AE):=
 AF (Cx r.mode && Nat.beq r.elem e && B6 P e size) <|
  let ends:=Nat.beq (o+len * size) r.n
  let s2:=Bz s i r ends
  some (.slice (some (s.next,0)) (len+src.1) none,
   newObj s2 (CM e size (bif Nat.beq o 0 then r.c.fill (len * size) src.2 else AG.fill .leaf 0 (old++src.2)) (old++src.2).length (bif ends then some i else none) (r.bytes && Nat.beq o 0)))
def Jt(P:Program)(s:AE)(e:TypeId)(size i o len:Nat)(src:Nat×List AV)(r:B0):Option (AV×AE):=
 AF (Nat.beq size r.sz) <|
 bif Nat.ble (o+(len+src.1) * size) r.n then
  (Bk s i (o+len * size) src.2).bind fun s'=>some (.slice (some (i,o)) (len+src.1) none,s')
 else (A9 s i o (len * size)).bind fun old =>
  bif r.spare then DP P s e size i o len src r old else Ba P s e size (len+src.1) (old++src.2)
def Dz(P:Program)(s:AE)(e:TypeId)(size i o len c:Nat)(src:Nat×List AV):Option (AV×AE):=
 bif Nat.ble (len+src.1) c then
  (Bk s i (o+len * size) src.2).bind fun s'=>some (.slice (some (i,o)) (len+src.1) (some c),s')
 else (A9 s i o (len * size)).bind fun old=>Ba P s e size (len+src.1) (old++src.2)
def appTo(P:Program)(s:AE)(e:TypeId)(size:Nat)(a:Option (Nat×Nat))(len:Nat)(cap:Option Nat)(src:Nat×List AV):Option (AV×AE):=
 match a with
 | none=>bif Nat.beq src.1 0 then some (.slice none 0 (some 0),s)else Ba P s e size src.1 src.2
 | some (i,o)=>match cap with
  | some c=>Dz P s e size i o len c src
  | none=>(rowAt s i).bind fun r=>Jt P s e size i o len src r
def As(P:Program)(s:AE)(argTypes:List TypeId)(args:List AV):Option (AV×AE):=
 match argTypes,args with
 | [st,xt],[.slice a len cap,x]=>match P.underlying st with
  | some (.slice e)=>(An P e).bind fun size=>(CH P e).bind fun by_ =>
   AF (!Nat.beq size 0 && (match x with | .int ..=>Md P xt | _=>BX P xt)) <|
   (Co P s e size x).bind fun src =>
   AF (Af src.2 && Nat.ble ((len+src.1) * by_) 1099511627776 && Nat.ble (len+src.1) 1099511627776) <|
   appTo P s e size a len cap src
  | _=>none
 | _,_=>none
def IB(P:Program)(s:AE)(argTypes:List TypeId)(args:List AV):Option (AV×AE):=
 match argTypes,args with
 | dt::_,[.slice a dl _,x]=>match P.underlying dt with
  | some (.slice e)=>(An P e).bind fun size =>
   (match x with | .slice _ n _=>some n | .str l=>some l.length | _=>none).bind fun sl =>
   let n:=bif Nat.ble sl dl then sl else dl
   (match x with
    | .slice none _ _=>some []
    | .slice (some (i,o)) _ _=>A9 s i o (n * size)
    | .str l=>AF (Nat.beq size 1) (some ((l.take n).map fun b=>.int .u8 (.ofNat b)))
    | _=>none).bind fun cells =>
   (match a with
    | none=>some s
    | some (i,o)=>Bk s i o cells).bind fun s'=>some (.int .i64 (.ofNat n),s')
  | _=>none
 | _,_=>none
def NZ(r:B0):AX:=.row { r with n:=0,spare:=true,mode:=.ro,par:=none,bytes:=false,glob:=none }
def OK(P:Program)(s:AE)(t:TypeId)(n:Nat):Option (Nat×Nat)→Option (AV×AE)
 | none=>none
 | some (i,o)=>match P.underlying t with
  | some (.pointer e)=>(rowAt s i).bind fun r=>AF (Cx r.mode && r.bytes && Nat.beq o 0 && Nat.beq r.elem e && Nat.ble n 1099511627776) <| (An P e).bind fun z=>AF (Nat.beq z 1) <|
   (A9 s i o n).bind fun l=>(Bu.bytesOf l).bind fun b=>some (.str b,setObj (Ax s i r) i (NZ r))
  | _=>none
def TE(P:Program)(s:AE)(argTypes:List TypeId)(args:List AV):Option (AV×AE):=
 match argTypes,args with
 | [t,_],[.ptr a,.int .i64 (.ofNat n)]=>match n with
  | 0=>some (.str [],s)
  | n+1=>OK P s t (n+1) a
 | _,_=>none
def SS(s:AE):List AV→Option (AV×AE)
 | [x]=>some (x,s)
 | _=>none
def KS(e:TypeId)(s:AE):List AV→Option (AV×AE)
 | [.int .i64 (.ofNat n)]=>AF (Nat.ble n 1099511627776) (some (.slice (some (s.next,0)) n none,newObj s (CM e 1 .leaf n none true)))
 | _=>none
def NX(s:AE):List AV→Option (AV×AE)
 | [.str a,.str b]=>some (.int .i64 (bif E5 a b then -1 else bif BU a b then 0 else 1),s)
 | _=>none
def LA(P:Program)(name:String)(rt:Array TypeId):Option (AE→List AV→Option (AV×AE)):=
  bif name == "internal/abi.NoEscape" then some SS else
  bif name == "internal/bytealg.abigen_runtime_cmpstring" then some NX else
  bif name == "internal/bytealg.MakeNoZero" then (match rt.toList with
    | [t]=>match P.underlying t with
      | some (.slice e)=>match An P e with
        | some 1=>some (KS e)
        | _=>none
      | _=>none
    | _=>none)
  else none
def RA(P:Program)(f:FuncId):Option (AE→List AV→Option (AV×AE)):=match P.funcs[f]? with
  | some fn=>match fn.body with
    | some _=>none
    | none => bif fn.origin == "" then LA P fn.name fn.resultTypes else none
  | none=>none
def MM(P:Program)(s:AE)(argTypes:List TypeId)(args:List AV):Option (AV×AE):=
 match argTypes,args with
 | t::_,[x]=>match P.underlying t,x with
  | some (.slice _),.slice none _ _=>some (A1,s)
  | some (.slice _),.slice _ 0 _=>some (A1,s)
  | some (.slice e),.slice (some (i,o)) n _=>(Bw P e).bind fun z=>(Bk s i o (Pc z.cells n)).bind fun s'=>some (A1,s')
  | _,_=>none
 | _,_=>none
inductive Sh where
 | p1 (f:AV→Option AV)
 | p2 (f:AV→AV→Option AV)
 | p (f:List AV→Option AV)
 | r1 (f:AE→AV→Option AV)
 | r (f:AE→List AV→Option AV)
 | mk (f:List AV→Option (AX×Made))
 | e (f:AE→List AV→Option (AV×AE))
 | call (f:FuncId)
 | callv
def Sh.isEff:Sh→Bool
 | .e _ | .call _ | .callv=>true
 | _=>false
def Sh.isRead:Sh→Bool
 | .r1 _ | .r _=>true
 | _=>false
def Rn:List AV→Option AV
 | [c,a,b]=>Ro c a b
 | _=>none
def Xs{α:Type}(f:AV→AV→Option α):List AV→Option α
 | [a,b]=>f a b
 | _=>none
def Xt{α:Type}(f:AV→AV→AV→Option α):List AV→Option α
 | [a,b,c]=>f a b c
 | _=>none
def Xu(x:Option AE):Option (AV×AE):=match x with
 | some s=>some (A1,s)
 | none=>none
def Ad(P:Program)(t:TypeId)(lo hi mx:Bool)(s:AE):List AV→Option AV
 | [x]=>match lo,hi,mx with
  | false,false,false=>BO P s t x none none none
  | _,_,_=>none
 | [x,a]=>match lo,hi,mx with
  | true,false,false=>BO P s t x (some a) none none
  | false,true,false=>BO P s t x none (some a) none
  | _,_,_=>none
 | [x,a,b]=>match lo,hi,mx with
  | true,true,false=>BO P s t x (some a) (some b) none
  | false,true,true=>BO P s t x none (some a) (some b)
  | _,_,_=>none
 | [x,a,b,c]=>match lo,hi,mx with
  | true,true,true=>BO P s t x (some a) (some b) (some c)
  | _,_,_=>none
 | _=>none
def zipIdx(is:List Nat)(l:List AV):List (Nat×AV):=is.zip l
def Em:Operand→Bool
 | .tmp _=>true
 | _=>false
def Sc(P:Program)(op:BinOp)(t:TypeId)(x y:Operand):Option Bool:=match op with
 | .eql=>bif Em x && Em y && El P t then some false else none
 | .neq=>bif Em x && Em y && El P t then some true else none
 | _=>none
def Aa(P:Program)(o:Op):Option (Sh×List Operand):=
 match o with
 | .move x | .assign x=>some (.p1 some,[x])
 | .pick c a b=>some (.p Rn,[c,a,b])
 | .build t ps=>some (.p (fun l=>Ab P t (zipIdx (ps.toList.map (·.1)) l)),ps.toList.map (·.2))
 | .nilCheck x=>some (.p1 Az,[x])
 | .binOp op t x y _=>match Sc P op t x y with
  | some neg=>some (.r (fun s=>Xs (Gs P s neg t)),[x,y])
  | none=>some (.p2 (AU P op t),[x,y])
 | .unOp op _ x=>some (.p1 (X8 P op),[x])
 | .makeFunc fn first captured=>match fn with
  | .func f=>some (.p (fun l=>some (.func f (l.take first.size) (l.drop first.size))),first.toList++captured.toList)
  | _=>none
 | .fieldAddr t x f=>some (.p1 (fun x=>AB P t x f),[x])
 | .field t x f=>some (.p1 (fun x=>Cb P t x f),[x])
 | .indexAddr t x i=>some (.p2 (AQ P t),[x,i])
 | .index t x i=>some (.p2 (Mb P t),[x,i])
 | .extract t i=>some (.p1 (fun x=>Xv x i),[t])
 | .load t a=>some (.r1 (fun s a=>AO P s t a),[a])
 | .lookup t m k ok=>AF (Fa P t) (some (.r (fun s=>Xs (fun m k=>Bp P s t m k ok)),[m,k]))
 | .convert src dst x=>some (.r1 (fun s x=>Bu P s src dst x),[x])
 | .slice t x lo hi mx=>some (.r (Ad P t lo.isSome hi.isSome mx.isSome),[x]++lo.toList++hi.toList++mx.toList)
 | .alloc e=>some (.mk (fun l=>match l with | []=>B2 P e | _=>none),[])
 | .box e x=>some (.mk (fun l=>match l with | [v]=>FN e v | _=>none),[x])
 | .buildSlice t len ps=>some (.mk (fun l=>(AW P t len (zipIdx (ps.toList.map (·.1)) l)).bind fun r=>some (r,.slice len)),ps.toList.map (·.2))
 | .makeMap t none=>AF (Fa P t) (some (.mk (fun l=>match l with | []=>(DH P t).bind fun kt=>some (.map kt [],.map) | _=>none),[]))
 | .makeSlice t l c=>some (.mk (Xs (EL P t)),[l,c])
 | .store t a x=>some (.e (fun s=>Xs (fun a x=>Xu (BH P s t a x))),[a,x])
 | .mapUpdate t m k x | .insert t m k x=>AF (Fa P t) (some (.e (fun s=>Xt (fun m k x=>Xu (Br P s t m k x))),[m,k,x]))
 | .call { callee,args,argTypes }=>match callee with
  | .value (.func f)=>match RA P f with
   | some e=>some (.e e,args.toList)
   | none=>some (.call f,args.toList)
  | .value x=>some (.callv,x::args.toList)
  | .invoke ..=>none
  | .builtin b=>match b with
   | .len=>match argTypes[0]? with
    | some t=>some (.r (fun s l=>match l with | [x]=>Ce P s t x | _=>none),args.toList)
    | none=>none
   | .cap=>match argTypes[0]? with
    | some t=>some (.r (fun s l=>match l with | [x]=>OV P s t x | _=>none),args.toList)
    | none=>none
   | .min=>some (.p (fun l=>match l with | v::l=>Dp false v l | []=>none),args.toList)
   | .max=>some (.p (fun l=>match l with | v::l=>Dp true v l | []=>none),args.toList)
   | .append=>some (.e (fun s l=>As P s argTypes.toList l),args.toList)
   | .copy=>some (.e (fun s l=>IB P s argTypes.toList l),args.toList)
   | .unsafeSliceData=>some (.p (fun l=>match l with | [x]=>Q3 x | _=>none),args.toList)
   | .unsafeString=>some (.e (fun s l=>TE P s argTypes.toList l),args.toList)
   | .clear=>some (.e (fun s l=>MM P s argTypes.toList l),args.toList)
   | .delete=>match argTypes[0]? with
    | some t=>AF (Fa P t) (some (.e (fun s=>Xs (fun m k=>Xu (Hf P s t m k))),args.toList))
    | none=>none
   | _=>none
 | _=>none
def X9(t:Nat):Nat:=Nat.shiftLeft 1 t
def Ew:List Operand→Nat
 | []=>0
 | .tmp t::l=>Nat.lor (X9 t) (Ew l)
 | _::l=>Ew l
def IF(P:Program):List Oper→Nat→Nat→Nat
 | [],_,e=>e
 | o::l,wr,e =>
  let rd:=match Aa P o.op with
   | some (_,xs)=>Ew xs
   | none=>0
  IF P l (match o.dst with | some d=>Nat.lor wr (X9 d) | none=>wr) (Nat.lor e (Nat.sub rd (Nat.land rd wr)))
def C8(P:Program):Code→Nat
 | .region _ ops _=>IF P ops.toList 0 0
 | .seq a b=>Nat.lor (C8 P a) (C8 P b)
 | .cond c a b=>Nat.lor (Ew [c]) (Nat.lor (C8 P a) (C8 P b))
 | .block _ b | .loop b | .scope b=>C8 P b
 | .rangeFunc f ps a b=>Nat.lor (Ew [f]) (Nat.lor (ps.toList.foldl (fun m t=>Nat.lor m (X9 t)) 0) (Nat.lor (C8 P a) (C8 P b)))
 | _=>0
def Fv:List ResultVar→Nat
 | []=>0
 | .tmp t::l | .cell t _::l=>Nat.lor (X9 t) (Fv l)
def D1(m:Nat):Nat→Nat→List Nat
 | 0,_=>[]
 | n+1,k=>bif m.testBit k then k::D1 m n (k+1)else D1 m n (k+1)
def B3(fn:Func):Nat:=fn.params.size+fn.nfree
def Ah(P:Program)(fn:Func):List Tmp:=
 List.range (B3 fn)++match fn.body with
 | none=>[]
 | some c=>D1 (Nat.lor (C8 P c) (Fv fn.results.toList)) (fn.ntmps - B3 fn) (B3 fn)
def BA:List Tmp→Tmp→Option Nat
 | [],_=>none
 | a::l,t=>bif Nat.beq a t then some 0 else (BA l t).bind fun j=>some (j+1)
def K9(P:Program)(o:Oper):Bool:=match Aa P o.op with
 | some (s,_)=>s.isEff
 | none=>true
def N3(b:Array Nat)(done:Nat)(i:Nat):Bool:=Nat.beq (Nat.land (b.getD i 0) done) (b.getD i 0)
def Mr(P:Program)(ops:Array Oper)(b:Array Nat):Nat→Nat→List Nat→List Nat→List Nat
 | 0,_,_,acc=>acc.reverse
 | f+1,done,todo,acc =>
  match todo.find? fun i=>N3 b done i && !K9 P (ops.getD i default)with
  | some i=>Mr P ops b f (done+2 ^ i) (todo.filter fun j=>!Nat.beq j i) (i::acc)
  | none=>match todo.find? fun i=>N3 b done i with
   | some i=>Mr P ops b f (done+2 ^ i) (todo.filter fun j=>!Nat.beq j i) (i::acc)
   | none=>acc.reverse
def Tt(P:Program)(ops:Array Oper):List Nat:=Mr P ops (Region.before ops) ops.size 0 (List.range ops.size) []
def EM(P:Program)(o:Oper):List Tmp:=o.dst.toList++((match Aa P o.op with
 | some (_,xs)=>xs
 | none=>[]).filterMap fun x:Operand=>match x with
  | .tmp t=>some t
  | _=>none)
def Nh(o:Oper):List Nat:=match o.guard with
 | some (j,_)=>[j]
 | none=>[]
def Kj(P:Program)(ops:Array Oper)(b:Array Nat)(before:List Nat)(i:Nat):Bool:=
 let o:=ops.getD i default
 let anc:=b.getD i 0
 Nat.blt i ops.size && !before.contains i &&
 (List.range ops.size).all (fun j=>!anc.testBit j || before.contains j) &&
 o.after.all (fun e=>!Region.binds .any e || before.contains e.on) &&
 before.all (fun j=>!K9 P (ops.getD j default) || anc.testBit j) &&
 (Nh o).all (fun j=>anc.testBit j) &&
 before.all (fun j=>let p:=ops.getD j default
  (match o.dst with
   | none=>true
   | some d=>p.dst != some d && (!(EM P p).contains d || anc.testBit j)) &&
  (match p.dst with
   | none=>true
   | some d=>!(EM P o).contains d || anc.testBit j))
def Da(P:Program)(ops:Array Oper)(b:Array Nat):List Nat→List Nat→Bool
 | before,[]=>Nat.beq before.length ops.size
 | before,i::l=>Kj P ops b before i && Da P ops b (before++[i]) l
inductive Gc where
 | push | set (j:Nat)
structure EX where
 guard:Option (CX×Bool)
 sh:Sh
 xs:List CX
 ans:CX
structure AD where
 guard:Option (CX×Bool)
 sh:Sh
 xs:List CX
 dst:Gc
 again:List EX
structure TM where
 map:List (Tmp×CX)
 cnt:Nat
def C0:List (Tmp×CX)→Tmp→Option CX
 | [],_=>none
 | (a,x)::l,t=>bif Nat.beq a t then some x else C0 l t
def BV(cnt:Nat):CX→CX
 | .loc p=>.loc (cnt - 1 - p)
 | x=>x
def C1(vars:List Tmp)(c:TM)(t:Tmp):Option CX:=
 match C0 c.map t with
 | some x=>some x
 | none=>(BA vars t).bind fun j=>some (.var j)
def DY(vars:List Tmp)(c:TM):Operand→Option CX
 | .tmp t=>C1 vars c t
 | .const v=>(ofValue v).bind fun a=>some (.const a)
 | .global g=>some (.const (.gptr g 0))
 | .func f=>some (.const (.func f [] []))
def Ft(vars:List Tmp)(c:TM):List Operand→Option (List CX)
 | []=>some []
 | x::l=>(DY vars c x).bind fun a=>(Ft vars c l).bind fun r=>some (a::r)
def isVar(j:Nat):CX→Bool
 | .var i=>Nat.beq i j
 | _=>false
def GN(j:Nat):List (Tmp×CX)→Bool
 | []=>true
 | (_,x)::l=>!isVar j x && GN j l
def Ha(vars:List Tmp)(later:List (Option Tmp))(o:Oper)(x:CX):Bool:=
 (match o.op with | .move _=>true | _=>false) && o.guard.isNone &&
 (match o.dst with | some d=>(BA vars d).isNone | none=>false) &&
 (match x with
  | .var j=>!(later.any fun d=>match d with
   | some t=>match BA vars t with
    | some i=>Nat.beq i j
    | none=>false
   | none=>false)
  | _=>true)
def FP(cnt:Nat):Option (CX×Bool)→Option (CX×Bool)
 | none=>none
 | some (x,b)=>some (BV cnt x,b)
def GR(cnt:Nat)(r:EX):EX:={ guard:=FP cnt r.guard,sh:=r.sh,xs:=r.xs.map (BV cnt),ans:=BV cnt r.ans }
def Kc(j:Nat)(r:EX):Bool:=(match r.guard with | none=>true | some (x,_)=>!isVar j x) && r.xs.all fun x=>!isVar j x
def C6(P:Program)(nt:Nat)(vars:List Tmp)(ops:Array Oper)(b:Array Nat)(draw:Bool):List Nat→TM→List (Nat×EX)→Option (List AD)
  | [],_,_=>some []
  | i::l,c,rs=>(ops[i]?).bind fun o=>(Aa P o.op).bind fun sh=>(Ft vars c sh.2).bind fun xs =>
    match (match xs with | [x]=>bif Ha vars (l.map fun j=>(ops.getD j default).dst) o x then some x else none | _=>none),o.dst with
    | some x,some d=>AF (Nat.blt d nt) (C6 P nt vars ops b draw l { c with map:=(d,x)::c.map } rs)
    | _,_ =>
      (match o.guard with
        | none=>some none
        | some (j,want)=>(ops[j]?).bind fun p=>p.dst.bind fun d=>(C1 vars c d).bind fun x=>some (some (x,want))).bind fun g =>
      (match o.dst with
        | none=>some (Gc.push,{ c with cnt:=c.cnt+1 })
        | some d=>AF (Nat.blt d nt) <| match BA vars d with
          | some j=>AF (GN j c.map && rs.all fun r=>Kc j r.2) (some (Gc.set j,c))
          | none=>some (Gc.push,{ map:=(d,.loc c.cnt)::c.map,cnt:=c.cnt+1 })).bind fun q =>
      let ag:=match draw,sh.1.isEff with
        | true,true=>rs.filter fun(r:Nat×EX)=>!(b.getD i 0).testBit r.1
        | _,_=>[]
      let rd:=draw && sh.1.isRead
      AF (!rd || (match q.1 with | .push=>true | .set _=>false)) <|
      (C6 P nt vars ops b draw l q.2 (bif rd then (i,{ guard:=g,sh:=sh.1,xs,ans:=.loc c.cnt })::rs else rs)).bind fun r =>
        some ({ guard:=FP c.cnt g,sh:=sh.1,xs:=xs.map (BV c.cnt),dst:=q.1,again:=ag.map fun(r:Nat×EX)=>GR q.2.cnt r.2 }::r)
inductive Ai where
 | skip
 | ops (l:List AD)
 | seq (a b:Ai)
 | cond (x:CX) (a b:Ai)
 | block (id:Nat) (c:Ai)
 | loop (c:Ai)
 | rangeFunc (fn:FuncId) (f:CX) (params:Array Tmp) (assign body:Code)
 | exit (id:Nat)
 | ret
 | never
def Vh:Option (List AD)→Ai
 | some l=>.ops l
 | none=>.never
def Ag(P:Program)(fn:FuncId)(nt:Nat)(vars:List Tmp):Code→Ai
 | .skip | .label _=>.skip
 | .ret=>.ret
 | .exit id=>.exit id
 | .goto _ | .refuse _=>.never
 | .region _ ops draw=>match draw with
  | false=>Vh (C6 P nt vars ops #[] false (List.range ops.size) ⟨[],0⟩ [])
  | true=>Vh (AF (Da P ops (Region.before ops) [] (Tt P ops)) (C6 P nt vars ops (Region.before ops) true (Tt P ops) ⟨[],0⟩ []))
 | .seq a b=>.seq (Ag P fn nt vars a) (Ag P fn nt vars b)
 | .cond c a b=>match DY vars ⟨[],0⟩ c with
  | some z=>.cond z (Ag P fn nt vars a) (Ag P fn nt vars b)
  | none=>.never
 | .block id c=>.block id (Ag P fn nt vars c)
 | .loop c=>.loop (Ag P fn nt vars c)
 | .scope c=>Ag P fn nt vars c
 | .rangeFunc f ps a b=>match DY vars ⟨[],0⟩ f with
  | some x=>.rangeFunc fn x ps a b
  | none=>.never
structure BC where
 na:Nat
 nv:Nat
 body:Ai
 results:List (CX×Option TypeId)
def Bf(vars:List Tmp):List ResultVar→Option (List (CX×Option TypeId))
 | []=>some []
 | .tmp t::l=>(BA vars t).bind fun j=>(Bf vars l).bind fun r=>some ((.var j,none)::r)
 | .cell t ty::l=>(BA vars t).bind fun j=>(Bf vars l).bind fun r=>some ((.var j,some ty)::r)
def AT(P:Program)(f:FuncId):Option BC:=(P.funcs[f]?).bind fun fn=>fn.body.bind fun c =>
 AF (Nat.ble (B3 fn) fn.ntmps) <|
 let vars:=Ah P fn
 (Bf vars fn.results.toList).bind fun r =>
  some { na:=B3 fn,nv:=vars.length,body:=Ag P f fn.ntmps vars c,results:=r }
def JC (l:List AV):Nat→AV:=
 List.rec (fun _=>A1) (fun a _ ih i=>Nat.rec a (fun i _=>ih i) i) l
def upd (v:AV) (l:List AV):Nat→List AV:=
 List.rec (fun _=>[]) (fun a l ih i=>Nat.rec (v::l) (fun i _=>a::ih i) i) l
def B8 (loc var:List AV) (x:CX):AV:=
 match x with
 | .loc i=>JC loc i
 | .var j=>JC var j
 | .const v=>v
def Ca (loc var:List AV) (l:List CX):List AV:=
 List.rec [] (fun x _ ih=>B8 loc var x::ih) l
inductive Kq where
 | normal | exit (id:Nat) | ret
structure Au where
 exit:Kq
 var:List AV
 marks:List Nat
 st:AE
def Hg:AV→AV→Bool
 | .bool a,.bool b=>a == b
 | .int k a,.int k' b=>Bh k k' && Nd a b
 | .str a,.str b=>BU a b
 | .ptr none,.ptr none=>true
 | .gptr a b,.gptr c d=>Nat.beq a c && Nat.beq b d
 | .ptr (some (i,o)),.ptr (some (j,p))=>Nat.beq i j && Nat.beq o p
 | .slice none n (some c),.slice none n' (some c')=>Nat.beq n n' && Nat.beq c c'
 | .slice none n none,.slice none n' none=>Nat.beq n n'
 | .slice (some (i,o)) n none,.slice (some (j,p)) n' none=>Nat.beq i j && Nat.beq o p && Nat.beq n n'
 | .slice (some (i,o)) n (some c),.slice (some (j,p)) n' (some c')=>Nat.beq i j && Nat.beq o p && Nat.beq n n' && Nat.beq c c'
 | .map none,.map none=>true
 | .map (some i),.map (some j)=>Nat.beq i j
 | .func f a c,.func g b d=>Nat.beq f g && eqAs a b && eqAs c d
 | .nilFunc,.nilFunc=>true
 | .nilIface,.nilIface=>true
 | .yield i,.yield j=>Nat.beq i j
 | .agg a,.agg b=>eqAs a b
 | .tuple a,.tuple b=>eqAs a b
 | _,_=>false
where
 eqAs:List AV→List AV→Bool
 | [],[]=>true
 | a::x,b::y=>Hg a b && eqAs x y
 | _,_=>false
abbrev L0:=FuncId→List AV→AE→Option (AV×AE)
structure Bt where
 P:Program
 nat:L0
structure CY where
 code:Option Nat→Ai→List AV→List Nat→AE→Option Au
 call:FuncId→List AV→AE→Option (AV×AE)
 round:Nat→List AV→AE→Option (AV×AE)
def FT(F:CY)(f:AV)(args:List AV)(s:AE):Option (AV×AE):=
 match f with
 | .func f first cap=>F.call f (first++(args++cap)) s
 | .yield l=>F.round l args s
 | _=>none
def CW(s:AE)(x:Option AV):Option (AV×AE):=match x with
 | some v=>some (v,s)
 | none=>none
def one{α:Type}(f:AV→Option α):List AV→Option α
 | [a]=>f a
 | _=>none
def Db(sh:Sh)(xs:List AV)(s:AE):Option AV:=
 match sh with
 | .r1 f=>one (f s) xs
 | .r f=>f s xs
 | _=>none
def LT(s:AE)(r:Option (AX×Made)):Option (AV×AE):=match r with
 | some p=>some (p.2.val s.next,newObj s p.1)
 | none=>none
def HX {α:Type} (f:CX→Option α) (xs:List CX):Option α:=List.rec none (fun x _ _=>f x) xs
def RQ {α:Type} (f:CX→CX→Option α) (xs:List CX):Option α:=HX (fun x=>HX (f x) xs.tail) xs
def YR (f:AV→Option AV) (xs:List CX) (loc var:List AV) (s:AE):Option (AV×AE):=HX (fun x=>CW s (f (B8 loc var x))) xs
def YS (f:AV→AV→Option AV) (xs:List CX) (loc var:List AV) (s:AE):Option (AV×AE):=RQ (fun x y=>CW s (f (B8 loc var x) (B8 loc var y))) xs
def YT (f:AE→AV→Option AV) (xs:List CX) (loc var:List AV) (s:AE):Option (AV×AE):=HX (fun x=>CW s (f s (B8 loc var x))) xs
def shV (F:CY) (xs:List CX) (loc var:List AV) (s:AE):Option (AV×AE):=HX (fun x=>FT F (B8 loc var x) (Ca loc var xs.tail) s) xs
def Wo (F:CY) (sh:Sh) (xs:List CX) (loc var:List AV) (s:AE):Option (AV×AE):=
 match sh with
 | .p1 f=>YR f xs loc var s
 | .p2 f=>YS f xs loc var s
 | .p f=>CW s (f (Ca loc var xs))
 | .r1 f=>YT f xs loc var s
 | .r f=>CW s (f s (Ca loc var xs))
 | .mk f=>LT s (f (Ca loc var xs))
 | .e f=>f s (Ca loc var xs)
 | .call f=>F.call f (Ca loc var xs) s
 | .callv=>shV F xs loc var s
def W3(want:Bool):AV→Bool
 | .bool b=>b == want
 | _=>false
def Ay (loc var:List AV) (g:Option (CX×Bool)):Bool:=
 match g with
 | none=>true
 | some p=>W3 p.2 (B8 loc var p.1)
def Vj(x:Option AV)(v:AV):Bool:=match x with
 | some u=>Hg u v
 | none=>false
def Ea (s:AE) (loc var:List AV) (r:EX):Bool:=
 !Ay loc var r.guard || Vj (Db r.sh (Ca loc var r.xs) s) (B8 loc var r.ans)
def Cr (s:AE) (loc var:List AV) (l:List EX):Bool:=
 List.rec true (fun r _ ih=>Ea s loc var r && ih) l
abbrev Pd:=List AV→List AV→AE→Option (List AV×AE)
def Bo (ag:List EX) (d:Gc) (k:Pd) (loc var:List AV) (v:AV) (s:AE):Option (List AV×AE):=
 match d with
 | .push=>bif Cr s (v::loc) var ag then k (v::loc) var s else none
 | .set j=>bif Cr s loc (upd v var j) ag then k loc (upd v var j) s else none
def Hj (it:AD) (k:Pd) (loc var:List AV) (r:Option (AV×AE)):Option (List AV×AE):=
 match r with
 | none=>none
 | some p=>Bo it.again it.dst k loc var p.1 p.2
def IY (F:CY) (it:AD) (k:Pd) (loc var:List AV) (s:AE):Option (List AV×AE):=
 match Ay loc var it.guard with
 | true=>Hj it k loc var (Wo F it.sh it.xs loc var s)
 | false=>Bo [] it.dst k loc var A1 s
def Cu (F:CY) (l:List AD):Pd:=
 List.rec (fun _ var s=>some (var,s)) (fun it _ ih loc var s=>IY F it ih loc var s) l
def Ql(l:List AV):Nat→List AV
 | 0=>[]
 | n+1=>match l with
  | []=>A1::Ql [] n
  | a::l=>a::Ql l n
def A6 (P:Program) (s:AE) (var:List AV):List (CX×Option TypeId)→Option (List AV)
 | []=>some []
 | (x,none)::l=>(A6 P s var l).bind fun r=>some (B8 [] var x::r)
 | (x,some t)::l=>(AO P s t (B8 [] var x)).bind fun v=>(A6 P s var l).bind fun r=>some (v::r)
def Aw:List AV→AV
 | [v]=>v
 | l=>.tuple l
def CR(s:AE):List Nat→Option AE
 | []=>some s
 | i::l=>match s.heap.get i with
  | some .mark=>CR (Bd s i) l
  | _=>none
def DT:Kq→Option Code
 | .normal=>none
 | .ret=>some .ret
 | .exit id=>some (.exit id)
def FK (vars:List Tmp) (var:List AV):List Tmp→List AV→Option (List AV)
 | [],[]=>some var
 | t::ts,v::vs=>(BA vars t).bind fun j=>FK vars (upd v var j) ts vs
 | _,_=>none
def Fq(s:AE)(l:Nat):Option Hs:=match s.heap.get l with
 | some (.loop r)=>some r
 | _=>none
def MP(P:Program)(f:FuncId)(c:Code):Option Ai:=(P.funcs[f]?).bind fun fn=>some (Ag P f fn.ntmps (Ah P fn) c)
def F2(P:Program)(f:FuncId):List Tmp:=match P.funcs[f]? with
 | some fn=>Ah P fn
 | none=>[]
def TV(marks:List Nat)(r:Option (List AV×AE)):Option Au:=match r with
 | some p=>some ⟨.normal,p.1,marks,p.2⟩
 | none=>none
def FS(F:CY)(rnd:Option Nat)(b:Ai)(r:Au):Option Au:=match r.exit with
 | .normal=>F.code rnd b r.var r.marks r.st
 | _=>some r
def GB(F:CY)(rnd:Option Nat)(b:Ai)(r:Option Au):Option Au:=match r with
 | some r=>FS F rnd b r
 | none=>none
def K6(F:CY)(rnd:Option Nat)(a b:Ai)(var:List AV)(marks:List Nat)(s:AE)(v:AV):Option Au:=match v with
 | .bool t=>match t with
  | true=>F.code rnd a var marks s
  | false=>F.code rnd b var marks s
 | _=>none
def Hd(id:Nat)(r:Au):Option Au:=match r.exit with
 | .exit id'=>bif Nat.beq id' id then some ⟨.normal,r.var,r.marks,r.st⟩else some r
 | _=>some r
def H6(id:Nat)(r:Option Au):Option Au:=match r with
 | some r=>Hd id r
 | none=>none
def H7(var:List AV)(marks:List Nat)(s:AE)(c:Option Code):Option Au:=match c with
 | none=>some ⟨.normal,var,marks,s⟩
 | some .ret=>some ⟨.ret,var,marks,s⟩
 | some (.exit id)=>some ⟨.exit id,var,marks,s⟩
 | some _=>none
def RZ:LoopState→Bool
 | .busy=>true
 | _=>false
def KE:LoopState→Bool
 | .ready=>true
 | _=>false
def Gg(var:List AV)(marks:List Nat)(l:Nat)(q:Option (AV×AE)):Option Au:=
 q.bind fun q=>(Fq q.2 l).bind fun r=>bif RZ r.state then none else
  H7 var marks (setObj q.2 l (.loop { r with state:=.exhausted })) r.pending
def EF(F:CY)(var:List AV)(f:AV)(params:Array Tmp)(assign body:Code)(fn:FuncId)(dfr:Nat)(marks:List Nat)(s:AE):Option Au:=
 Gg var marks s.next (FT { F with round:=fun _ _ _=>none } f [.yield s.next] (newObj s (.loop { state:=.ready,pending:=none,fn,var,params,assign,body,dfr })))
def J4(F:CY)(rnd:Option Nat)(fn:FuncId)(f:AV)(params:Array Tmp)(assign body:Code)(var:List AV)(marks:List Nat)(s:AE):Option Au:=
 match rnd with
 | some l=>(Fq s l).bind fun r=>EF F var f params assign body fn r.dfr marks s
 | none=>EF F var f params assign body fn s.next (s.next::marks) (newObj s .mark)
def CB (F:CY) (rnd:Option Nat) (c:Ai) (var:List AV) (marks:List Nat) (s:AE):Option Au:=
 match c with
 | .skip=>some ⟨.normal,var,marks,s⟩
 | .ret=>some ⟨.ret,var,marks,s⟩
 | .exit id=>some ⟨.exit id,var,marks,s⟩
 | .never=>none
 | .ops l=>TV marks (Cu F l [] var s)
 | .seq a b=>GB F rnd b (F.code rnd a var marks s)
 | .cond x a b=>K6 F rnd a b var marks s (B8 [] var x)
 | .block id body=>H6 id (F.code rnd body var marks s)
 | .loop body=>GB F rnd (.loop body) (F.code rnd body var marks s)
 | .rangeFunc fn f params assign body=>J4 F rnd fn (B8 [] var f) params assign body var marks s
def Nk:Kq→Bool
 | .normal | .ret=>true
 | .exit _=>false
def He (P:Program) (cf:BC) (r:Option Au):Option (AV×AE):=
 r.bind fun r=>bif Nk r.exit then (CR r.st r.marks).bind fun s=>(A6 P s r.var cf.results).bind fun l=>some (Aw l,s)else none
def Ee (P:Program) (F:CY) (args:List AV) (s:AE) (cf:Option BC):Option (AV×AE):=
 cf.bind fun cf=>bif Nat.beq args.length cf.na then He P cf (F.code none cf.body (Ql args cf.nv) [] s)else none
def Ff (E:Bt) (F:CY) (f:FuncId) (args:List AV) (s:AE):Option (AV×AE):=
 match E.nat f args s with
 | some p=>some p
 | none=>Ee E.P F args s (AT E.P f)
def IW:Kq→Bool
 | .normal=>true
 | _=>false
def GW:Option Code→LoopState
 | none=>.ready
 | some _=>.done
def It(l:Nat)(q:Option Au):Option (AV×AE):=q.bind fun q=>(Fq q.st l).bind fun r =>
 some (.bool (DT q.exit).isNone,setObj q.st l (.loop { r with state:=GW (DT q.exit),pending:=DT q.exit }))
def Gx(F:CY)(l:Nat)(cb:Ai)(q:Option Au):Option (AV×AE):=q.bind fun q=>bif IW q.exit then
  (Fq q.st l).bind fun r=>bif KE r.state then It l (F.code (some l) cb q.var q.marks (setObj q.st l (.loop { r with state:=.busy })))else none
 else none
def Jl (E:Bt) (F:CY) (l:Nat) (args:List AV) (s:AE):Option (AV×AE):=
 (Fq s l).bind fun r=>(FK (F2 E.P r.fn) r.var r.params.toList args).bind fun var =>
  (MP E.P r.fn r.assign).bind fun ca=>(MP E.P r.fn r.body).bind fun cb=>Gx F l cb (F.code (some l) ca var [] s)
def X1:CY:=⟨fun _ _ _ _ _=>none,fun _ _ _=>none,fun _ _ _=>none⟩
def X0 (E:Bt) (F:CY):CY:=⟨CB F,Ff E F,Jl E F⟩
def Ci (E:Bt) (n:Nat):CY:=Nat.rec X1 (fun _ F=>X0 E F) n
structure RB where
 b:Nat
 off:Nat
 N:Nat
 sz:Nat
abbrev Aq:=Nat→Option RB
mutual
inductive AJ (ρ:Aq):AV→Value→Prop
 | bool (b:Bool):AJ ρ (.bool b) (.bool b)
 | int (k:IntKind) (n:Int):AJ ρ (.int k n) (.int k n)
 | str {l:List Nat} {s:ByteArray} (h:s.data.toList.map (fun(b:UInt8)=>b.toNat)=l):AJ ρ (.str l) (.string s)
 | ptrNil:AJ ρ (.ptr none) (.pointer none)
 | ptr {i o:Nat} {rb:RB} (h:ρ i=some rb):AJ ρ (.ptr (some (i,o))) (.pointer (some ⟨rb.b,rb.off+o,none⟩))
 | gptr (g o:Nat):AJ ρ (.gptr g o) (.pointer (some ⟨g,o,none⟩))
 | sliceNil:AJ ρ (.slice none 0 (some 0)) (.slice none 0 0)
 | slice {i o len c:Nat} {rb:RB} (h:ρ i=some rb) (hl:len≤c):AJ ρ (.slice (some (i,o)) len (some c)) (.slice (some ⟨rb.b,rb.off+o,none⟩) len c)
 | sliceOpen {i o len c:Nat} {rb:RB} (h:ρ i=some rb) (hs:0<rb.sz) (hl:len≤c) (h1:o+c * rb.sz≤rb.N) (h2:rb.N<o+(c+1) * rb.sz):
   AJ ρ (.slice (some (i,o)) len none) (.slice (some ⟨rb.b,rb.off+o,none⟩) len c)
 | sliceEnd {i o:Nat} {rb:RB} {a:Addr} (h:ρ i=some rb) (hs:0<rb.sz) (h1:o≤rb.N) (h2:rb.N<o+rb.sz):
   AJ ρ (.slice (some (i,o)) 0 none) (.slice (some a) 0 0)
 | mapNil:AJ ρ (.map none) (.map none)
 | map {i:Nat} {rb:RB} (h:ρ i=some rb):AJ ρ (.map (some i)) (.map (some rb.b))
 | func {f:FuncId} {a c:List AV} {a' c':Array Value} (ha:AI ρ a a'.toList) (hc:AI ρ c c'.toList):AJ ρ (.func f a c) (.func (.func f) a' c')
 | yield {i:Nat} {rb:RB} (h:ρ i=some rb):AJ ρ (.yield i) (.func (.yield rb.b) #[] #[])
 | nilFunc:AJ ρ .nilFunc .nilFunc
 | nilIface:AJ ρ .nilIface .nilIface
 | iface {t:TypeId} {v:AV} {v':Value} (h:AJ ρ v v'):AJ ρ (.iface t v) (.iface t v')
 | agg {cs:List AV} {cs':Array Value} (h:AI ρ cs cs'.toList):AJ ρ (.agg cs) (.agg cs')
 | tuple {cs:List AV} {cs':Array Value} (h:AI ρ cs cs'.toList):AJ ρ (.tuple cs) (.tuple cs')
inductive AI (ρ:Aq):List AV→List Value→Prop
 | nil:AI ρ [] []
 | cons {v:AV} {v':Value} {l:List AV} {l':List Value} (h:AJ ρ v v') (hs:AI ρ l l'):AI ρ (v::l) (v'::l')
end
def Aq.le(ρ σ:Aq):Prop:=∀i rb,ρ i=some rb→σ i=some rb
theorem Aq.le_refl(ρ:Aq):ρ.le ρ:=fun _ _ h=>h
theorem Aq.le_trans{ρ σ τ:Aq}(h:ρ.le σ)(k:σ.le τ):ρ.le τ:=fun i rb e=>k i rb (h i rb e)
mutual
theorem AJ.mono{ρ σ:Aq}(le:ρ.le σ){v:AV}{v':Value}(h:AJ ρ v v'):AJ σ v v':=by
 cases h with
 | bool b=>exact .bool b
 | int k n=>exact .int k n
 | str h=>exact .str h
 | ptrNil=>exact .ptrNil
 | ptr h=>exact .ptr (le _ _ h)
 | gptr g o=>exact .gptr g o
 | sliceNil=>exact .sliceNil
 | slice h hl=>exact .slice (le _ _ h) hl
 | sliceOpen h hs hl h1 h2=>exact .sliceOpen (le _ _ h) hs hl h1 h2
 | sliceEnd h hs h1 h2=>exact .sliceEnd (le _ _ h) hs h1 h2
 | mapNil=>exact .mapNil
 | map h=>exact .map (le _ _ h)
 | func ha hc=>exact .func (AI.mono le ha) (AI.mono le hc)
 | yield h=>exact .yield (le _ _ h)
 | nilFunc=>exact .nilFunc
 | nilIface=>exact .nilIface
 | iface h=>exact .iface (AJ.mono le h)
 | agg h=>exact .agg (AI.mono le h)
 | tuple h=>exact .tuple (AI.mono le h)
theorem AI.mono{ρ σ:Aq}(le:ρ.le σ){v:List AV}{v':List Value}(h:AI ρ v v'):AI σ v v':=by
 cases h with
 | nil=>exact .nil
 | cons h hs=>exact .cons (AJ.mono le h) (AI.mono le hs)
end
section lists
variable{ρ:Aq}
theorem AI.length{l:List AV}{l':List Value}(h:AI ρ l l'):l.length=l'.length:=by
 induction l generalizing l' with
 | nil=>cases h;rfl
 | cons a l ih=>cases h with | cons h hs=>simp[ih hs]
theorem AI.get{l:List AV}{l':List Value}(h:AI ρ l l'){k:Nat}{v:AV}(hk:l[k]? = some v):∃v',l'[k]? = some v'∧AJ ρ v v':=by
  induction l generalizing l' k with
  | nil=>simp at hk
  | cons a l ih =>
    cases h with
    | cons h hs =>
      cases k with
      | zero=>simp at hk;subst hk;exact⟨_,rfl,h⟩
      | succ k=>simp at hk;obtain⟨v',h1,h2⟩:=ih hs hk;exact⟨v',by simpa using h1,h2⟩
theorem AI.of_get{l:List AV}{l':List Value}(hl:l.length=l'.length)(h:∀ (k:Nat)(v:AV)(v':Value),l[k]? = some v→l'[k]? = some v'→AJ ρ v v'):AI ρ l l':=by
  induction l generalizing l' with
  | nil=>cases l' with | nil=>exact .nil | cons=>simp at hl
  | cons a l ih =>
    cases l' with
    | nil=>simp at hl
    | cons a' l'=>exact .cons (h 0 a a' rfl rfl) (ih (by simpa using hl) fun k v v' h1 h2=>h (k+1) v v' (by simpa using h1) (by simpa using h2))
theorem AI.append{l m:List AV}{l' m':List Value}(h:AI ρ l l')(k:AI ρ m m'):AI ρ (l++m) (l'++m'):=by
 induction l generalizing l' with
 | nil=>cases h;exact k
 | cons a l ih=>cases h with | cons h hs=>exact .cons h (ih hs)
theorem AI.take{l:List AV}{l':List Value}(h:AI ρ l l')(n:Nat):AI ρ (l.take n) (l'.take n):=by
  induction l generalizing l' n with
  | nil=>cases h;simp;exact .nil
  | cons a l ih =>
    cases h with
    | cons h hs=>cases n with
      | zero=>exact .nil
      | succ n=>exact .cons h (ih hs n)
theorem AI.drop{l:List AV}{l':List Value}(h:AI ρ l l')(n:Nat):AI ρ (l.drop n) (l'.drop n):=by
  induction l generalizing l' n with
  | nil=>cases h;simp;exact .nil
  | cons a l ih =>
    cases h with
    | cons h hs=>cases n with
      | zero=>exact .cons h hs
      | succ n=>exact ih hs n
theorem AJ.cells{v:AV}{v':Value}(h:AJ ρ v v'):AI ρ v.cells v'.cells.toList:=by
 cases h with
 | agg h=>exact h
 | bool b=>exact .cons (.bool b) .nil
 | int k n=>exact .cons (.int k n) .nil
 | str h=>exact .cons (.str h) .nil
 | ptrNil=>exact .cons .ptrNil .nil
 | ptr h=>exact .cons (.ptr h) .nil
 | gptr g o=>exact .cons (.gptr g o) .nil
 | sliceNil=>exact .cons .sliceNil .nil
 | slice h hl=>exact .cons (.slice h hl) .nil
 | sliceOpen h hs hl h1 h2=>exact .cons (.sliceOpen h hs hl h1 h2) .nil
 | sliceEnd h hs h1 h2=>exact .cons (.sliceEnd h hs h1 h2) .nil
 | mapNil=>exact .cons .mapNil .nil
 | map h=>exact .cons (.map h) .nil
 | func ha hc=>exact .cons (.func ha hc) .nil
 | yield h=>exact .cons (.yield h) .nil
 | nilFunc=>exact .cons .nilFunc .nil
 | nilIface=>exact .cons .nilIface .nil
 | iface h=>exact .cons (.iface h) .nil
 | tuple h=>exact .cons (.tuple h) .nil
theorem AJ.oneCell{v:AV}{v':Value}(h:AJ ρ v v')(hc:v.isCell=true):v'.oneCell'=true:=by
 cases h<;>first | rfl | cases hc
theorem AI.oneCell{l:List AV}{l':List Value}(h:AI ρ l l')(hc:Af l=true):∀v∈l',v.oneCell'=true:=by
  induction l generalizing l' with
  | nil=>cases h;simp
  | cons a l ih =>
    cases h with
    | cons h hs =>
      simp only[Af,Bool.and_eq_true]at hc
      intro v hv
      rcases Zd.1 hv with rfl | hv
      · exact h.oneCell hc.1
      · exact ih hs hc.2 v hv
end lists
theorem GP(ρ:Aq){v:Value}{a:AV}(h:GO v=some a):AJ ρ a v:=by
 unfold GO at h
 split at h<;>first
  | (injection h with h;subst h;first | exact .bool _ | exact .int _ _ | exact .str rfl | exact .ptrNil | exact .sliceNil | exact .mapNil | exact .nilFunc | exact .nilIface)
  | cases h
theorem Dr(ρ:Aq):∀ {l:List Value}{r:List AV},DK l=some r→AI ρ r l
 | [],r,h=>by simp[DK]at h;subst h;exact .nil
 | v::l,r,h=>by
  simp only[DK,ZA]at h
  obtain⟨a,ha,r',hr,h⟩:=h
  injection h with h;subst h
  exact .cons (GP ρ ha) (Dr ρ hr)
theorem BE(ρ:Aq){v:Value}{a:AV}(h:ofValue v=some a):AJ ρ a v:=by
 unfold ofValue at h
 split at h
 ·simp only[ZA]at h
  obtain⟨l,hl,h⟩:=h
  injection h with h;subst h
  exact .agg (Dr ρ hl)
 ·simp only[ZA]at h
  obtain⟨l,hl,h⟩:=h
  injection h with h;subst h
  exact .tuple (Dr ρ hl)
 ·exact GP ρ h
theorem CD(ρ:Aq):AJ ρ A1 undef:=.tuple .nil
theorem AA{α:Type}{b:Bool}{x:Option α}{a:α}(h:AF b x=some a):b=true∧x=some a:=by
 cases b with
 | true=>exact⟨rfl,h⟩
 | false=>cases h
inductive B1 (ρ:Aq):List (AV×AV)→List MapEntry→Prop
 | nil:B1 ρ [] []
 | cons {k v:AV} {e:MapEntry} {l:List (AV×AV)} {l':List MapEntry} (hk:AJ ρ k e.key) (hv:AJ ρ v e.val) (hs:B1 ρ l l'):B1 ρ ((k,v)::l) (e::l')
theorem B1.mono{ρ σ:Aq}(le:ρ.le σ){l:List (AV×AV)}{l':List MapEntry}(h:B1 ρ l l'):B1 σ l l':=by
 induction h with
 | nil=>exact .nil
 | cons hk hv _ ih=>exact .cons (hk.mono le) (hv.mono le) ih
theorem B1.length{ρ:Aq}{l:List (AV×AV)}{l':List MapEntry}(h:B1 ρ l l'):l.length=l'.length:=by
 induction h with
 | nil=>rfl
 | cons _ _ _ ih=>simp[ih]
structure G6(P:Program)(ρ:Aq)(w:World)(kt:TypeId)(es:List (AV×AV))(rb:RB):Prop where
 ex:∃ (es':Array MapEntry) (clock:Nat),w.heap[rb.b]? = some (.map es' clock)∧MapKept.Stamped es' clock∧(∃l,l.Perm es'.toList∧B1 ρ es l)∧∀e∈es'.toList,∃l,keyOf P kt e.key=some l
structure BF(ρ:Aq)(w:World)(r:B0)(rb:RB):Prop where
 cells:∀k v,k<r.n→r.c.get k=some v→∃v',w.cell? ⟨rb.b,rb.off+k,none⟩=some v'∧AJ ρ v v'
 le:r.n≤rb.N
 sz:r.sz=rb.sz
 tight:r.spare=false→rb.N=r.n
 own:r.mode≠.ro→∃cs,w.heap[rb.b]? = some (.cells cs r.elem (0,0))∧rb.off+rb.N≤cs.size
 base:r.bytes=true→rb.off=0
 gl:∀g,r.glob=some g→rb.b=g∧rb.off=0
 par:∀p,r.par=some p→∃rp,ρ p=some rp
def Cj(ρ:Aq)(vars:List Tmp)(var:List AV)(tmps:Array Value):Prop:=
 ∀ (t:Tmp) (k:Nat),BA vars t=some k→t<tmps.size∧∃v:AV,var[k]? = some v∧AJ ρ v (tmps.getD t undef)
end
end Go.Proofs.YtickdehehcmfbaaGreatDoor.Am
set_option linter.unusedVariables false
set_option linter.unusedSimpArgs false
namespace Go.Proofs.YtickdehehcmfbaaGreatDoor.Am
open Go
noncomputable section
theorem EC{α:Type}{P:Program}{w:World}:∀ {s:Sem α}{a:α},Du P s=some a→s.run P w=.ok a w:=by
 intro s
 induction s with
 | pure b=>intro a h;simp[Du]at h;subst h;rfl
 | program k ih=>intro a h;simp only[Du]at h;simp only[Sem.run];exact ih P h
 | mark m k ih=>intro a h;simp only[Du]at h;simp only[Sem.run];exact ih h
 | load=>intro a h;simp[Du]at h
 | store=>intro a h;simp[Du]at h
 | new=>intro a h;simp[Du]at h
 | shape=>intro a h;simp[Du]at h
 | freeze=>intro a h;simp[Du]at h
 | frozen=>intro a h;simp[Du]at h
 | getObj=>intro a h;simp[Du]at h
 | setObj=>intro a h;simp[Du]at h
 | choose=>intro a h;simp[Du]at h
 | sys=>intro a h;simp[Du]at h
 | halt=>intro a h;simp[Du]at h
section types
variable{P:Program}{w:World}{t:TypeId}
theorem AC{d:TypeDesc}(h:P.underlying t=some d):(underlying t).run P w=.ok d w:=by simp[underlying,h]
theorem FF{g:Bool}(h:Dy P t=some g):(isAgg t).run P w=.ok g w:=by
 unfold Dy at h
 split at h
 ·injection h with h;subst h;simp[isAgg,underlying, *]
 ·injection h with h;subst h;simp[isAgg,underlying, *]
 ·rename_i d _ _ hd
  injection h with h;subst h
  simp only[isAgg,Sem.run_bind,AC hd,Result.andThen_ok]
  cases d<;>simp_all
 ·cases h
theorem AY{n:Nat}(h:An P t=some n):(sizeOf t).run P w=.ok n w:=by
 unfold An at h
 split at h
 ·injection h with h;subst h;simp[sizeOf,typeInfo, *]
 ·cases h
theorem PS{n:Nat}(h:CH P t=some n):∃i,(typeInfo t).run P w=.ok i w∧i.bytes=n:=by
 unfold CH at h
 split at h
 ·injection h with h;rename_i i hi;exact⟨i,by simp[typeInfo,hi],h⟩
 ·cases h
theorem GU(ρ:Aq){z:AV}(h:Bw P t=some z):∃v,(zeroValue t).run P w=.ok v w∧AJ ρ z v:=by
  unfold Bw at h
  split at h
  · split at h
    · rename_i i hi _ v hv
      exact⟨v,by simp[zeroValue,typeInfo,hi,hv],BE ρ h⟩
    · cases h
  · cases h
end types
theorem Hq{k:IntKind}{n:Int}(h:A4 k n=true):k.wrap n=n:=by
 have hb:k.min≤n∧n≤k.max:=by
  unfold A4 at h
  cases n with
  | ofNat m=>cases k<;>simp[ZN]at h<;>simp[IntKind.min,IntKind.max,IntKind.signed,IntKind.bits]<;>omega
  | negSucc m=>cases k<;>simp[ZN]at h<;>simp[IntKind.min,IntKind.max,IntKind.signed,IntKind.bits]<;>omega
 cases k<;>simp[IntKind.min,IntKind.max,IntKind.signed,IntKind.bits]at hb<;>simp only[IntKind.wrap,IntKind.signed,IntKind.bits]<;>simp<;>omega
theorem E6(k:IntKind)(n:Int):EW k n=k.wrap n:=by
 unfold EW
 cases h:A4 k n with
 | true=>simp[Hq h]
 | false=>rfl
theorem Cg(a b:Int):KP a b=decide (a<b):=by
 cases a with
 | ofNat a=>cases b with
  | ofNat b=>rw[Bool.eq_iff_iff];simp only[KP,ZX,decide_eq_true_iff,Z0];omega
  | negSucc b=>simp only[KP];rw[eq_comm,decide_eq_false_iff_not];simp only[Z0];omega
 | negSucc a=>cases b with
  | ofNat b=>simp only[KP];rw[eq_comm,decide_eq_true_iff];simp only[Z0];omega
  | negSucc b=>rw[Bool.eq_iff_iff];simp only[KP,ZX,decide_eq_true_iff];omega
theorem DS(a b:Int):Nd a b=(a == b):=by
 rw[Bool.eq_iff_iff,beq_iff_eq]
 cases a with
 | ofNat a=>cases b with
  | ofNat b=>simp only[Nd,Zm,Z0];omega
  | negSucc b=>simp[Nd]
 | negSucc a=>cases b with
  | ofNat b=>simp[Nd]
  | negSucc b=>simp only[Nd,Zm];omega
theorem Bi{k k':IntKind}(h:Bh k k'=true):k=k':=by cases k<;>cases k'<;>first | rfl | cases h
theorem SR{n:Int}{m:Nat}(h:Nu n=some m):n=(m:Int):=by cases n<;>simp[Nu]at h;subst h;rfl
theorem RX{P:Program}{ρ:Aq}{op:BinOp}{k:IntKind}{a b:Int}{v:AV}(h:RW P op k a b=some v)(t:TypeId)(w:World):
  ∃v',(Go.binOp op t (.int k a) (.int k b)).run P w=.ok v' w∧AJ ρ v v':=by
 unfold RW at h
 split at h
 case h_1=>injection h with h;subst h;exact⟨.int k (k.wrap (a+b)),by simp[Go.binOp,Op.intArith],by rw[E6];exact .int _ _⟩
 case h_2=>injection h with h;subst h;exact⟨.int k (k.wrap (a - b)),by simp[Go.binOp,Op.intArith],by rw[E6];exact .int _ _⟩
 case h_3=>injection h with h;subst h;exact⟨.int k (k.wrap (a * b)),by simp[Go.binOp,Op.intArith],by rw[E6];exact .int _ _⟩
 case h_4=>injection h with h;subst h;exact⟨.bool (a == b),by simp[Go.binOp,Op.intCmp],by rw[DS];exact .bool _⟩
 case h_5=>injection h with h;subst h;exact⟨.bool (a != b),by simp[Go.binOp,Op.intCmp],by rw[DS];exact .bool _⟩
 case h_6=>injection h with h;subst h;exact⟨.bool (a<b),by simp[Go.binOp,Op.intCmp],by rw[Cg];exact .bool _⟩
 case h_7=>injection h with h;subst h;exact⟨.bool (a≤b),by simp[Go.binOp,Op.intCmp],by rw[Cg,show(!decide (b<a))=decide (a≤b)from by rw[Bool.eq_iff_iff];simp];exact .bool _⟩
 case h_8=>injection h with h;subst h;exact⟨.bool (a > b),by simp[Go.binOp,Op.intCmp],by rw[Cg];exact .bool _⟩
 case h_9=>injection h with h;subst h;exact⟨.bool (a≥b),by simp[Go.binOp,Op.intCmp],by rw[Cg,show(!decide (a<b))=decide (a≥b)from by rw[Bool.eq_iff_iff];simp];exact .bool _⟩
 case h_10 =>
  simp only[ZA]at h
  obtain⟨u,hu,h⟩:=h
  exact⟨u,by have:=EC (w:=w) hu;simpa[Go.binOp]using this,BE ρ h⟩
 case h_11 =>
  simp only[ZA]at h
  obtain⟨u,hu,h⟩:=h
  exact⟨u,by have:=EC (w:=w) hu;simpa[Go.binOp]using this,BE ρ h⟩
 case h_12=>cases h
 case h_13=>cases h
 case h_14 =>
  simp only[ZA]at h
  obtain⟨u,hu,h⟩:=h
  refine⟨u,?_,BE ρ h⟩
  have:=EC (w:=w) hu
  rename_i n1 n2 n3 n4 n5 n6 n7 n8 n9 n10 n11 n12 n13
  cases op<;>first | (exfalso;simp at *;done) | simpa[Go.binOp]using this
abbrev CO(l:List UInt8):List Nat:=l.map (fun(b:UInt8)=>b.toNat)
theorem toNat_inj{a b:UInt8}(h:a.toNat=b.toNat):a=b:=UInt8.toNat_inj.1 h
theorem Fz:∀ (x y:List UInt8),BU (CO x) (CO y)=(x == y)
 | [],[]=>rfl
 | [],_::_=>rfl
 | _::_,[]=>rfl
 | a::x,b::y=>by
  simp only[CO,ZV,BU]
  by_cases e:a=b
  ·subst e
   have:Nat.beq a.toNat a.toNat=true:=by simp[Zm]
   rw[this]
   have ih:=Fz x y
   simp only[CO]at ih
   simp[ih]
  ·have:Nat.beq a.toNat b.toNat=false:=AG.beq_no (fun h=>e (toNat_inj h))
   rw[this]
   simp[e]
theorem Iz:∀ (x y:List UInt8),E5 (CO x) (CO y)=Op.bytesLess x y
 | [],[]=>rfl
 | [],_::_=>rfl
 | _::_,[]=>rfl
 | a::x,b::y=>by
  simp only[CO,ZV,E5,Op.bytesLess]
  have ih:=Iz x y
  simp only[CO]at ih
  have h1:Nat.blt a.toNat b.toNat=decide (a<b):=by rw[Bool.eq_iff_iff];simp[ZX,UInt8.lt_iff_toNat_lt]
  have h2:Nat.beq a.toNat b.toNat=(a == b):=by
   rw[Bool.eq_iff_iff,beq_iff_eq,Zm]
   exact⟨fun h=>toNat_inj h,fun h=>by rw[h]⟩
  rw[h1,h2,ih]
  cases decide (a<b)<;>cases (a == b)<;>rfl
theorem ED(s:ByteArray):(CO s.data.toList).length=s.size:=by simp[CO]
theorem S4{P:Program}{ρ:Aq}{op:BinOp}{x y:ByteArray}{v:AV}(h:OF op (CO x.data.toList) (CO y.data.toList)=some v)(w:World):
  ∃v',(Op.stringOp op x y).run P w=.ok v' w∧AJ ρ v v':=by
 unfold OF at h
 rw[Fz,Iz,ED,ED]at h
 unfold Op.stringOp
 rw[ByteArray.toList_eq,ByteArray.toList_eq]
 split at h
 case h_1 =>
  obtain⟨hb,h⟩:=AA h
  injection h with h;subst h
  have hb':x.size+y.size≤1152921504606846976:=by simpa[ZN]using hb
  refine⟨.string (x++y),?_,.str (by simp[CO])⟩
  have:¬ ((x.size+y.size:Nat):Int) > IntKind.i64.max:=by simp[IntKind.max,IntKind.signed,IntKind.bits];omega
  simp only[this,if_false]
  rfl
 case h_2=>injection h with h;subst h;exact⟨_,rfl,.bool _⟩
 case h_3=>injection h with h;subst h;exact⟨_,rfl,.bool _⟩
 case h_4=>injection h with h;subst h;exact⟨_,rfl,.bool _⟩
 case h_5=>injection h with h;subst h;exact⟨_,rfl,.bool _⟩
 case h_6=>injection h with h;subst h;exact⟨_,rfl,.bool _⟩
 case h_7=>injection h with h;subst h;exact⟨_,rfl,.bool _⟩
 case h_8=>cases h
section
variable{P:Program}{ρ:Aq}{w:World}
theorem HG{t:TypeId}(h:El P t=true):∃e,P.underlying t=some (.pointer e):=by
 unfold El at h;split at h
 ·rename_i e he;exact⟨e,he⟩
 ·cases h
theorem FX{t:TypeId}(h:GI P t=true):∃e,P.underlying t=some (.slice e):=by
 unfold GI at h;split at h
 ·rename_i e he;exact⟨e,he⟩
 ·cases h
theorem HF{t:TypeId}(h:KD P t=true):∃k e,P.underlying t=some (.map k e):=by
 unfold KD at h;split at h
 ·rename_i k e he;exact⟨k,e,he⟩
 ·cases h
theorem EI{t:TypeId}(h:GH P t=true):∃a b c,P.underlying t=some (.func a b c):=by
 unfold GH at h;split at h
 ·rename_i a b c he;exact⟨a,b,c,he⟩
 ·cases h
theorem KC{t:TypeId}(h:KB P t=true):P.underlying t=some .bool:=by
 unfold KB at h;split at h
 ·rename_i he;exact he
 ·cases h
set_option maxHeartbeats 1000000 in
theorem WA{t:TypeId}{x y:AV}{x' y':Value}{b:Bool}(h:Ta P t x y=some b)(hx:AJ ρ x x')(hy:AJ ρ y y')(d:Nat):
  (Op.equalIn (d+1) t x' y').run P w=.ok b w:=by
 unfold Ta at h
 split at h
 all_goals first | (cases h;done) | skip
 ·obtain⟨ht,h⟩:=AA h
  injection h with h;subst h
  cases hx;cases hy
  simp[Op.equalIn,AC (KC ht)]
 ·obtain⟨ht,h⟩:=AA h
  injection h with h;subst h
  obtain⟨e,ht⟩:=HG ht
  cases hx;cases hy<;>simp[Op.equalIn,AC ht]
 ·obtain⟨ht,h⟩:=AA h
  injection h with h;subst h
  obtain⟨e,ht⟩:=HG ht
  cases hy;cases hx<;>simp[Op.equalIn,AC ht]
 ·obtain⟨ht,h⟩:=AA h
  injection h with h;subst h
  obtain⟨e,ht⟩:=FX ht
  cases hx;cases hy<;>simp[Op.equalIn,AC ht]
 ·obtain⟨ht,h⟩:=AA h
  injection h with h;subst h
  obtain⟨e,ht⟩:=FX ht
  cases hy;cases hx<;>simp[Op.equalIn,AC ht]
 ·obtain⟨ht,h⟩:=AA h
  injection h with h;subst h
  obtain⟨k,e,ht⟩:=HF ht
  cases hx;cases hy<;>simp[Op.equalIn,AC ht]
 ·obtain⟨ht,h⟩:=AA h
  injection h with h;subst h
  obtain⟨k,e,ht⟩:=HF ht
  cases hy;cases hx<;>simp[Op.equalIn,AC ht]
 ·obtain⟨ht,h⟩:=AA h
  injection h with h;subst h
  obtain⟨a,b,c,ht⟩:=EI ht
  cases hy;cases hx;simp[Op.equalIn,AC ht]
 ·obtain⟨ht,h⟩:=AA h
  injection h with h;subst h
  obtain⟨a,b,c,ht⟩:=EI ht
  cases hy;cases hx;simp[Op.equalIn,AC ht]
 ·obtain⟨ht,h⟩:=AA h
  injection h with h;subst h
  obtain⟨a,b,c,ht⟩:=EI ht
  cases hy;cases hx;simp[Op.equalIn,AC ht]
theorem Q9{t:TypeId}{x y:AV}{x' y':Value}{b:Bool}(h:Ta P t x y=some b)(hx:AJ ρ x x')(hy:AJ ρ y y'):
  (Op.equal t x' y').run P w=.ok b w:=WA h hx hy 9999
def SZ:Value→Bool
 | .nilIface | .agg _=>false
 | _=>true
theorem DR{x':Value}(h:SZ x'=true)(op:BinOp)(t:TypeId)(ox oy:Operand)(y':Value):
  (eqGuard op t ox oy x' y').run P w=.ok () w:=by
 cases x'<;>first | (cases h;done) | (cases op<;>rfl)
theorem JO{t:TypeId}{x y:AV}{x':Value}{b:Bool}(h:Ta P t x y=some b)(hx:AJ ρ x x'):SZ x'=true:=by
 unfold Ta at h
 split at h<;>first | (cases h;done) | (cases hx<;>rfl)
theorem NH      {op : BinOp} {t : TypeId} {x y v : AV} {x' y' : Value} (h : AU   P op t x y = some v) (hx : AJ   ρ x x') (hy : AJ   ρ y y') (ox oy : Operand) :
    ∃v',(do eqGuard op t ox oy x' y';Go.binOp op t x' y').run P w=.ok v' w∧AJ ρ v v':=by
  unfold AU at h
  split at h
  · cases hx;cases hy
    rename_i k a k' b
    rw[Sem.run_bind,DR rfl]
    simp only[Result.andThen_ok]
    split at h
    · simp only[ZA]at h
      obtain⟨u,hu,h⟩:=h
      exact⟨u,by have:=EC (w:=w) hu;simpa[Go.binOp]using this,BE ρ h⟩
    · simp only[ZA]at h
      obtain⟨u,hu,h⟩:=h
      exact⟨u,by have:=EC (w:=w) hu;simpa[Go.binOp]using this,BE ρ h⟩
    · obtain⟨hk,h2⟩:=AA h
      have hkk:=Bi hk
      subst hkk
      exact RX h2 t w
  · cases hx;cases hy
    rename_i a b s1 h1 s2 h2
    subst h1;subst h2
    rw[Sem.run_bind,DR rfl]
    simp only[Result.andThen_ok]
    obtain⟨v',h1,h2⟩:=S4 (P:=P) (ρ:=ρ) h w
    refine⟨v',?_,h2⟩
    rw[← h1]
    cases op<;>first | rfl | (simp[OF]at h;done)
  · split at h
    · simp only[ZA]at h
      obtain⟨b,hb,h⟩:=h
      injection h with h;subst h
      rw[Sem.run_bind,DR (JO hb hx)]
      simp only[Result.andThen_ok]
      refine⟨.bool b,?_,.bool b⟩
      have he:=Q9 (w:=w) hb hx hy
      have:Go.binOp .eql t x' y'=(do pure (.bool (← Op.equal t x' y')):Sem Value):=by
        unfold Ta at hb
        split at hb<;>first | (cases hb;done) | (cases hx<;>cases hy<;>rfl)
      rw[this,Sem.run_bind,he]
      rfl
    · simp only[ZA]at h
      obtain⟨b,hb,h⟩:=h
      injection h with h;subst h
      rw[Sem.run_bind,DR (JO hb hx)]
      simp only[Result.andThen_ok]
      refine⟨.bool (!b),?_,.bool _⟩
      have he:=Q9 (w:=w) hb hx hy
      have:Go.binOp .neq t x' y'=(do pure (.bool (!(← Op.equal t x' y'))):Sem Value):=by
        unfold Ta at hb
        split at hb<;>first | (cases hb;done) | (cases hx<;>cases hy<;>rfl)
      rw[this,Sem.run_bind,he]
      rfl
    · cases h
theorem W1{op:UnOp}{x v:AV}{x':Value}(h:X8 P op x=some v)(hx:AJ ρ x x'):
  ∃v',(Op.unary op x').run P w=.ok v' w∧AJ ρ v v':=by
 unfold X8 at h
 split at h
 ·cases hx
  rename_i k n
  split at h
  ·injection h with h;subst h
   exact⟨.int k (k.wrap (0 - n)),rfl,by rw[E6];exact .int _ _⟩
  ·simp only[ZA]at h
   obtain⟨u,hu,h⟩:=h
   exact⟨u,EC hu,BE ρ h⟩
  ·cases h
 ·cases hx
  split at h
  ·injection h with h;subst h
   exact⟨_,rfl,.bool _⟩
  ·cases h
 ·cases h
theorem KR{x v:AV}{x':Value}(h:Az x=some v)(hx:AJ ρ x x')(ev:Operand→Value)(o:Oper)(y:Operand)(ho:o.op=.nilCheck y)(he:ev y=x'):
  ∃v',(execOp ev o).run P w=.ok (.value v') w∧AJ ρ v v':=by
 unfold Az at h
 split at h<;>first | (cases h;done) | skip
 injection h with h;subst h
 refine⟨x',?_,hx⟩
 cases hx<;>first | (simp only[execOp,ho,he];done) | (simp only[execOp,ho,he];rfl) | (exfalso;simp_all;done)
theorem LB{x v:AV}{i:Nat}{x':Value}(h:Xv x i=some v)(hx:AJ ρ x x'):
  ∃v',(Instr.extract x' i).run P w=.ok v' w∧AJ ρ v v':=by
 unfold Xv at h
 split at h<;>first | (cases h;done) | skip
 cases hx with
 | tuple hs =>
  rename_i cs'
  obtain⟨v',h1,h2⟩:=hs.get h
  refine⟨v',?_,h2⟩
  have:cs'[i]? = some v':=by rw[← Array.getElem?_toList];exact h1
  simp[Instr.extract,this]
theorem Le{t:TypeId}{cs:List AV}{cs':Array Value}{off:Nat}{v:AV}(h:Nz P t cs off=some v)(hc:AI ρ cs cs'.toList):
  ∃v',(part t cs' off).run P w=.ok v' w∧AJ ρ v v':=by
 unfold Nz at h
 simp only[ZA]at h
 obtain⟨g,hg,h⟩:=h
 cases g with
 | true =>
  simp only[ZA]at h
  obtain⟨n,hn,h⟩:=h
  injection h with h;subst h
  refine⟨.agg (cs'.extract off (off+n)),by simp[part,FF hg,AY hn],.agg ?_⟩
  have:(cs'.extract off (off+n)).toList=(cs'.toList.drop off).take n:=by
   rw[Array.toList_extract,List.extract_eq_take_drop]
   congr 1
   omega
  rw[this]
  exact(hc.drop off).take n
 | false =>
  obtain⟨v',h1,h2⟩:=hc.get h
  refine⟨v',?_,h2⟩
  have:cs'[off]? = some v':=by rw[← Array.getElem?_toList];exact h1
  simp[part,FF hg,this]
theorem IT{x:AV}{x':Value}{k:Nat}(h:idxOf x=some k)(hx:AJ ρ x x'):∃kd,x'=.int kd (k:Int):=by
 unfold idxOf at h
 split at h<;>first | (cases h;done) | skip
 cases hx
 rename_i kd n
 exact⟨kd,by rw[SR h]⟩
theorem Oh{t:TypeId}{x v:AV}{x':Value}{f:Nat}(h:Cb P t x f=some v)(hx:AJ ρ x x'):
  ∃v',(Instr.field t x' f).run P w=.ok v' w∧AJ ρ v v':=by
 unfold Cb at h
 split at h<;>first | (cases h;done) | skip
 split at h<;>first | (cases h;done) | skip
 rename_i fs hfs
 simp only[ZA]at h
 obtain⟨fd,hfd,h⟩:=h
 cases hx with
 | agg hs =>
  obtain⟨v',h1,h2⟩:=Le (w:=w) h hs
  exact⟨v',by simp[Instr.field,AC hfs,hfd,asAgg,h1],h2⟩
theorem Oj        {t : TypeId} {x ix v : AV} {x' ix' : Value} (h : Mb     P t x ix = some v) (hx : AJ   ρ x x') (hi : AJ   ρ ix ix') :
    ∃v',(Instr.index t x' ix').run P w=.ok v' w∧AJ ρ v v':=by
  unfold Mb at h
  simp only[ZA]at h
  obtain⟨k,hk,h⟩:=h
  obtain⟨kd,rfl⟩:=IT hk hi
  split at h<;>first | (cases h;done) | skip
  · split at h<;>first | (cases h;done) | skip
    rename_i len e he
    simp only[ZA]at h
    obtain⟨n,hn,h⟩:=h
    obtain⟨hlt,h⟩:=AA h
    have hlt':k<len:=by simpa[ZX]using hlt
    cases hx with
    | agg hs =>
      obtain⟨v',h1,h2⟩:=Le (w:=w) h hs
      refine⟨v',?_,h2⟩
      have:(0:Int)≤(k:Int)∧(k:Int)<(len:Int):=by omega
      simp only[Instr.index,asIntOf,Sem.run_bind,Sem.run_pure,Result.andThen_ok,AC he,this,and_self,if_true,AY hn]
      simpa using h1
  · split at h <;> first | (cases h; done) | skip
    rename_i l _ he
    simp only[ZA]at h
    obtain⟨b,hb,h⟩:=h
    injection h with h;subst h
    cases hx with
    | str hs =>
      rename_i s
      subst hs
      rw[Zg]at hb
      simp only[Option.map_eq_some_iff]at hb
      obtain⟨u,hu,rfl⟩:=hb
      refine⟨.int .u8 u.toNat,?_,.int _ _⟩
      have h0:(0:Int)≤(k:Int):=by omega
      have:s[k]? = some u:=by
        rw[← hu]
        rcases ZO k s.size with hlt | hge
        · rw [getElem?_pos s k hlt, ZP                       (by simpa using hlt)]
          rfl
        · rw[getElem?_neg s k (by omega),ZT (by simpa using hge)]
      simp[Instr.index,asIntOf,AC he,this]
end
structure EY(P:Program)(ρ:Aq)(w:World)(l:Hs)(rb:RB):Prop where
 ex:∃L:Loop,w.heap[rb.b]? = some (.loop L)∧L.state=l.state∧L.pending=l.pending∧L.params=l.params∧L.assign=l.assign∧L.body=l.body ∧
  (∃rd,ρ l.dfr=some rd∧L.defers=rd.b)∧Cj ρ (F2 P l.fn) l.var L.tmps∧(∀fn,P.funcs[l.fn]? = some fn→fn.ntmps≤L.tmps.size)∧l.var.length=(F2 P l.fn).length
def EU(P:Program)(ρ:Aq)(w:World):AX→RB→Prop
 | .row r,rb=>BF ρ w r rb
 | .map kt es,rb=>G6 P ρ w kt es rb
 | .loop l,rb=>EY P ρ w l rb
 | .mark,rb=>w.heap[rb.b]? = some (.deferred (some []))
 | .iter _ _,_=>False
def wr:AX→Bool
 | .row r=>Cx r.mode
 | _=>true
def HL:AX→Option Nat
 | .row r=>r.par
 | _=>none
def Fm:AX→Option Nat
 | .row r=>r.glob
 | _=>none
structure Al(P:Program)(ρ:Aq)(s:AE)(w:World):Prop where
 obj:∀i o rb,s.heap.get i=some o→ρ i=some rb→EU P ρ w o rb
 lt:∀i rb,ρ i=some rb→rb.b<w.heap.size
 sep:∀i j oi oj ri rj,i≠j→s.heap.get i=some oi→s.heap.get j=some oj→ρ i=some ri→ρ j=some rj→ri.b=rj.b→wr oj=true→HL oj=some i∧wr oi=false
 glb:∀i o g,s.heap.get i=some o→Fm o=some g→∃rb,ρ i=some rb
def EZ(ρ:Aq)(s:AE)(b:Nat):Prop:=∃i o rb,s.heap.get i=some o∧wr o=true∧ρ i=some rb∧rb.b=b
structure Fr(ρ:Aq)(s:AE)(w:World)(ρ':Aq)(s':AE)(w':World):Prop where
 le:ρ.le ρ'
 fresh:∀i,ρ i=none→(i<s.next∨s'.next≤i)→ρ' i=none
 next:s.next≤s'.next
 size:w.heap.size≤w'.heap.size
 os:w'.os=w.os
 tape:w'.tape=w.tape
 output:w'.output=w.output
 keep:∀b,b<w.heap.size→¬ EZ ρ s b→w'.heap[b]? = w.heap[b]?
 own:∀b,EZ ρ' s' b→EZ ρ s b∨w.heap.size≤b
 unborn:∀i,ρ i=none→(i<s.next∨s'.next≤i)→s'.heap.get i=s.heap.get i
section
variable{P:Program}{ρ ρ1 ρ2:Aq}{s s1 s2:AE}{w w1 w2:World}
theorem Fr.refl(ρ:Aq)(s:AE)(w:World):Fr ρ s w ρ s w:=
 ⟨Aq.le_refl ρ,fun _ h _=>h,Y9 _,Y9 _,rfl,rfl,rfl,fun _ _ _=>rfl,fun _ h=>.inl h,fun _ _ _=>rfl⟩
theorem Fr.trans(h:Fr ρ s w ρ1 s1 w1)(k:Fr ρ1 s1 w1 ρ2 s2 w2):Fr ρ s w ρ2 s2 w2 where
 le:=Aq.le_trans h.le k.le
 fresh:=fun i hi hr=>k.fresh i (h.fresh i hi (hr.imp id (fun h'=>Za k.next h'))) (hr.imp (fun h'=>ZS h' h.next) id)
 next:=Za h.next k.next
 size:=Za h.size k.size
 os:=k.os.trans h.os
 tape:=k.tape.trans h.tape
 output:=k.output.trans h.output
 keep:=fun b hb ho=>(k.keep b (ZS hb h.size) (fun ho1=>(h.own b ho1).elim ho (fun hge=>by omega))).trans (h.keep b hb ho)
 own:=fun b hb=>(k.own b hb).elim (fun h1=>h.own b h1) (fun hge=>.inr (Za h.size hge))
 unborn:=fun i hi hr=>(k.unborn i (h.fresh i hi (hr.imp id (fun h'=>Za k.next h'))) (hr.imp (fun h'=>ZS h' h.next) id)).trans (h.unborn i hi (hr.imp id (fun h'=>Za k.next h')))
theorem GC{a:Addr}(h:w1.heap[a.block]? = w.heap[a.block]?):w1.cell? a=w.cell? a:=by simp[World.cell?,h]
theorem Cj.mono{σ:Aq}(le:ρ.le σ){vars:List Tmp}{var:List AV}{tmps:Array Value}(h:Cj ρ vars var tmps):Cj σ vars var tmps:=
 fun t k hk=>let ⟨h1,v,h2,h3⟩:=h t k hk;⟨h1,v,h2,h3.mono le⟩
theorem EU.mono    {o : AX}   {rb : RB} (h : EU    P ρ w o rb) (le : ρ.le ρ1) (hk : w1.heap[rb.b]? = w.heap[rb.b]?) : EU    P ρ1 w1 o rb := by
  cases o with
  | row r =>
    exact⟨fun k v hk' hv=>by
        obtain⟨v',h1,h2⟩:=h.cells k v hk' hv
        exact⟨v',(GC (a:=⟨rb.b,_,none⟩) hk).trans h1,h2.mono le⟩,
      h.le,h.sz,h.tight,fun hm=>by
        obtain⟨cs,h1,h2⟩:=h.own hm
        exact⟨cs,hk.trans h1,h2⟩,h.base,h.gl,fun p hp=>let ⟨rp,h1⟩:=h.par p hp;⟨rp,le _ _ h1⟩⟩
  | map kt es =>
    obtain⟨es',clock,h1,h2,⟨l,h3,h4⟩,h5⟩:=h.ex
    exact⟨es',clock,hk.trans h1,h2,⟨l,h3,h4.mono le⟩,h5⟩
  | loop l =>
    obtain⟨L,h0,h1,h2,h4,h5,h6,⟨rd,h7,h7'⟩,h8,h9⟩:=h.ex
    exact⟨L,hk.trans h0,h1,h2,h4,h5,h6,⟨rd,le _ _ h7,h7'⟩,h8.mono le,h9⟩
  | mark=>exact hk.trans h
  | iter=>exact h
def BJ(ρ:Aq)(i:Nat)(rb:RB):Aq:=fun j=>if j=i then some rb else ρ j
theorem AM(i:Nat)(rb:RB):BJ ρ i rb i=some rb:=by simp[BJ]
theorem AL{i j:Nat}(rb:RB)(h:j≠i):BJ ρ i rb j=ρ j:=by simp[BJ,h]
theorem BL{i:Nat}{rb:RB}(h:ρ i=none):ρ.le (BJ ρ i rb):=fun j r hj=>by
 have:j≠i:=fun e=>by subst e;rw[h]at hj;cases hj
 rw[AL rb this];exact hj
theorem Ak(s:AE)(o:AX)(j:Nat):(newObj s o).heap.get j=if j=s.next then some o else s.heap.get j:=AG.get_set _ _ _ _
theorem A3(s:AE)(i:Nat)(o:AX)(j:Nat):(setObj s i o).heap.get j=if j=i then some o else s.heap.get j:=AG.get_set _ _ _ _
theorem Ar(s:AE)(i j:Nat):(Bd s i).heap.get j=if j=i then none else s.heap.get j:=AG.get_del _ _ _
theorem Dm{o:Obj}{b:Nat}(h:b<w.heap.size):(w.alloc o).heap[b]? = w.heap[b]? :=
 Go.RowKit.Below.heap_alloc w o b h
theorem Al.new  (h : Al  P ρ s w) {o : AX}   {o' : Obj} {rb : RB} (hf : ρ s.next = none) (hb : rb.b = w.heap.size)
    (ho:EU P (BJ ρ s.next rb) (w.alloc o') o rb):
    Al P (BJ ρ s.next rb) (newObj s o) (w.alloc o')∧Fr ρ s w (BJ ρ s.next rb) (newObj s o) (w.alloc o'):=by
  have hle:=BL (rb:=rb) hf
  have hglb:∀i oi g,(newObj s o).heap.get i=some oi→Fm oi=some g→∃r,BJ ρ s.next rb i=some r:=by
    intro i oi g hi hg
    rw[Ak]at hi
    by_cases e:i=s.next
    · subst e;exact⟨_,AM _ _⟩
    · rw[if_neg e]at hi
      obtain⟨r,hr⟩:=h.glb i oi g hi hg
      exact⟨r,hle _ _ hr⟩
  refine⟨⟨?_,?_,?_,hglb⟩,?_⟩
  · intro i oi ri hi hr
    rw[Ak]at hi
    by_cases e:i=s.next
    · subst e
      rw[if_pos rfl]at hi
      injection hi with hi
      rw[AM]at hr
      injection hr with hr
      subst hi;subst hr
      exact ho
    · rw [if_neg e] at hi
      rw[AL rb e]at hr
      exact(h.obj i oi ri hi hr).mono hle (Dm (h.lt i ri hr))
  · intro i ri hr
    by_cases e:i=s.next
    · subst e
      rw[AM]at hr
      injection hr with hr
      subst hr
      simp[hb]
    · rw[AL rb e]at hr
      have:=h.lt i ri hr
      simp;omega
  · intro i j oi oj ri rj hne hi hj hri hrj hbb hw
    rw[Ak]at hi hj
    by_cases ei:i=s.next
    · subst ei
      have ej:j≠s.next:=fun e=>hne e.symm
      rw[AM]at hri
      rw[AL rb ej]at hrj
      injection hri with hri
      subst hri
      have:=h.lt j rj hrj
      omega
    · by_cases ej : j = s.next
      · subst ej
        rw[AL rb ei]at hri
        rw[AM]at hrj
        injection hrj with hrj
        subst hrj
        have:=h.lt i ri hri
        omega
      · rw [if_neg ei] at hi
        rw[if_neg ej]at hj
        rw[AL rb ei]at hri
        rw[AL rb ej]at hrj
        exact h.sep i j oi oj ri rj hne hi hj hri hrj hbb hw
  · refine ⟨hle, ?_, by simp [newObj], by simp, rfl, rfl, rfl, fun b hb _ => Dm            hb, ?_, ?_⟩
    · intro i hi hr
      have:i≠s.next:=by simp[newObj]at hr;omega
      rw[AL rb this];exact hi
    · rintro b ⟨i, oi, ri, hi, hw, hr, rfl⟩
      rw[Ak]at hi
      by_cases e:i=s.next
      · subst e
        rw[AM]at hr
        injection hr with hr
        subst hr
        exact .inr (by omega)
      · rw [if_neg e] at hi
        rw[AL rb e]at hr
        exact .inl ⟨i,oi,ri,hi,hw,hr,rfl⟩
    · intro i _ hi
      rw[Ak,if_neg (by simp[newObj]at hi;omega)]
theorem Al.set  (h : Al  P ρ s w) {i : Nat} {o o1 : AX}   {rb : RB} (hg : s.heap.get i = some o) (hr : ρ i = some rb) (hw : wr o = true) (hp : ∀ p, HL    o = some p → p ≠ i → s.heap.get p = none)
    (hp1:HL o1=none) (hsz:w1.heap.size=w.heap.size) (hkeep:∀b,b≠rb.b→w1.heap[b]? = w.heap[b]?) (hos:w1.os=w.os) (htape:w1.tape=w.tape) (hout:w1.output=w.output)
    (ho:EU P ρ w1 o1 rb):Al P ρ (setObj s i o1) w1∧Fr ρ s w ρ (setObj s i o1) w1:=by
  have hsep:∀j oj rj,j≠i→s.heap.get j=some oj→ρ j=some rj→rj.b≠rb.b:=by
    intro j oj rj hne hj hrj e
    have:=hp j (h.sep j i oj o rj rb hne hj hg hrj hr e hw).1 hne
    rw[hj]at this
    cases this
  have hglb:∀j oj g,(setObj s i o1).heap.get j=some oj→Fm oj=some g→∃r,ρ j=some r:=by
    intro j oj g hj hg
    rw[A3]at hj
    by_cases e:j=i
    · subst e;exact⟨_,hr⟩
    · rw[if_neg e]at hj
      exact h.glb j oj g hj hg
  refine⟨⟨?_,?_,?_,hglb⟩,?_⟩
  · intro j oj rj hj hrj
    rw[A3]at hj
    by_cases e:j=i
    · subst e
      rw[if_pos rfl]at hj
      injection hj with hj
      subst hj
      rw[hr]at hrj
      injection hrj with hrj
      subst hrj
      exact ho
    · rw[if_neg e]at hj
      exact(h.obj j oj rj hj hrj).mono (Aq.le_refl ρ) (hkeep _ (hsep j oj rj e hj hrj))
  · intro j rj hrj
    rw[hsz];exact h.lt j rj hrj
  · intro j k oj ok rj rk hne hj hk hrj hrk hbb hwk
    rw[A3]at hj hk
    by_cases ej:j=i
    · subst ej
      have ek:k≠j:=fun e=>hne e.symm
      rw[if_neg ek]at hk
      rw[hr]at hrj
      injection hrj with hrj
      subst hrj
      exact absurd hbb.symm (hsep k ok rk ek hk hrk)
    · by_cases ek : k = i
      · subst ek
        rw[if_neg ej]at hj
        rw[hr]at hrk
        injection hrk with hrk
        subst hrk
        exact absurd hbb (hsep j oj rj ej hj hrj)
      · rw [if_neg ej] at hj
        rw[if_neg ek]at hk
        exact h.sep j k oj ok rj rk hne hj hk hrj hrk hbb hwk
  · refine ⟨Aq.le_refl  ρ, fun _ h _ => h, Y9          _, by omega, hos, htape, hout, ?_, ?_, ?_⟩
    · intro b _ hno
      exact hkeep b (fun e=>hno ⟨i,o,rb,hg,hw,hr,e.symm⟩)
    · rintro b ⟨j, oj, rj, hj, hwj, hrj, rfl⟩
      rw[A3]at hj
      by_cases e:j=i
      · subst e
        rw[hr]at hrj
        injection hrj with hrj
        subst hrj
        exact .inl ⟨j,o,rb,hg,hw,hr,rfl⟩
      · rw[if_neg e]at hj
        exact .inl ⟨j,oj,rj,hj,hwj,hrj,rfl⟩
    · intro j hrj _
      rw[A3,if_neg]
      intro e
      subst e
      rw[hr]at hrj
      cases hrj
theorem Al.del  (h : Al  P ρ s w) {i : Nat} {rb : RB} (hr : ρ i = some rb) : Al  P ρ (Bd     s i) w ∧ Fr ρ s w ρ (Bd     s i) w := by
  have hglb:∀j oj g,(Bd s i).heap.get j=some oj→Fm oj=some g→∃r,ρ j=some r:=by
    intro j oj g hj hg
    rw[Ar]at hj
    by_cases e:j=i
    · rw[if_pos e]at hj;cases hj
    · rw[if_neg e]at hj
      exact h.glb j oj g hj hg
  refine⟨⟨?_,h.lt,?_,hglb⟩,⟨Aq.le_refl ρ,fun _ h _=>h,Y9 _,Y9 _,rfl,rfl,rfl,fun _ _ _=>rfl,?_,?_⟩⟩
  · intro j oj rj hj hrj
    rw[Ar]at hj
    by_cases e:j=i
    · rw[if_pos e]at hj;cases hj
    · rw[if_neg e]at hj
      exact h.obj j oj rj hj hrj
  · intro j k oj ok rj rk hne hj hk
    rw[Ar]at hj hk
    by_cases ej:j=i
    · rw[if_pos ej]at hj;cases hj
    · by_cases ek : k = i
      · rw[if_pos ek]at hk;cases hk
      · rw [if_neg ej] at hj
        rw[if_neg ek]at hk
        exact h.sep j k oj ok rj rk hne hj hk
  · rintro b ⟨j, oj, rj, hj, hwj, hrj, rfl⟩
    rw[Ar]at hj
    by_cases e:j=i
    · rw[if_pos e]at hj;cases hj
    · rw[if_neg e]at hj
      exact .inl ⟨j,oj,rj,hj,hwj,hrj,rfl⟩
  · intro j hrj _
    rw[Ar,if_neg]
    intro e
    subst e
    rw[hr]at hrj
    cases hrj
theorem Aj{i:Nat}{r:B0}(h:rowAt s i=some r):s.heap.get i=some (.row r):=by
 unfold rowAt at h
 split at h
 ·injection h with h;subst h;assumption
 ·cases h
theorem BM(b o k:Nat):(⟨b,o,none⟩:Addr).add k=⟨b,o+k,none⟩:=by unfold Addr.add;split<;>simp_all
theorem Bb(h:Al P ρ s w){i off n:Nat}{l:List AV}{rb:RB}(hr:ρ i=some rb)(hl:A9 s i off n=some l):
  ∃l':List Value,AI ρ l l'∧l'.length=n∧∀w1:World,w1.heap=w.heap→(loadCells ⟨rb.b,rb.off+off,none⟩ n).run P w1=.ok l'.toArray w1:=by
 unfold A9 at hl
 simp only[ZA]at hl
 obtain⟨r,hrow,hl⟩:=hl
 obtain⟨hb,hl⟩:=AA hl
 have hb:off+n≤r.n:=by simpa[ZN]using hb
 have hok:BF ρ w r rb:=h.obj i _ rb (Aj hrow) hr
 have hlen:=AG.take_length hl
 have hc:∀k,k<n→∃v v',l[k]? = some v∧w.cell? ⟨rb.b,rb.off+off+k,none⟩=some v'∧AJ ρ v v':=by
  intro k hk
  have hv:l[k]? = some l[k]:=ZP (by omega)
  have hg:=AG.take_get hl k hk
  rw[hv]at hg
  obtain⟨v',h1,h2⟩:=hok.cells (off+k) _ (by omega) hg
  exact⟨l[k],v',hv,by rw[show rb.off+off+k=rb.off+(off+k)from by omega];exact h1,h2⟩
 let f:Nat→Value:=fun k=>(w.cell? ⟨rb.b,rb.off+off+k,none⟩).getD undef
 have hf:∀k,k<n→w.cell? ⟨rb.b,rb.off+off+k,none⟩=some (f k):=by
  intro k hk
  obtain⟨v,v',_,h2,_⟩:=hc k hk
  simp[f,h2]
 refine⟨(List.range n).map f,?_,by simp,?_⟩
 ·refine AI.of_get (by simp[hlen]) ?_
  intro k v v' hv hv'
  have hk:k<n:=by
   rcases ZO k n with h' | h'
   ·exact h'
   ·rw[ZT (by omega)]at hv;cases hv
  obtain⟨u,u',h1,h2,h3⟩:=hc k hk
  rw[h1]at hv
  injection hv with hv
  subst hv
  rw[Zg,List.getElem?_range hk]at hv'
  simp only[Zl]at hv'
  injection hv' with hv'
  rw[← hv']
  have:f k=u':=by simp[f,h2]
  rw[this];exact h3
 ·intro w1 he
  exact run_loadCells w1 _ n f (fun j hj=>by rw[BM];exact(GC (by rw[he])).trans (hf j hj))
theorem Ev(h:Al P ρ s w){i off:Nat}{v:AV}{rb:RB}(hr:ρ i=some rb)(hl:B9 s i off=some v):
  ∃v',AJ ρ v v'∧w.cell? ⟨rb.b,rb.off+off,none⟩=some v':=by
 unfold B9 at hl
 simp only[ZA]at hl
 obtain⟨r,hrow,hl⟩:=hl
 obtain⟨hb,hl⟩:=AA hl
 have hb:off<r.n:=by simpa[ZX]using hb
 have hok:BF ρ w r rb:=h.obj i _ rb (Aj hrow) hr
 obtain⟨v',h1,h2⟩:=hok.cells off v hb hl
 exact⟨v',h2,h1⟩
theorem LS       (h : Al  P ρ s w) {t : TypeId} {a v : AV} {a' : Value} (hl : AO    P s t a = some v) (ha : AJ   ρ a a') :
    ∃v',(Instr.loadAt t a').run P w=.ok v' w∧AJ ρ v v'∧∃ad,a'=.pointer (some ad)∧(loadVar t ad).run P w=.ok v' w:=by
  unfold AO at hl
  split at hl<;>first | (cases hl;done) | skip
  · rename_i i o
    cases ha
    simp only[ZA]at hl
    obtain⟨r,hgr,g,hg,hl⟩:=hl
    have hrow:rowAt s i=some r∧r.glob=some i:=by
      unfold KA at hgr
      simp only[ZA]at hgr
      obtain⟨r',h1,h2⟩:=hgr
      split at h2<;>first | (cases h2;done) | skip
      rename_i g' hg'
      obtain⟨h3,h4⟩:=AA h2
      injection h4 with h4
      subst h4
      exact⟨h1,by rw[hg',ZR h3]⟩
    obtain⟨rb,hr⟩:=h.glb i _ i (Aj hrow.1) hrow.2
    have hok:BF ρ w r rb:=h.obj i _ rb (Aj hrow.1) hr
    obtain⟨hb,ho⟩:=hok.gl i hrow.2
    cases g with
    | true =>
      simp only[ZA]at hl
      obtain⟨n,hn,l,hl,hv⟩:=hl
      injection hv with hv;subst hv
      obtain⟨l',h1,h2,h3⟩:=Bb h hr hl
      rw[hb,ho,ZB]at h3
      have hrun:(loadVar t ⟨i,o,none⟩).run P w=.ok (.agg l'.toArray) w:=by
        simp[loadVar,FF hg,AY hn,h3 w rfl]
      exact⟨.agg l'.toArray,by simp[Instr.loadAt,Instr.sureAddr,hrun],.agg (by simpa using h1),_,rfl,hrun⟩
    | false =>
      obtain⟨v',h1,h2⟩:=Ev h hr hl
      rw[hb,ho,ZB]at h2
      have hrun:(loadVar t ⟨i,o,none⟩).run P w=.ok v' w:=by
        simp[loadVar,FF hg,h2]
      exact⟨v',by simp[Instr.loadAt,Instr.sureAddr,hrun],h1,_,rfl,hrun⟩
  rename_i i o
  cases ha with
  | ptr hr =>
    rename_i rb
    simp only[ZA]at hl
    obtain⟨g,hg,hl⟩:=hl
    cases g with
    | true =>
      simp only[ZA]at hl
      obtain⟨n,hn,l,hl,hv⟩:=hl
      injection hv with hv;subst hv
      obtain⟨l',h1,h2,h3⟩:=Bb h hr hl
      have hrun:(loadVar t ⟨rb.b,rb.off+o,none⟩).run P w=.ok (.agg l'.toArray) w:=by
        simp[loadVar,FF hg,AY hn,h3 w rfl]
      exact⟨.agg l'.toArray,by simp[Instr.loadAt,Instr.sureAddr,hrun],.agg (by simpa using h1),_,rfl,hrun⟩
    | false =>
      obtain⟨v',h1,h2⟩:=Ev h hr hl
      have hrun:(loadVar t ⟨rb.b,rb.off+o,none⟩).run P w=.ok v' w:=by
        simp[loadVar,FF hg,h2]
      exact⟨v',by simp[Instr.loadAt,Instr.sureAddr,hrun],h1,_,rfl,hrun⟩
end
section
variable{P:Program}{ρ ρ1 ρ2:Aq}{s s1 s2:AE}{w w1 w2:World}
theorem SQ{e:TypeId}{sz:Nat}{l:List AV}{cs:Array Value}(hl:AI ρ l cs.toList)(b:Nat)(hb:w.heap[b]? = some (.cells cs e (0,0))):
  EU P ρ w (HI e sz l) ⟨b,0,l.length,sz⟩:=by
 have hlen:=hl.length
 refine⟨?_,Y9 _,rfl,fun _=>rfl,fun _=>⟨cs,hb,by simp[hlen]⟩,fun _=>rfl,(fun g hg=>by cases hg),fun p hp=>by cases hp⟩
 intro k v hk hv
 simp only[AG.get_fill,ZW,ZB,true_and,Nat.sub_zero]at hv
 rw[if_pos hk]at hv
 obtain⟨v',h1,h2⟩:=hl.get hv
 refine⟨v',?_,h2⟩
 simp only[World.cell?,hb,ZB]
 rw[← Array.getElem?_toList]
 simpa using h1
theorem FC(h:Al P ρ s w)(hf:ρ s.next=none){e:TypeId}{sz:Nat}{l:List AV}{cs:Array Value}(hl:AI ρ l cs.toList):
  ∃ρ',ρ' s.next=some ⟨w.heap.size,0,l.length,sz⟩∧Al P ρ' (newObj s (HI e sz l)) (w.alloc (.cells cs e))∧Fr ρ s w ρ' (newObj s (HI e sz l)) (w.alloc (.cells cs e)):=by
 have hle:=BL (rb:=⟨w.heap.size,0,l.length,sz⟩) hf
 obtain⟨h1,h2⟩:=h.new (o:=HI e sz l) (o':=.cells cs e) (rb:=⟨w.heap.size,0,l.length,sz⟩) hf rfl
  (SQ (hl.mono hle) _ (World.alloc_heap_new w _))
 exact⟨_,AM _ _,h1,h2⟩
theorem FG        (h : Al  P ρ s w) {i off : Nat} {vs : List AV} {vs' : List Value} {rb : RB} (hr : ρ i = some rb) (hs : Bk     s i off vs = some s1) (hv : AI    ρ vs vs') :
    ∃w1,(storeCells ⟨rb.b,rb.off+off,none⟩ vs').run P w=.ok () w1∧Al P ρ s1 w1∧Fr ρ s w ρ s1 w1:=by
  cases vs with
  | nil =>
    cases hv
    simp only[Bk]at hs
    injection hs with hs
    subst hs
    exact⟨w,rfl,h,Fr.refl _ _ _⟩
  | cons v0 vs0 =>
    have hsv:Bk s i off (v0::vs0)=(rowAt s i).bind fun r =>
      AF (Cx r.mode && Nat.ble (off+(v0::vs0).length) r.n && Af (v0::vs0))
        (some (setObj (Ax s i r) i (.row { r with c:=r.c.fill off (v0::vs0),par:=none }))):=rfl
    rw[hsv]at hs
    generalize v0::vs0=vs at hs hv
    simp only[ZA]at hs
    obtain⟨r,hrow,hs⟩:=hs
    obtain⟨hb,hs⟩:=AA hs
    injection hs with hs
    subst hs
    simp only[Bool.and_eq_true,ZN]at hb
    obtain⟨⟨hown,hle⟩,hall⟩:=hb
    have hg:=Aj hrow
    have hok:BF ρ w r rb:=h.obj i _ rb hg hr
    have hmode:r.mode≠.ro:=fun e=>by rw[e]at hown;cases hown
    obtain⟨cs,hblk,hsz⟩:=hok.own hmode
    obtain⟨e,he0⟩:∃e,r.elem=e:=⟨_,rfl⟩
    rw[he0]at hblk
    have hlen:=hv.length
    have hfit:rb.off+off+vs'.length≤cs.size:=by have:=hok.le;omega
    have hrun:=run_storeCells_at P rb.b (rb.off+off) e vs' 0 cs w hblk (by simpa using hfit) (hv.oneCell hall)
    refine⟨_,hrun,?_⟩
    simp only[Nat.add_zero]
    generalize hnew:(cs.toList.take (rb.off+off)++vs'++cs.toList.drop (rb.off+off+vs'.length)).toArray=cs1
    have hblk1:(w.setRow rb.b cs1).heap[rb.b]? = some (.cells cs1 e (0,0)):=setRow_heap w rb.b cs cs1 e (0,0) hblk
    have hsize1:cs1.size=cs.size:=by rw[← hnew];simp;omega
    have hget:∀k,cs1[k]? = if rb.off+off≤k∧k<rb.off+off+vs'.length then vs'[k - (rb.off+off)]? else cs[k]? := by
      intro k
      rw[← hnew,List.getElem?_toArray]
      by_cases h1:k<rb.off+off
      · rw[if_neg (by omega),Zk,Zb (by simp;omega),Zy h1,Array.getElem?_toList]
      · rw[Zk,Zc (by simp;omega)]
        have hmin:(cs.toList.take (rb.off+off)).length=rb.off+off:=by simp;omega
        rw[hmin]
        by_cases h2:k<rb.off+off+vs'.length
        · rw[if_pos (by omega),Zb (by omega)]
        · rw[if_neg (by omega),Zc (by omega),Z1,← Array.getElem?_toList]
          congr 1
          omega
    have key:∀sx:AE,Al P ρ sx w→Fr ρ s w ρ sx w→sx.heap.get i=some (.row r)→(∀p,r.par=some p→p≠i→sx.heap.get p=none) →
        Al P ρ (setObj sx i (.row { r with c:=r.c.fill off vs,par:=none })) (w.setRow rb.b cs1) ∧
        Fr ρ s w ρ (setObj sx i (.row { r with c:=r.c.fill off vs,par:=none })) (w.setRow rb.b cs1):=by
      intro sx hx hfx hgx hpx
      obtain⟨h1,h2⟩:=hx.set (o1:=.row { r with c:=r.c.fill off vs,par:=none }) (w1:=w.setRow rb.b cs1) hgx hr (by simpa[wr]using hown) hpx rfl (by simp)
        (fun b hb=>setRow_other w rb.b b cs1 hb) rfl rfl rfl (by
          refine⟨?_,hok.le,hok.sz,hok.tight,fun _=>⟨cs1,by show _=some (Obj.cells cs1 r.elem (0,0));rw[he0];exact hblk1,by rw[hsize1];exact hsz⟩,hok.base,hok.gl,fun p hp=>by cases hp⟩
          intro k v hk hkv
          simp only[AG.get_fill]at hkv
          have hcell:(w.setRow rb.b cs1).cell? ⟨rb.b,rb.off+k,none⟩=cs1[rb.off+k]? := by simp[World.cell?,hblk1]
          rw[hcell,hget]
          by_cases hin:off≤k∧k<off+vs.length
          · rw [if_pos hin] at hkv
            rw[if_pos (by omega),show rb.off+k - (rb.off+off)=k - off from by omega]
            exact hv.get hkv
          · rw [if_neg hin] at hkv
            rw[if_neg (by omega)]
            obtain⟨v',h1,h2⟩:=hok.cells k v hk hkv
            refine⟨v',?_,h2⟩
            simpa[World.cell?,hblk]using h1)
      exact⟨h1,hfx.trans h2⟩
    unfold Ax
    split
    · rename_i hp
      exact key s h (Fr.refl _ _ _) hg (fun p hp' _=>by rw[hp]at hp';cases hp')
    · rename_i p hp
      by_cases hpi:p=i
      · have:Nat.beq p i=true:=by rw[hpi];simp[Zm]
        rw[this]
        exact key s h (Fr.refl _ _ _) hg (fun q hq hqi=>by rw[hp]at hq;injection hq with hq;exact absurd (hq.symm.trans hpi) hqi)
      · rw[AG.beq_no hpi]
        obtain⟨rp,hrp⟩:=hok.par p hp
        obtain⟨hd,hfd⟩:=h.del hrp
        exact key (Bd s p) hd hfd (by rw[Ar,if_neg (fun e=>hpi e.symm)];exact hg) (fun q hq _=>by
          rw[hp]at hq
          injection hq with hq
          subst hq
          rw[Ar,if_pos rfl])
theorem AS{a b:Nat}(h:Nat.beq a b=true):a=b:=ZR h
theorem PW(h:Al P ρ s w){t:TypeId}{a v:AV}{a' v':Value}(hs:BH P s t a v=some s1)(ha:AJ ρ a a')(hv:AJ ρ v v'):
  ∃w1,(Instr.storeAt t a' v').run P w=.ok () w1∧Al P ρ s1 w1∧Fr ρ s w ρ s1 w1:=by
 unfold BH at hs
 split at hs<;>first | (cases hs;done) | skip
 rename_i i o
 cases ha with
 | ptr hr =>
  rename_i rb
  simp only[ZA]at hs
  obtain⟨n,hn,hs⟩:=hs
  obtain⟨hb,hs⟩:=AA hs
  have hb:=AS hb
  obtain⟨w1,h1,h2⟩:=FG h hr hs hv.cells
  refine⟨w1,?_,h2⟩
  have hc:v'.cells.size=n:=by have:=hv.cells.length;simp at this;omega
  simp[Instr.storeAt,Instr.sureAddr,storeVar,AY hn,hc,h1]
def JG(P:Program)(ρ:Aq)(s:AE)(w:World)(sem:Sem Value)(o:AX)(m:Made):Prop:=
 ∃v' w' ρ',sem.run P w=.ok v' w'∧AJ ρ' (m.val s.next) v'∧Al P ρ' (newObj s o) w'∧Fr ρ s w ρ' (newObj s o) w'
theorem OR(h:Al P ρ s w)(hf:ρ s.next=none){e:TypeId}{o:AX}{m:Made}(hs:B2 P e=some (o,m)):
  JG P ρ s w (Instr.alloc e true (.tuple #[])) o m:=by
 unfold B2 at hs
 simp only[ZA]at hs
 obtain⟨z,hz,hs⟩:=hs
 injection hs with hs
 injection hs with h1 h2
 subst h1;subst h2
 obtain⟨z',hz',hzr⟩:=GU (w:=w) ρ hz
 obtain⟨ρ',h1,h2,h3⟩:=FC h hf (e:=e) (sz:=0) hzr.cells
 exact⟨.pointer (some ⟨w.heap.size,0,none⟩),_,ρ',by simp[Instr.alloc,hz',newVar,newRow],AJ.ptr h1,h2,h3⟩
theorem TS(h:Al P ρ s w)(hf:ρ s.next=none){e:TypeId}{v:AV}{v':Value}{o:AX}{m:Made}(hs:FN e v=some (o,m))(hv:AJ ρ v v'):
  JG P ρ s w (Instr.box e v') o m:=by
 unfold FN at hs
 injection hs with hs
 injection hs with h1 h2
 subst h1;subst h2
 obtain⟨ρ',h1,h2,h3⟩:=FC h hf (e:=e) (sz:=0) hv.cells
 exact⟨.pointer (some ⟨w.heap.size,0,none⟩),_,ρ',by simp[Instr.box,newVar,newRow],AJ.ptr h1,h2,h3⟩
theorem Mm(h:Al P ρ s w)(hf:ρ s.next=none)(t kt:TypeId):JG P ρ s w (Instr.makeMap t none) (.map kt []) .map:=by
 have hle:=BL (rb:=⟨w.heap.size,0,0,0⟩) hf
 obtain⟨h1,h2⟩:=h.new (o:=.map kt []) (o':=.map #[] 0) (rb:=⟨w.heap.size,0,0,0⟩) hf rfl ⟨#[],0,World.alloc_heap_new w _,MapKept.stamped_empty 0,⟨[],.refl _,.nil⟩,by simp⟩
 exact⟨.map (some w.heap.size),_,_,by simp[Instr.makeMap,newObj],AJ.map (AM _ _),h1,h2⟩
theorem IK       {place : Nat → Option (Nat × Nat)} {place' : Nat → Option (Nat × Nat)} (hp : ∀ i p, place i = some p → place' i = some p) :
    ∀ {parts:List (Nat×AV)} {parts':List (Nat×Value)} {cs l:List AV} {cs':Array Value},IJ place cs parts=some l→AI ρ cs cs'.toList →
      (parts.map (·.1)=parts'.map (·.1))→AI ρ (parts.map (·.2)) (parts'.map (·.2))→∃l',Instr.fill place' cs' parts'=some l'∧AI ρ l l'.toList:=by
  intro parts
  induction parts with
  | nil =>
    intro parts' cs l cs' h hc hm hv
    cases parts' with
    | nil=>simp[IJ]at h;subst h;exact⟨cs',rfl,hc⟩
    | cons=>simp at hm
  | cons p rest ih =>
    intro parts' cs l cs' h hc hm hv
    cases parts' with
    | nil=>simp at hm
    | cons p' rest' =>
      obtain⟨i,v⟩:=p
      obtain⟨i',v'⟩:=p'
      simp only[ZV,List.cons.injEq]at hm
      obtain⟨hi,hm⟩:=hm
      skip
      subst hi
      simp only[ZV]at hv
      cases hv with
      | cons hv hvs =>
        simp only[IJ,ZA]at h
        obtain⟨q,hq,h⟩:=h
        obtain⟨hb,h⟩:=AA h
        simp only[Bool.and_eq_true,ZN]at hb
        obtain⟨hb1,hb2⟩:=hb
        have hb1:=AS hb1
        have hvc:=hv.cells
        have hvl:=hvc.length
        have hcl:=hc.length
        simp only[Array.length_toList]at hvl hcl
        have hnew:AI ρ (cs.take q.1++(v.cells++cs.drop (q.1+v.cells.length)))
            (v'.cells.zipIdx.foldl (fun cs (c,j)=>cs.setIfInBounds (q.1+j) c) cs').toList:=by
          have e:(v'.cells.zipIdx.foldl (fun cs (c,j)=>cs.setIfInBounds (q.1+j) c) cs').toList=cs'.toList.take q.1++(v'.cells.toList++cs'.toList.drop (q.1+v.cells.length)):=by
            have key:∀ (l:List Value) (k:Nat) (a:Array Value),q.1+k+l.length≤a.size →
                ((l.zipIdx k).foldl (fun cs (x:Value×Nat)=>cs.setIfInBounds (q.1+x.2) x.1) a).toList=a.toList.take (q.1+k)++(l++a.toList.drop (q.1+k+l.length)):=by
              intro l
              induction l with
              | nil=>intro k a _;simp
              | cons x l ihl =>
                intro k a hk
                simp only[ZC]at hk
                rw[List.zipIdx_cons,Zu,ihl (k+1) _ (by simp;omega)]
                simp only[Array.toList_setIfInBounds,ZC]
                have e:=list_seg_step a.toList (q.1+k) x l (by simp;omega)
                simpa[Zh,Zk]using e
            have:=key v'.cells.toList 0 cs' (by simp;omega)
            simp only[Nat.add_zero]at this
            rw[← Array.foldl_toList,Array.toList_zipIdx]
            rw[hvl]
            simpa using this
          rw[e]
          exact(hc.take _).append (hvc.append (hc.drop _))
        obtain⟨l',h1,h2⟩:=ih h hnew hm hvs
        refine⟨l',?_,h2⟩
        have hpq:=hp i q hq
        obtain⟨o,n⟩:=q
        simp only[Instr.fill,hpq]
        have c1:¬ (v'.cells.size≠n∨o+v'.cells.size > cs'.size):=by simp only at hb1 hb2;omega
        have:(decide (v'.cells.size≠n) || decide (o+v'.cells.size > cs'.size))=false:=by
          rw[Bool.eq_false_iff];intro hh;apply c1;simpa using hh
        simp only[this]
        exact h1
theorem FW:∀ {fs:List Field}{l:List (Nat×Nat)},DU P fs=some l →
  ∀w:World,((fs.mapM fun f=>do pure (f.offset,← sizeOf f.type):Sem (List (Nat×Nat)))).run P w=.ok l w
 | [],l,h,w=>by simp[DU]at h;subst h;rfl
 | f::fs,l,h,w=>by
  simp only[DU,ZA]at h
  obtain⟨n,hn,r,hr,h⟩:=h
  injection h with h
  subst h
  have ih:=FW hr w
  simp only[List.mapM_cons,Sem.run_bind,AY hn,Sem.run_pure,Result.andThen_ok,ih]
theorem OS{t:TypeId}{parts:List (Nat×AV)}{parts':Array (Nat×Value)}{v:AV}(h:Ab P t parts=some v)
  (hm:parts.map (·.1)=parts'.toList.map (·.1)) (hv:AI ρ (parts.map (·.2)) (parts'.toList.map (·.2))) (w:World):
  ∃v',(Instr.build t parts').run P w=.ok v' w∧AJ ρ v v':=by
 unfold Ab at h
 simp only[ZA]at h
 obtain⟨z,hz,h⟩:=h
 obtain⟨z',hz',hzr⟩:=GU (w:=w) ρ hz
 split at h<;>first | (cases h;done) | skip
 ·rename_i fields hf
  simp only[ZA]at h
  obtain⟨places,hpl,l,hl,h⟩:=h
  injection h with h
  subst h
  have hpl':=FW hpl w
  obtain⟨l',h1,h2⟩:=IK (place':=fun i=>(places.toArray)[i]?) (fun i p hp=>by simpa using hp) hl hzr.cells hm hv
  refine⟨.agg l',?_,.agg h2⟩
  have hma:(fields.mapM fun f=>do pure (f.offset,← sizeOf f.type):Sem (Array (Nat×Nat))).run P w=.ok places.toArray w:=by
   rw[Array.mapM_eq_mapM_toList,Sem.run_map,hpl']
   rfl
  simp only[Instr.build,Sem.run_bind,hz',Result.andThen_ok,AC hf,hma,h1,Sem.run_pure]
 ·rename_i len e hf
  simp only[ZA]at h
  obtain⟨n,hn,l,hl,h⟩:=h
  injection h with h
  subst h
  obtain⟨l',h1,h2⟩:=IK (place':=fun i=>some (i * n,n)) (fun i p hp=>hp) hl hzr.cells hm hv
  refine⟨.agg l',?_,.agg h2⟩
  simp only[Instr.build,Sem.run_bind,hz',Result.andThen_ok,AC hf,AY hn,h1,Sem.run_pure]
theorem Kd      {z : AV} {z' : Value} {n c : Nat} (hz : AJ   ρ z z') (hl : z.cells.length = n) :
    AI ρ (Pc z.cells c) (((Array.range (c * n)).map (z'.cells[· % z'.cells.size]!)).toList):=by
  have hc:=hz.cells
  have hlen:z'.cells.size=n:=by have:=hc.length;simp at this;omega
  have hrl:∀c,(Pc z.cells c).length=c * n:=by
    intro c
    induction c with
    | zero=>simp[Pc]
    | succ c ih=>simp[Pc,ih,hl,Nat.succ_mul];omega
  have hrg:∀ (c k:Nat),k<c * n→(Pc z.cells c)[k]? = z.cells[k % n]? := by
    intro c
    induction c with
    | zero=>intro k hk;omega
    | succ c ih =>
      intro k hk
      simp only[Pc]
      by_cases h1:k<n
      · rw[Zb (by omega),Nat.mod_eq_of_lt h1]
      · rw [Zc                         (by omega), hl, ih (k - n) (by rw [Nat.succ_mul] at hk; omega)]
        rw[← Nat.mod_eq_sub_mod (by omega)]
  refine AI.of_get (by simp[hrl]) ?_
  intro k v v' hv hv'
  have hk:k<c * n:=by
    rcases ZO k (c * n)with h | h
    · exact h
    · rw[ZT (by rw[hrl];omega)]at hv;cases hv
  have hn:0<n:=by
    rcases Zp n with h | h
    · subst h;simp at hk
    · exact h
  rw[hrg c k hk]at hv
  obtain⟨u,h1,h2⟩:=hc.get hv
  have:v'=u:=by
    rw[Array.getElem?_toList,Array.getElem?_map,Array.getElem?_range]at hv'
    rw[if_pos hk]at hv'
    simp only[Zl]at hv'
    injection hv' with hv'
    rw[← hv',hlen]
    rw[Array.getElem?_toList]at h1
    rw[getElem!_def,h1]
  rw[this]
  exact h2
theorem Kh(h:Al P ρ s w)(hf:ρ s.next=none){t:TypeId}{len:Nat}{parts:List (Nat×AV)}{parts':Array (Nat×Value)}{o:AX}(hs:AW P t len parts=some o)
  (hm:parts.map (·.1)=parts'.toList.map (·.1)) (hv:AI ρ (parts.map (·.2)) (parts'.toList.map (·.2))):
  JG P ρ s w (Instr.buildSlice t len parts') o (.slice len):=by
 unfold AW at hs
 split at hs<;>first | (cases hs;done) | skip
 rename_i e he
 simp only[ZA]at hs
 obtain⟨n,hn,hs⟩:=hs
 obtain⟨hb,hs⟩:=AA hs
 have hb:len * n≤16777216:=by simpa[ZN]using hb
 simp only[ZA]at hs
 obtain⟨z,hz,hs⟩:=hs
 obtain⟨hc,hs⟩:=AA hs
 simp only[ZA]at hs
 obtain⟨l,hl,hs⟩:=hs
 injection hs with hs
 subst hs
 obtain⟨z',hz',hzr⟩:=GU (w:=w) ρ hz
 have hz2:=Kd (c:=len) hzr (AS hc)
 obtain⟨l',h1,h2⟩:=IK (place':=fun i=>some (i * n,n)) (fun i p hp=>hp) hl hz2 hm hv
 obtain⟨ρ',g1,g2,g3⟩:=FC h hf (e:=e) (sz:=n) h2
 refine⟨.slice (some ⟨w.heap.size,0,none⟩) len len,_,ρ',?_,AJ.slice g1 (Y9 _),g2,g3⟩
 have hbig:¬ len * n > 2 ^ 24:=by omega
 by_cases h0:len * n=0
 ·have hr0:Array.range 0=#[]:=by simp
  rw[h0,hr0]at h1
  simp only[Array.map_empty]at h1
  simp[Instr.buildSlice,AC he,AY hn,h0,hr0,h1,newRow]
 ·simp[Instr.buildSlice,AC he,AY hn,hbig,h0,hz',h1,newRow]
theorem JB(h:Al P ρ s w)(hf:ρ s.next=none){t:TypeId}{l c:AV}{l' c':Value}{o:AX}{m:Made}(hs:EL P t l c=some (o,m))
  (hl:AJ ρ l l') (hc:AJ ρ c c'):JG P ρ s w (Instr.makeSlice t l' c') o m:=by
 unfold EL at hs
 split at hs<;>first | (cases hs;done) | skip
 rename_i e l0 c0 he
 cases hl;cases hc
 simp only[ZA]at hs
 obtain⟨by_,hby,n,hn,hs⟩:=hs
 obtain⟨hb,hs⟩:=AA hs
 simp only[Bool.and_eq_true,ZN]at hb
 obtain⟨⟨hlc,hb1⟩,hb2⟩:=hb
 have hlc:=AS hlc
 subst hlc
 simp only[ZA]at hs
 obtain⟨z,hz,hs⟩:=hs
 obtain⟨hc,hs⟩:=AA hs
 injection hs with hs
 injection hs with hs1 hs2
 subst hs1;subst hs2
 obtain⟨z',hz',hzr⟩:=GU (w:=w) ρ hz
 have hz2:=Kd (c:=l0) hzr (AS hc)
 obtain⟨i,hi,hi2⟩:=PS (w:=w) hby
 obtain⟨ρ',g1,g2,g3⟩:=FC h hf (e:=e) (sz:=n) hz2
 refine⟨.slice (some ⟨w.heap.size,0,none⟩) l0 l0,_,ρ',?_,AJ.slice g1 (Y9 _),g2,g3⟩
 have hw:IntKind.i64.wrap (l0:Int)=(l0:Int):=Hq (k:=.i64) (n:=Int.ofNat l0) (by simp[A4,ZN];omega)
 have hmul:((by_:Int) * (l0:Int))≤1099511627776:=by
  have:((by_ * l0:Nat):Int)≤1099511627776:=by omega
  simpa using this
 have h1:¬ ((l0:Int)<0):=by omega
 have h2:¬ ((i.bytes:Int) * (l0:Int) > 2 ^ 48):=by rw[hi2];omega
 have h3:¬ ((281474976710656:Int)<(i.bytes:Int) * (l0:Int)):=by omega
 by_cases h0:l0 * n=0
 ·have hr0:Array.range 0=#[]:=by simp
  simp[Instr.makeSlice,AC he,asInt,asIntOf,hi,hw,h1,h3,AY hn,h0,newRow,hr0]
 ·simp[Instr.makeSlice,AC he,asInt,asIntOf,hi,hw,h1,h3,AY hn,h0,hz',newRow]
end
end
end Go.Proofs.YtickdehehcmfbaaGreatDoor.Am
