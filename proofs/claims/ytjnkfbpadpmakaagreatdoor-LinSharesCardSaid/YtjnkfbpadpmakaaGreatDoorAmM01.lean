/- Binary tries over Nat keys, made for evaluation by the kernel: get, set, and their laws; conditions: none. -/
import GoSem.Dispatch
import GoSem.ClaimKeys
import Derived.DeepKeys2
import Derived.CallsIn
import Derived.Laws.Sem
import Derived.MapKept
import Derived.Laws.Entries
import Derived.Laws.Slices
import Derived.Laws.Strings
import Derived.Lib.Hide
import Derived.Laws.CopyRow
import Derived.Laws.Cells
import Derived.RangeFuncRecord
import Derived.Below
namespace Go.Proofs.YtjnkfbpadpmakaaGreatDoor.Am
noncomputable section
abbrev qv := @Option.bind_eq_some_iff
abbrev qw := @Nat.le_refl
abbrev qy := @List.getElem?_eq_getElem
abbrev qz := @Nat.lt_or_ge
abbrev rA := @Nat.lt_of_lt_of_le
abbrev rB := @Nat.zero_le
abbrev rC := @Nat.ble_eq
abbrev rD := @Nat.le_trans
abbrev rE := @Nat.zero_add
abbrev rF := @Nat.mul_le_mul_right
abbrev rG := @Nat.mul_one
abbrev rH := @List.mem_cons_self
abbrev rI := @List.getElem?_eq_none
abbrev rJ := @Nat.eq_of_beq_eq_true
abbrev rK := @Nat.succ_mul
abbrev rL := @List.length_append
abbrev rM := @Nat.mul_comm
abbrev rN := @Nat.blt_eq
abbrev rO := @Nat.add_zero
abbrev rP := @List.mem_cons_of_mem
abbrev rQ := @List.mem_of_getElem?
abbrev rR := @List.length_take
abbrev rS := @Nat.add_mul
abbrev rT := @Nat.mul_assoc
abbrev rU := @Nat.mod_lt
abbrev rV := @Nat.le_of_eq
abbrev rW := @Nat.mul_le_mul
abbrev rX := @Nat.lt_of_le_of_lt
abbrev rY := @Nat.mul_add
abbrev rZ := @List.append_assoc
abbrev re := @Nat.add_assoc
abbrev rf := @Nat.mul_le_mul_left
abbrev rl := @List.drop_eq_nil_of_le
abbrev rn := @List.length_cons
abbrev rv := @Nat.mod_eq_of_lt
abbrev sB := @Nat.lt_succ_self
abbrev sC := @List.length_drop
abbrev sD := @List.drop_eq_getElem_cons
abbrev sE := @Nat.eq_zero_or_pos
abbrev sF := @List.getElem?_map
abbrev sG := @Nat.le_succ
abbrev sH := @List.getElem?_append_left
abbrev sI := @List.getElem?_append_right
abbrev sJ := @List.getElem?_drop
abbrev sK := @Nat.div_lt_iff_lt_mul
abbrev sL := @List.length_nil
abbrev sM := @List.drop_zero
abbrev sN := @Nat.zero_mul
abbrev sO := @List.length_map
abbrev sP := @Nat.pow_succ
abbrev sQ := @Nat.pow_pos
abbrev sR := @List.drop_drop
abbrev sS := @List.getElem?_take_of_lt
abbrev sT := @Nat.mul_zero
abbrev sU := @Nat.le_mul_of_pos_right
abbrev sV := @Nat.one_mul
abbrev sW := @Nat.mul_pos
abbrev sX := @List.set_cons_zero
abbrev sY := @Nat.div_le_self
abbrev sZ := @Nat.beq_eq
abbrev sa := @List.map_cons
abbrev sb := @Option.map_some
abbrev sc := @Nat.div_eq_of_lt
abbrev sf := @List.length_set
abbrev si := @List.nil_append
abbrev sj := @List.append_nil
abbrev sk := @List.map_map
abbrev sn := @Nat.pow_le_pow_right
abbrev so := @Nat.min_eq_left
abbrev sq := @List.getElem?_take
abbrev sr := @Nat.lt_of_mul_lt_mul_right
abbrev su := @List.length_zip
abbrev sw := @List.take_append_drop
abbrev tA := @List.mem_append_left
abbrev tB := @List.zip_cons_cons
abbrev tC := @Nat.mod_mod
abbrev tD := @List.take_zero
abbrev tE := @Nat.mul_ne_zero
abbrev tF := @Nat.le_mul_of_pos_left
abbrev tG := @Nat.lt_succ_of_lt
abbrev tH := @Nat.lt_trichotomy
abbrev tJ := @Nat.mod_add_div
abbrev tK := @List.getD_eq_getElem?_getD
abbrev tL := @Nat.add_sub_cancel
abbrev tM := @Nat.min_self
abbrev tN := @List.mem_cons
abbrev tO := @List.getElem?_range
abbrev tP := @List.mapM_cons
abbrev tQ := @List.eq_nil_of_length_eq_zero
abbrev tR := @List.take_left'
abbrev tS := @List.drop_left'
abbrev tT := @List.getElem?_set_ne
abbrev tU := @Int.ofNat_eq_natCast
abbrev tV := @Nat.mul_lt_mul_of_pos_right
inductive AW (α:Type) where
 | leaf
 | node (v:Option α) (l r:AW α)
namespace AW
variable{α:Type}
def get:AW α→Nat→Option α
 | .leaf,_=>none
 | .node v l r,k=>match k with
  | 0=>v
  | k+1=>bif Nat.beq (k % 2) 0 then l.get (k / 2)else r.get (k / 2)
def val:AW α→Option α
 | .leaf=>none
 | .node v _ _=>v
def left:AW α→AW α
 | .leaf=>.leaf
 | .node _ l _=>l
def right:AW α→AW α
 | .leaf=>.leaf
 | .node _ _ r=>r
def js(v:Option α)(l r:AW α):AW α:=
 match l with
 | .leaf=>.node v .leaf r
 | .node x a b=>.node v (.node x a b) r
def ju(v:Option α)(l r:AW α):AW α:=
 match r with
 | .leaf=>.node v l .leaf
 | .node x a b=>.node v l (.node x a b)
def setF(v:Option α):Nat→AW α→Nat→AW α
 | 0,t,_=>t
 | f+1,t,k=>match k with
  | 0=>.node v t.left t.right
  | k+1=>bif Nat.beq (k % 2) 0 then js t.val (setF v f t.left (k / 2)) t.right
   else ju t.val t.left (setF v f t.right (k / 2))
def put(t:AW α)(k:Nat)(v:Option α):AW α:=setF v (k+1) t k
def set(t:AW α)(k:Nat)(v:α):AW α:=t.put k (some v)
def del(t:AW α)(k:Nat):AW α:=t.put k none
theorem beq_no{a b:Nat}(h:¬ a=b):Nat.beq a b=false:=by
 cases e:Nat.beq a b with
 | false=>rfl
 | true=>exact absurd (rJ e) h
theorem nodeL_eq(v:Option α)(l r:AW α):js v l r=.node v l r:=by cases l<;>rfl
theorem nodeR_eq(v:Option α)(l r:AW α):ju v l r=.node v l r:=by cases r<;>rfl
theorem Kv(t:AW α):t.get 0=t.val:=by cases t<;>rfl
theorem Dq(t:AW α)(k:Nat):t.get (k+1)=if k % 2=0 then t.left.get (k / 2)else t.right.get (k / 2):=by
 cases t with
 | leaf=>simp[get,left,right]
 | node v l r =>
  by_cases h:k % 2=0
  ·simp[get,left,h]
  ·have:Nat.beq (k % 2) 0=false:=beq_no h
   simp[get,right,h,this]
def mapO{β:Type}(f:α→Option β):AW α→AW β
 | .leaf=>.leaf
 | .node v l r=>.node (v.bind f) (mapO f l) (mapO f r)
theorem get_mapO{β:Type}(f:α→Option β):∀ (t:AW α)(k:Nat),(t.mapO f).get k=(t.get k).bind f
 | .leaf,_=>rfl
 | .node v l r,0=>rfl
 | .node v l r,k+1=>by
  show(bif Nat.beq (k % 2) 0 then (mapO f l).get (k / 2)else (mapO f r).get (k / 2))=(bif Nat.beq (k % 2) 0 then l.get (k / 2)else r.get (k / 2)).bind f
  cases Nat.beq (k % 2) 0 with
  | true=>exact get_mapO f l (k / 2)
  | false=>exact get_mapO f r (k / 2)
theorem Yy       (v : Option α) : ∀ (f : Nat) (t : AW   α) (k j : Nat), k < f → (setF v f t k).get j = if j = k then v else t.get j := by
  intro f
  induction f with
  | zero=>intro t k j h;omega
  | succ f ih =>
    intro t k j h
    cases k with
    | zero =>
      cases j with
      | zero=>simp[setF,Kv,val]
      | succ j=>simp[setF,Dq,left,right]
    | succ k =>
      by_cases hk:k % 2=0
      · have hb:Nat.beq (k % 2) 0=true:=by rw[hk];rfl
        simp only[setF,hb,cond_true,nodeL_eq]
        cases j with
        | zero=>simp[Kv,val]
        | succ j =>
          by_cases hj:j % 2=0
          · rw[Dq,Dq,if_pos hj,if_pos hj]
            simp only[left]
            rw[ih _ _ _ (by omega)]
            by_cases e:j=k
            · subst e;simp
            · rw[if_neg (by omega),if_neg (by omega)]
          · rw[Dq,Dq,if_neg hj,if_neg hj,if_neg (by omega)]
            simp only[right]
      · have hb:Nat.beq (k % 2) 0=false:=beq_no hk
        simp only[setF,hb,cond_false,nodeR_eq]
        cases j with
        | zero=>simp[Kv,val]
        | succ j =>
          by_cases hj:j % 2=0
          · rw[Dq,Dq,if_pos hj,if_pos hj,if_neg (by omega)]
            simp only[left]
          · rw[Dq,Dq,if_neg hj,if_neg hj]
            simp only[right]
            rw[ih _ _ _ (by omega)]
            by_cases e:j=k
            · subst e;simp
            · rw[if_neg (by omega),if_neg (by omega)]
theorem TY(t:AW α)(k j:Nat)(v:Option α):(t.put k v).get j=if j=k then v else t.get j:=Yy v _ t k j (by omega)
theorem get_set(t:AW α)(k j:Nat)(v:α):(t.set k v).get j=if j=k then some v else t.get j:=TY t k j _
theorem get_del(t:AW α)(k j:Nat):(t.del k).get j=if j=k then none else t.get j:=TY t k j _
def fill(t:AW α)(k:Nat):List α→AW α
 | []=>t
 | v::l=>fill (t.set k v) (k+1) l
theorem get_fill(l:List α):∀ (t:AW α)(k j:Nat),(t.fill k l).get j=if k≤j∧j<k+l.length then l[j - k]? else t.get j:=by
  induction l with
  | nil=>intro t k j;simp[fill];omega
  | cons v l ih =>
    intro t k j
    simp only[fill,ih,get_set,rn]
    by_cases h1:k+1≤j∧j<k+1+l.length
    · rw [if_pos h1, if_pos (by omega), show j - k = (j - (k + 1)) + 1 from by omega]
      rfl
    · rw[if_neg h1]
      by_cases h2:j=k
      · subst h2;simp
      · rw[if_neg h2,if_neg (by omega)]
def take(t:AW α)(k:Nat):Nat→Option (List α)
 | 0=>some []
 | n+1=>match t.get k with
  | none=>none
  | some v=>match take t (k+1) n with
   | none=>none
   | some l=>some (v::l)
theorem take_length{t:AW α}{k n:Nat}{l:List α}(h:t.take k n=some l):l.length=n:=by
  induction n generalizing k l with
  | zero=>simp[take]at h;subst h;rfl
  | succ n ih =>
    simp only[take]at h
    split at h
    · cases h
    · split at h
      · cases h
      · rename_i h2;injection h with h;subst h;simp[ih h2]
theorem take_get {t : AW   α} {k n : Nat} {l : List α} (h : t.take k n = some l) (j : Nat) (hj : j < n) : t.get (k + j) = l[j]? := by
  induction n generalizing k l j with
  | zero=>omega
  | succ n ih =>
    simp only[take]at h
    split at h
    · cases h
    · rename_i v hv
      split at h
      · cases h
      · rename_i l' h2
        injection h with h
        subst h
        cases j with
        | zero=>simpa using hv
        | succ j=>rw[show k+(j+1)=k+1+j from by omega,ih h2 j (by omega)];rfl
end AW
end
end Go.Proofs.YtjnkfbpadpmakaaGreatDoor.Am
namespace Go.Proofs.YtjnkfbpadpmakaaGreatDoor.Am
open Go
noncomputable section
inductive AV where
 | bool (b:Bool)
 | int (k:IntKind) (n:Int)
 | str (s:List Nat)
 | ptr (a:Option (Nat×Nat))
 | gptr (g o:Nat)
 | slice (a:Option (Nat×Nat)) (len:Nat) (cap:Option Nat)
 | map (r:Option Nat)
 | func (f:FuncId) (first cap:List AV)
 | yield (l:Nat)
 | nilFunc
 | iface (t:TypeId) (v:AV)
 | nilIface
 | agg (cs:List AV)
 | tuple (vs:List AV)
 | junk
def BM:AV:=.tuple []
def AV.cells:AV→List AV
 | .agg cs=>cs
 | v=>[v]
def AV.isCell:AV→Bool
 | .agg _ | .tuple _ | .junk=>false
 | _=>true
def Au:List AV→Bool
 | []=>true
 | v::l=>v.isCell && Au l
inductive dK where
 | ro | own | sealed
structure Dh where
 elem:TypeId
 sz:Nat
 n:Nat
 c:AW AV
 spare:Bool
 mode:dK
 par:Option Nat
 bytes:Bool
 glob:Option Nat:=none
inductive CX where
 | loc (i:Nat)
 | var (j:Nat)
 | const (v:AV)
inductive Made where
 | ptr | slice (n:Nat) | map
structure C0 where
 state:LoopState
 pending:Option Code
 fn:FuncId
 var:List AV
 params:Array Tmp
 assign:Code
 body:Code
 dfr:Nat
inductive BC where
 | row (r:Dh)
 | map (kt:TypeId) (es:List (AV×AV))
 | mapRo (kt:TypeId) (es:List (AV×AV))
 | loop (l:C0)
 | mark
 | iter (s:List Nat) (pos:Nat)
structure AE where
 next:Nat
 heap:AW BC
def IZ:Value→Option AV
 | .bool b=>some (.bool b)
 | .int k n=>some (.int k n)
 | .string s=>some (.str (s.data.toList.map (fun(b:UInt8)=>b.toNat)))
 | .pointer none=>some (.ptr none)
 | .slice none 0 0=>some (.slice none 0 (some 0))
 | .map none=>some (.map none)
 | .nilFunc=>some .nilFunc
 | .nilIface=>some .nilIface
 | _=>none
def Eo:List Value→Option (List AV)
 | []=>some []
 | v::l=>(IZ v).bind fun a=>(Eo l).bind fun r=>some (a::r)
def ofValue:Value→Option AV
 | .agg cs=>(Eo cs.toList).bind fun l=>some (.agg l)
 | .tuple vs=>(Eo vs.toList).bind fun l=>some (.tuple l)
 | v=>IZ v
def AL{α:Type}(b:Bool)(x:Option α):Option α:=bif b then x else none
def Dt{α:Type}(P:Program):Sem α→Option α
 | .pure a=>some a
 | .program k=>Dt P (k P)
 | .mark _ k=>Dt P k
 | _=>none
def By(k:IntKind):Int→Bool
 | .ofNat m=>match k with
  | .i64=>Nat.ble m 9223372036854775807
  | .u64=>Nat.ble m 18446744073709551615
  | .i32=>Nat.ble m 2147483647
  | .u32=>Nat.ble m 4294967295
  | .u8=>Nat.ble m 255
  | .i8=>Nat.ble m 127
  | .u16=>Nat.ble m 65535
  | .i16=>Nat.ble m 32767
 | .negSucc m=>match k with
  | .i64=>Nat.ble m 9223372036854775807
  | .i32=>Nat.ble m 2147483647
  | .i8=>Nat.ble m 127
  | .i16=>Nat.ble m 32767
  | _=>false
def DG(k:IntKind)(n:Int):Int:=bif By k n then n else k.wrap n
def Lz:Int→Int→Bool
 | .ofNat a,.ofNat b=>Nat.blt a b
 | .ofNat _,.negSucc _=>false
 | .negSucc _,.ofNat _=>true
 | .negSucc a,.negSucc b=>Nat.blt b a
def L4:Int→Int→Bool
 | .ofNat a,.ofNat b=>Nat.beq a b
 | .negSucc a,.negSucc b=>Nat.beq a b
 | _,_=>false
def Tg:Int→Option Nat
 | .ofNat m=>some m
 | .negSucc _=>none
def DM:List Nat→List Nat→Bool
 | [],[]=>true
 | a::x,b::y=>bif Nat.beq a b then DM x y else false
 | _,_=>false
def Gr:List Nat→List Nat→Bool
 | _,[]=>false
 | [],_::_=>true
 | a::x,b::y=>bif Nat.blt a b then true else bif Nat.beq a b then Gr x y else false
def To(op:BinOp)(x y:List Nat):Option AV:=
 match op with
 | .add=>AL (Nat.ble (x.length+y.length) 1152921504606846976) (some (.str (x++y)))
 | .eql=>some (.bool (DM x y))
 | .neq=>some (.bool (!DM x y))
 | .lss=>some (.bool (Gr x y))
 | .leq=>some (.bool (Gr x y || DM x y))
 | .gtr=>some (.bool (!(Gr x y || DM x y)))
 | .geq=>some (.bool (!Gr x y))
 | _=>none
def Dx(P:Program)(t:TypeId):Option Bool:=
 match P.underlying t with
 | some (.struct _) | some (.array _ _)=>some true
 | some _=>some false
 | none=>none
def A7(P:Program)(t:TypeId):Option Nat:=match P.info? t with
 | some i=>some i.size
 | none=>none
def Eb(P:Program)(t:TypeId):Option AV:=match P.info? t with
 | some i=>match i.zero with
  | some v=>ofValue v
  | none=>none
 | none=>none
def DN(P:Program)(t:TypeId):Option Nat:=match P.info? t with
 | some i=>some i.bytes
 | none=>none
def rowAt(s:AE)(i:Nat):Option Dh:=match s.heap.get i with
 | some (.row r)=>some r
 | _=>none
def newObj(s:AE)(o:BC):AE:={ next:=s.next+1,heap:=s.heap.set s.next o }
def Gi(elem:TypeId)(sz:Nat)(cells:List AV):BC:=
 .row { elem,sz,n:=cells.length,c:=AW.fill .leaf 0 cells,spare:=false,mode:=.own,par:=none,bytes:=true }
def setObj(s:AE)(i:Nat)(o:BC):AE:={ s with heap:=s.heap.set i o }
def CQ(s:AE)(i:Nat):AE:={ s with heap:=s.heap.del i }
def B9(s:AE)(i off n:Nat):Option (List AV):=
 (rowAt s i).bind fun r=>AL (Nat.ble (off+n) r.n) (r.c.take off n)
def Cm(s:AE)(i off:Nat):Option AV:=
 (rowAt s i).bind fun r=>AL (Nat.blt off r.n) (r.c.get off)
def BF(s:AE)(i:Nat)(r:Dh):AE:=match r.par with
 | none=>s
 | some p=>bif Nat.beq p i then s else CQ s p
def Dd:dK→Bool
 | .own=>true
 | _=>false
def Ch(s:AE)(i off:Nat)(vs:List AV):Option AE:=
 match vs with
 | []=>some s
 | _::_=>(rowAt s i).bind fun r =>
  AL (Dd r.mode && Nat.ble (off+vs.length) r.n && Au vs)
   (some (setObj (BF s i r) i (.row { r with c:=r.c.fill off vs,par:=none })))
def Nl(s:AE)(g:Nat):Option Dh:=(rowAt s g).bind fun r=>match r.glob with
 | some g'=>AL (Nat.beq g' g) (some r)
 | none=>none
def AA(P:Program)(s:AE)(t:TypeId):AV→Option AV
 | .gptr i o=>(Nl s i).bind fun _=>(Dx P t).bind fun g=>match g with
  | true=>(A7 P t).bind fun n=>(B9 s i o n).bind fun l=>some (.agg l)
  | false=>Cm s i o
 | .ptr (some (i,o))=>(Dx P t).bind fun g=>match g with
  | true=>(A7 P t).bind fun n=>(B9 s i o n).bind fun l=>some (.agg l)
  | false=>Cm s i o
 | _=>none
def AM(P:Program)(s:AE)(t:TypeId)(a v:AV):Option AE:=
 match a with
 | .ptr (some (i,o))=>(A7 P t).bind fun n=>AL (Nat.beq v.cells.length n) (Ch s i o v.cells)
 | _=>none
def Ga(P:Program)(t:TypeId):Bool:=match P.underlying t with
 | some (.pointer _)=>true
 | _=>false
def IN(P:Program)(t:TypeId):Bool:=match P.underlying t with
 | some (.slice _)=>true
 | _=>false
def I7(P:Program)(t:TypeId):Bool:=match P.underlying t with
 | some (.map ..)=>true
 | _=>false
def IL(P:Program)(t:TypeId):Bool:=match P.underlying t with
 | some (.func ..)=>true
 | _=>false
def Nm(P:Program)(t:TypeId):Bool:=match P.underlying t with
 | some .bool=>true
 | _=>false
def bj(P:Program)(t:TypeId):AV→AV→Option Bool
 | .bool a,.bool b=>AL (Nm P t) (some (a == b))
 | .ptr none,.ptr b=>AL (Ga P t) (some b.isNone)
 | .ptr a,.ptr none=>AL (Ga P t) (some a.isNone)
 | .slice none _ _,.slice b _ _=>AL (IN P t) (some b.isNone)
 | .slice a _ _,.slice none _ _=>AL (IN P t) (some a.isNone)
 | .map none,.map b=>AL (I7 P t) (some b.isNone)
 | .map a,.map none=>AL (I7 P t) (some a.isNone)
 | .nilFunc,.nilFunc=>AL (IL P t) (some true)
 | .func ..,.nilFunc=>AL (IL P t) (some false)
 | .nilFunc,.func ..=>AL (IL P t) (some false)
 | _,_=>none
def Bu:IntKind→IntKind→Bool
 | .i8,.i8 | .i16,.i16 | .i32,.i32 | .i64,.i64 | .u8,.u8 | .u16,.u16 | .u32,.u32 | .u64,.u64=>true
 | _,_=>false
def Y2(P:Program)(op:BinOp)(k:IntKind)(a b:Int):Option AV:=
 match op with
 | .add=>some (.int k (DG k (a+b)))
 | .sub=>some (.int k (DG k (a - b)))
 | .mul=>some (.int k (DG k (a * b)))
 | .eql=>some (.bool (L4 a b))
 | .neq=>some (.bool (!L4 a b))
 | .lss=>some (.bool (Lz a b))
 | .leq=>some (.bool (!Lz b a))
 | .gtr=>some (.bool (Lz b a))
 | .geq=>some (.bool (!Lz a b))
 | .quo | .rem=>(Dt P (Op.intDiv op k a b)).bind ofValue
 | .shl | .shr=>none
 | _=>(Dt P (Op.intBits op k a b)).bind ofValue
def AS(P:Program)(op:BinOp)(t:TypeId)(x y:AV):Option AV:=
 match x,y with
 | .int k a,.int k' b=>match op with
  | .shl | .shr=>(Dt P (Op.shift op k a k' b)).bind ofValue
  | _=>AL (Bu k k') (Y2 P op k a b)
 | .str a,.str b=>To op a b
 | x,y=>match op with
  | .eql=>(bj P t x y).bind fun b=>some (.bool b)
  | .neq=>(bj P t x y).bind fun b=>some (.bool (!b))
  | _=>none
def Y6(P:Program)(t:TypeId):Bool:=match P.underlying t with
 | some (.pointer e)=>(match P.info? e with | some j=>!Nat.beq j.size 0 | none=>false)
 | _=>false
def Hq(s:AE)(i:Nat):Bool:=match rowAt s i with
 | some r=>Dd r.mode && r.par.isNone
 | none=>false
def JF(P:Program)(s:AE)(neg:Bool)(t:TypeId)(x y:AV):Option AV:=
 match x,y with
 | .ptr (some (i,o)),.ptr (some (j,q))=>AL (Y6 P t && Hq s i && Hq s j) (some (.bool ((Nat.beq i j && Nat.beq o q) != neg)))
 | x,y=>AS P (bif neg then .neq else .eql) t x y
def U3(P:Program)(op:UnOp):AV→Option AV
 | .int k n=>match op with
  | .neg=>some (.int k (DG k (0 - n)))
  | .xor=>(Dt P (Op.unary .xor (.int k n))).bind ofValue
  | _=>none
 | .bool b=>match op with
  | .not=>some (.bool (!b))
  | _=>none
 | _=>none
def Ks(place:Nat→Option (Nat×Nat))(cells:List AV):List (Nat×AV)→Option (List AV)
 | []=>some cells
 | (i,v)::rest=>(place i).bind fun p =>
  AL (Nat.beq v.cells.length p.2 && Nat.ble (p.1+v.cells.length) cells.length)
   (Ks place (cells.take p.1++(v.cells++cells.drop (p.1+v.cells.length))) rest)
def E0(P:Program):List Field→Option (List (Nat×Nat))
 | []=>some []
 | f::l=>(A7 P f.type).bind fun n=>(E0 P l).bind fun r=>some ((f.offset,n)::r)
def B7(P:Program)(t:TypeId)(parts:List (Nat×AV)):Option AV:=
 (Eb P t).bind fun z=>match P.underlying t with
  | some (.struct fields)=>(E0 P fields.toList).bind fun places =>
   (Ks (fun i=>places[i]?) z.cells parts).bind fun l=>some (.agg l)
  | some (.array _ e)=>(A7 P e).bind fun n =>
   (Ks (fun i=>some (i * n,n)) z.cells parts).bind fun l=>some (.agg l)
  | _=>none
def SQ(l:List AV):Nat→List AV
 | 0=>[]
 | n+1=>l++SQ l n
def Af(P:Program)(t:TypeId)(len:Nat)(parts:List (Nat×AV)):Option BC:=
 match P.underlying t with
 | some (.slice e)=>(A7 P e).bind fun n=>AL (Nat.ble (len * n) 16777216) <|
  (Eb P e).bind fun z=>AL (Nat.beq z.cells.length n) <|
   (Ks (fun i=>some (i * n,n)) (SQ z.cells len) parts).bind fun l=>some (Gi e n l)
 | _=>none
def At(P:Program)(s:AE)(src dst:TypeId)(x:AV):Option AV:=
 match P.underlying src,P.underlying dst,x with
 | some _,some (.int k),.int _ n=>some (.int k (DG k n))
 | some _,some .string,.str l=>some (.str l)
 | some (.slice e),some .string,.slice a len _=>match P.underlying e with
  | some (.int .u8)=>match a with
   | none=>some (.str [])
   | some (i,o)=>(B9 s i o len).bind fun l=>(bytesOf l).bind fun b=>some (.str b)
  | _=>none
 | some (.pointer u),some .unsafePointer,x=>seenPtr u x
 | some .unsafePointer,some (.pointer u),x=>seenPtr u x
 | _,_,_=>none
where
 seenPtr (u:TypeId):AV→Option AV
  | .ptr none=>some (.ptr none)
  | .ptr (some (i,o))=>(rowAt s i).bind fun r=>(A7 P u).bind fun n =>
   AL (Dd r.mode && r.bytes && Nat.beq o 0 && Nat.beq r.elem u && Nat.ble n r.n && !Nat.beq n 0) (some (.ptr (some (i,o))))
  | _=>none
 bytesOf:List AV→Option (List Nat)
  | []=>some []
  | .int .u8 (.ofNat n)::l=>AL (Nat.blt n 256) ((bytesOf l).bind fun r=>some (n::r))
  | _::_=>none
def GC:AV→Option Nat
 | .int _ n=>Tg n
 | _=>none
def Be(x:AV)(y:Nat):Option Nat:=(GC x).bind fun i=>AL (Nat.ble i y) (some i)
def Bn(P:Program)(s:AE)(t:TypeId)(x:AV)(lo hi mx:Option AV):Option AV:=
 match x with
 | .str l=>(match mx with | some _=>none | none=>some ()).bind fun _ =>
  (match hi with | some h=>Be h l.length | none=>some l.length).bind fun h =>
  (match lo with | some v=>Be v h | none=>some 0).bind fun o =>
  (match P.underlying t with | some .string=>some () | _=>none).bind fun _=>some (.str ((l.drop o).take (h - o)))
 | .slice a len cap=>match P.underlying t with
  | some (.slice e)=>(A7 P e).bind fun n =>
   (match cap with
    | some c=>some c
    | none=>match a with
     | none=>none
     | some (i,o)=>(rowAt s i).bind fun r=>AL (Nat.ble o r.n && Nat.beq n r.sz && !Nat.beq n 0) (some ((r.n - o) / n))).bind fun far =>
   (match mx with | some m=>(Be m far).bind fun c=>AL (cap.isSome || Nat.blt 0 far) (some (some c)) | none=>some cap).bind fun m =>
   (match hi,m with
    | some h,some c=>Be h c
    | some h,none=>Be h far
    | none,some c=>(match mx with | none=>some len | some _=>(fun(_:Nat)=>none) c)
    | none,none=>some len).bind fun h =>
   (match lo with | some v=>Be v h | none=>some 0).bind fun l =>
   some (.slice
    (match a with
     | none=>none
     | some (i,o)=>match m with
      | some c=>bif Nat.beq c l then some (i,o)else some (i,o+l * n)
      | none=>some (i,o+l * n))
    (h - l) (match m with | some c=>some (c - l) | none=>none))
  | _=>none
 | .ptr (some (i,o))=>match P.underlying t with
  | some (.array len e)=>arr len e i o
  | some (.pointer u)=>match P.underlying u with
   | some (.array len e)=>arr len e i o
   | _=>none
  | _=>none
 | _=>none
where
 arr (len:Nat) (e:TypeId) (i o:Nat):Option AV:=(A7 P e).bind fun n =>
  (match mx with | some m=>Be m len | none=>some len).bind fun m =>
  (match hi with | some h=>Be h m | none=>match mx with | none=>some len | some _=>none).bind fun h =>
  (match lo with | some v=>Be v h | none=>some 0).bind fun l =>
  some (.slice (some (i,bif Nat.beq m l then o else o+l * n)) (h - l) (some (m - l)))
def AC(P:Program)(t:TypeId)(x:AV)(f:Nat):Option AV:=
 match x with
 | .ptr (some (i,o))=>match P.underlying t with
  | some (.struct fs)=>(fs[f]?).bind fun fd=>(A7 P fd.type).bind fun n =>
   AL (!Nat.beq n 0) (some (.ptr (some (i,o+fd.offset))))
  | _=>none
 | _=>none
def Tj(P:Program)(t:TypeId)(cs:List AV)(off:Nat):Option AV:=
 (Dx P t).bind fun g=>match g with
  | true=>(A7 P t).bind fun n=>some (.agg ((cs.drop off).take n))
  | false=>cs[off]?
def RZ(P:Program)(t:TypeId)(x:AV)(f:Nat):Option AV:=
 match x with
 | .agg cs=>match P.underlying t with
  | some (.struct fs)=>(fs[f]?).bind fun fd=>Tj P fd.type cs fd.offset
  | _=>none
 | _=>none
def AK(P:Program)(t:TypeId)(x ix:AV):Option AV:=
 (GC ix).bind fun k=>match x with
  | .ptr (some (i,o))=>match P.underlying t with
   | some (.array len e)=>(A7 P e).bind fun n=>AL (Nat.blt k len) (some (.ptr (some (i,o+k * n))))
   | _=>none
  | .gptr g o=>match P.underlying t with
   | some (.array len e)=>(A7 P e).bind fun n=>AL (Nat.blt k len) (some (.gptr g (o+k * n)))
   | _=>none
  | .slice (some (i,o)) len _=>match P.underlying t with
   | some (.slice e)=>(A7 P e).bind fun n=>AL (Nat.blt k len) (some (.ptr (some (i,o+k * n))))
   | _=>none
  | _=>none
def R6(P:Program)(t:TypeId)(x ix:AV):Option AV:=
 (GC ix).bind fun k=>match x with
  | .agg cs=>match P.underlying t with
   | some (.array len e)=>(A7 P e).bind fun n=>AL (Nat.blt k len) (Tj P e cs (k * n))
   | _=>none
  | .str l=>match P.underlying t with
   | some .string=>(l[k]?).bind fun b=>some (.int .u8 (.ofNat b))
   | _=>none
  | _=>none
def D5:AV→Option AV
 | .ptr none | .nilIface | .nilFunc | .junk=>none
 | v=>some v
def Zb(x:AV)(i:Nat):Option AV:=
 match x with
 | .tuple vs=>vs[i]?
 | _=>none
def Rw(c a b:AV):Option AV:=
 match c with
 | .bool true=>some a
 | .bool false=>some b
 | _=>none
def Cx(mx:Bool):AV→List AV→Option AV
 | v,[]=>some v
 | .int k a,.int k' b::l=>AL (Bu k k') (Cx mx (.int k (bif (bif mx then Lz a b else Lz b a)then b else a)) l)
 | _,_=>none
def Ge:AV→AV→Option Bool
 | .int k a,.int k' b=>AL (Bu k k') (some (L4 a b))
 | .str a,.str b=>some (DM a b)
 | .agg a,.agg b=>keysEq a b
 | _,_=>none
where
 keysEq:List AV→List AV→Option Bool
 | [],[]=>some true
 | .int k a::x,.int k' b::y=>AL (Bu k k') ((keysEq x y).bind fun r=>some (L4 a b && r))
 | .str a::x,.str b::y=>(keysEq x y).bind fun r=>some (DM a b && r)
 | _,_=>none
def GB(k:AV):List (AV×AV)→Nat→Option (Option (Nat×AV))
 | [],_=>some none
 | (k',v)::l,i=>(Ge k k').bind fun e=>match e with
  | true=>some (some (i,v))
  | false=>GB k l (i+1)
def HR(P:Program):Nat→TypeId→List AV→Bool
 | 0,_,_=>false
 | d+1,t,cs=>match P.underlying t with
  | some (.int q)=>match cs with
   | [.int q' n]=>Bu q' q && By q n
   | _=>false
  | some .string=>match cs with
   | [.str l]=>Nat.ble l.length 1099511627776
   | _=>false
  | some (.array n e)=>Nat.beq cs.length (P.cellsOf t) && (List.range n).all fun i=>HR P d e ((cs.drop (i * P.cellsOf e)).take (P.cellsOf e))
  | some (.struct fs)=>Nat.beq cs.length (P.cellsOf t) && fs.toList.all fun f=>HR P d f.type ((cs.drop f.offset).take (P.cellsOf f.type))
  | _=>false
def Es(P:Program)(t:TypeId)(k:AV):Bool:=match P.underlying t with
 | some (.array _ _) | some (.struct _)=>match k with
  | .agg cs=>HR P 4 t cs
  | _=>false
 | _=>HR P 1 t [k]
def Fp(P:Program)(t:TypeId):Bool:=match P.underlying t with
 | some (.int _) | some .string=>true
 | some (.array _ _) | some (.struct _)=>P.keyType t && (P.tiled (P.types.size+1) t && (Nat.ble 4 P.types.size && Nat.ble P.types.size 9990))
 | _=>false
def HS(P:Program)(t:TypeId):Bool:=match P.underlying t with
 | some (.map kt _)=>Fp P kt
 | _=>false
def I8(P:Program)(t:TypeId):Option TypeId:=match P.underlying t with
 | some (.map kt _)=>some kt
 | _=>none
def Gg(s:AE)(kt:TypeId)(i:Nat):Option (List (AV×AV)):=match s.heap.get i with
 | some (.map kt' es)=>AL (Nat.beq kt' kt) (some es)
 | _=>none
def Ji(s:AE)(kt:TypeId)(i:Nat):Option (List (AV×AV)):=match s.heap.get i with
 | some (.map kt' es)=>AL (Nat.beq kt' kt) (some es)
 | some (.mapRo kt' es)=>AL (Nat.beq kt' kt) (some es)
 | _=>none
def C4(P:Program)(s:AE)(t:TypeId)(m k:AV)(ok:Bool):Option AV:=
 match P.underlying t with
 | some (.map kt et)=>AL (Es P kt k) <|
  (match m with
   | .map none=>some []
   | .map (some i)=>Ji s kt i
   | _=>none).bind fun es=>(GB k es 0).bind fun r =>
   (match r with
    | some (_,v)=>some (v,true)
    | none=>(Eb P et).bind fun z=>some (z,false)).bind fun p=>some (bif ok then .tuple [p.1,.bool p.2]else p.1)
 | _=>none
def setNth(es:List (AV×AV))(i:Nat)(v:AV):List (AV×AV):=
 match es,i with
 | [],_=>[]
 | (k,_)::l,0=>(k,v)::l
 | e::l,i+1=>e::setNth l i v
def mU(k v:AV)(es:List (AV×AV)):Option (List (AV×AV)):=(GB k es 0).bind fun r=>match r with
 | some (j,_)=>some (setNth es j v)
 | none=>some (es++[(k,v)])
def HE(P:Program)(s:AE)(t:TypeId)(m k v:AV):Option AE:=
 match P.underlying t,m with
 | some (.map kt _),.map (some i)=>AL (Es P kt k) <|
  (Gg s kt i).bind fun es=>(mU k v es).bind fun es'=>some (setObj s i (.map kt es'))
 | _,_=>none
def delNth(es:List (AV×AV))(i:Nat):List (AV×AV):=
 match es,i with
 | [],_=>[]
 | _::l,0=>l
 | e::l,i+1=>e::delNth l i
def Fk(P:Program)(s:AE)(t:TypeId)(m k:AV):Option AE:=
 match P.underlying t with
 | some (.map kt _)=>AL (Es P kt k) <| match m with
  | .map none=>some s
  | .map (some i)=>(Gg s kt i).bind fun es=>(GB k es 0).bind fun r=>match r with
    | some (j,_)=>some (setObj s i (.map kt (delNth es j)))
    | none=>some s
  | _=>none
 | _=>none
def BN(P:Program)(s:AE)(t:TypeId):AV→Option AV
 | .str l=>match P.underlying t with
  | some .string=>some (.int .i64 (.ofNat l.length))
  | _=>none
 | .slice _ n _=>match P.underlying t with
  | some (.slice _)=>some (.int .i64 (.ofNat n))
  | _=>none
 | .map none=>match P.underlying t with
  | some (.map ..)=>some (.int .i64 (.ofNat 0))
  | _=>none
 | .map (some i)=>match P.underlying t with
  | some (.map ..)=>match s.heap.get i with
   | some (.map _ es)=>some (.int .i64 (.ofNat es.length))
   | some (.mapRo _ es)=>some (.int .i64 (.ofNat es.length))
   | _=>none
  | _=>none
 | _=>none
def UN(P:Program)(s:AE)(t:TypeId):AV→Option AV
 | .slice a _ cap=>match P.underlying t with
  | some (.slice e)=>match cap with
   | some c=>some (.int .i64 (.ofNat c))
   | none=>match a with
    | some (i,o)=>(A7 P e).bind fun n=>(rowAt s i).bind fun r=>AL (!r.spare && Nat.ble o r.n && Nat.beq n r.sz && !Nat.beq n 0) (some (.int .i64 (.ofNat ((r.n - o) / n))))
    | none=>none
  | _=>none
 | _=>none
def Yi:AV→Option AV
 | .slice none _ _=>some (.ptr none)
 | .slice (some (i,o)) (_+1) _=>some (.ptr (some (i,o)))
 | _=>none
def Made.val(i:Nat):Made→AV
 | .ptr=>.ptr (some (i,0))
 | .slice n=>.slice (some (i,0)) n (some n)
 | .map=>.map (some i)
def Ac(P:Program)(e:TypeId):Option (BC×Made):=(Eb P e).bind fun z=>some (Gi e 0 z.cells,.ptr)
def Bf(e:TypeId)(v:AV):Option (BC×Made):=some (Gi e 0 v.cells,.ptr)
def CW(P:Program)(t:TypeId)(l c:AV):Option (BC×Made):=
 match P.underlying t,l,c with
  | some (.slice e),.int .i64 (.ofNat l),.int .i64 (.ofNat c)=>(DN P e).bind fun by_=>(A7 P e).bind fun n =>
   AL (Nat.beq l c && Nat.ble (by_ * c) 1099511627776 && Nat.ble c 1099511627776) <|
   (Eb P e).bind fun z=>AL (Nat.beq z.cells.length n) (some (Gi e n (SQ z.cells c),.slice c))
  | _,_,_=>none
def R9(P:Program)(t:TypeId):Bool:=match P.underlying t with
 | some (.int _)=>true
 | _=>false
def MC(s:AE)(i o n size:Nat):Option (List AV):=bif Nat.beq n 0 then some []else B9 s i o (n * size)
def CT(P:Program)(s:AE)(e:TypeId)(size:Nat):AV→Option (Nat×List AV)
 | .int _ (.ofNat n)=>AL (Nat.ble n 1099511627776 && Nat.blt 0 n) ((Eb P e).bind fun z=>AL (Nat.beq z.cells.length size) (some (n,SQ z.cells n)))
 | .slice none _ _=>some (0,[])
 | .slice (some (i,o)) n _=>(MC s i o n size).bind fun l=>some (n,l)
 | .str l=>AL (Nat.beq size 1) (some (l.length,l.map fun b=>.int .u8 (.ofNat b)))
 | _=>none
def Bz(P:Program)(t:TypeId):Bool:=match P.underlying t with
 | some (.slice _) | some .string=>true
 | _=>false
def Ce(e:TypeId)(sz:Nat)(c:AW AV)(n:Nat)(par:Option Nat)(base:Bool):BC:=
 .row { elem:=e,sz,n,c,spare:=true,mode:=.own,par,bytes:=base }
def DH(P:Program)(e:TypeId)(size:Nat):Bool:=match Eb P e with
 | some z=>Nat.beq z.cells.length size
 | none=>false
def Cq(P:Program)(s:AE)(e:TypeId)(size n:Nat)(cells:List AV):Option (AV×AE):=
 AL (DH P e size) (some (.slice (some (s.next,0)) n none,newObj s (Ce e size (AW.fill .leaf 0 cells) cells.length none true)))
def DU(s:AE)(i:Nat)(r:Dh)(ends:Bool):AE:=
 bif ends then setObj (BF s i r) i (.row { r with mode:=.sealed,par:=none })else CQ (BF s i r) i
def Ex(P:Program)(s:AE)(e:TypeId)(size i o len:Nat)(src:Nat×List AV)(r:Dh)(old:List AV):Option (AV×AE):=
 AL (Dd r.mode && Nat.beq r.elem e && DH P e size) <|
  let ends:=Nat.beq (o+len * size) r.n
  let s2:=DU s i r ends
  some (.slice (some (s.next,0)) (len+src.1) none,
   newObj s2 (Ce e size (bif Nat.beq o 0 then r.c.fill (len * size) src.2 else AW.fill .leaf 0 (old++src.2)) (old++src.2).length (bif ends then some i else none) (r.bytes && Nat.beq o 0)))
def J3(P:Program)(s:AE)(e:TypeId)(size i o len:Nat)(src:Nat×List AV)(r:Dh):Option (AV×AE):=
 AL (Nat.beq size r.sz) <|
 bif Nat.ble (o+(len+src.1) * size) r.n then
  (Ch s i (o+len * size) src.2).bind fun s'=>some (.slice (some (i,o)) (len+src.1) none,s')
 else (B9 s i o (len * size)).bind fun old =>
  bif r.spare then Ex P s e size i o len src r old else Cq P s e size (len+src.1) (old++src.2)
def GO(P:Program)(s:AE)(e:TypeId)(size i o len c:Nat)(src:Nat×List AV):Option (AV×AE):=
 bif Nat.ble (len+src.1) c then
  (Ch s i (o+len * size) src.2).bind fun s'=>some (.slice (some (i,o)) (len+src.1) (some c),s')
 else (B9 s i o (len * size)).bind fun old=>Cq P s e size (len+src.1) (old++src.2)
def appTo(P:Program)(s:AE)(e:TypeId)(size:Nat)(a:Option (Nat×Nat))(len:Nat)(cap:Option Nat)(src:Nat×List AV):Option (AV×AE):=
 match a with
 | none=>bif Nat.beq src.1 0 then some (.slice none 0 (some 0),s)else Cq P s e size src.1 src.2
 | some (i,o)=>match cap with
  | some c=>GO P s e size i o len c src
  | none=>(rowAt s i).bind fun r=>J3 P s e size i o len src r
def Aw(P:Program)(s:AE)(argTypes:List TypeId)(args:List AV):Option (AV×AE):=
 match argTypes,args with
 | [st,xt],[.slice a len cap,x]=>match P.underlying st with
  | some (.slice e)=>(A7 P e).bind fun size=>(DN P e).bind fun by_ =>
   AL (!Nat.beq size 0 && (match x with | .int ..=>R9 P xt | _=>Bz P xt)) <|
   (CT P s e size x).bind fun src =>
   AL (Au src.2 && Nat.ble ((len+src.1) * by_) 1099511627776 && Nat.ble (len+src.1) 1099511627776) <|
   appTo P s e size a len cap src
  | _=>none
 | _,_=>none
def Yf(P:Program)(s:AE)(argTypes:List TypeId)(args:List AV):Option (AV×AE):=
 match argTypes,args with
 | dt::_,[.slice a dl _,x]=>match P.underlying dt with
  | some (.slice e)=>(A7 P e).bind fun size =>
   (match x with | .slice _ n _=>some n | .str l=>some l.length | _=>none).bind fun sl =>
   let n:=bif Nat.ble sl dl then sl else dl
   (match x with
    | .slice none _ _=>some []
    | .slice (some (i,o)) _ _=>B9 s i o (n * size)
    | .str l=>AL (Nat.beq size 1) (some ((l.take n).map fun b=>.int .u8 (.ofNat b)))
    | _=>none).bind fun cells =>
   (match a with
    | none=>some s
    | some (i,o)=>Ch s i o cells).bind fun s'=>some (.int .i64 (.ofNat n),s')
  | _=>none
 | _,_=>none
def TQ(r:Dh):BC:=.row { r with n:=0,spare:=true,mode:=.ro,par:=none,bytes:=false,glob:=none }
def Ts(P:Program)(s:AE)(t:TypeId)(n:Nat):Option (Nat×Nat)→Option (AV×AE)
 | none=>none
 | some (i,o)=>match P.underlying t with
  | some (.pointer e)=>(rowAt s i).bind fun r=>AL (Dd r.mode && r.bytes && Nat.beq o 0 && Nat.beq r.elem e && Nat.ble n 1099511627776) <| (A7 P e).bind fun z=>AL (Nat.beq z 1) <|
   (B9 s i o n).bind fun l=>(At.bytesOf l).bind fun b=>some (.str b,setObj (BF s i r) i (TQ r))
  | _=>none
def aI(P:Program)(s:AE)(argTypes:List TypeId)(args:List AV):Option (AV×AE):=
 match argTypes,args with
 | [t,_],[.ptr a,.int .i64 (.ofNat n)]=>match n with
  | 0=>some (.str [],s)
  | n+1=>Ts P s t (n+1) a
 | _,_=>none
def ZN(s:AE):List AV→Option (AV×AE)
 | [x]=>some (x,s)
 | _=>none
def N1(e:TypeId)(s:AE):List AV→Option (AV×AE)
 | [.int .i64 (.ofNat n)]=>AL (Nat.ble n 1099511627776) (some (.slice (some (s.next,0)) n none,newObj s (Ce e 1 .leaf n none true)))
 | _=>none
def TL(s:AE):List AV→Option (AV×AE)
 | [.str a,.str b]=>some (.int .i64 (bif Gr a b then -1 else bif DM a b then 0 else 1),s)
 | _=>none
def PN(P:Program)(name:String)(rt:Array TypeId):Option (AE→List AV→Option (AV×AE)):=
  bif name == "internal/abi.NoEscape" then some ZN else
  bif name == "internal/bytealg.abigen_runtime_cmpstring" then some TL else
  bif name == "internal/bytealg.MakeNoZero" then (match rt.toList with
    | [t]=>match P.underlying t with
      | some (.slice e)=>match A7 P e with
        | some 1=>some (N1 e)
        | _=>none
      | _=>none
    | _=>none)
  else none
def Ys(P:Program)(f:FuncId):Option (AE→List AV→Option (AV×AE)):=match P.funcs[f]? with
  | some fn=>match fn.body with
    | some _=>none
    | none => bif fn.origin == "" then PN P fn.name fn.resultTypes else none
  | none=>none
def RP(P:Program)(s:AE)(argTypes:List TypeId)(args:List AV):Option (AV×AE):=
 match argTypes,args with
 | t::_,[x]=>match P.underlying t,x with
  | some (.slice _),.slice none _ _=>some (BM,s)
  | some (.slice _),.slice _ 0 _=>some (BM,s)
  | some (.slice e),.slice (some (i,o)) n _=>(Eb P e).bind fun z=>(Ch s i o (SQ z.cells n)).bind fun s'=>some (BM,s')
  | _,_=>none
 | _,_=>none
inductive Sh where
 | p1 (f:AV→Option AV)
 | p2 (f:AV→AV→Option AV)
 | p (f:List AV→Option AV)
 | r1 (f:AE→AV→Option AV)
 | r (f:AE→List AV→Option AV)
 | mk (f:List AV→Option (BC×Made))
 | e (f:AE→List AV→Option (AV×AE))
 | call (f:FuncId)
 | callv
def Sh.isEff:Sh→Bool
 | .e _ | .call _ | .callv=>true
 | _=>false
def Sh.isRead:Sh→Bool
 | .r1 _ | .r _=>true
 | _=>false
def Ru:List AV→Option AV
 | [c,a,b]=>Rw c a b
 | _=>none
def Xy{α:Type}(f:AV→AV→Option α):List AV→Option α
 | [a,b]=>f a b
 | _=>none
def Xz{α:Type}(f:AV→AV→AV→Option α):List AV→Option α
 | [a,b,c]=>f a b c
 | _=>none
def Za(x:Option AE):Option (AV×AE):=match x with
 | some s=>some (BM,s)
 | none=>none
def BK(P:Program)(t:TypeId)(lo hi mx:Bool)(s:AE):List AV→Option AV
 | [x]=>match lo,hi,mx with
  | false,false,false=>Bn P s t x none none none
  | _,_,_=>none
 | [x,a]=>match lo,hi,mx with
  | true,false,false=>Bn P s t x (some a) none none
  | false,true,false=>Bn P s t x none (some a) none
  | _,_,_=>none
 | [x,a,b]=>match lo,hi,mx with
  | true,true,false=>Bn P s t x (some a) (some b) none
  | false,true,true=>Bn P s t x none (some a) (some b)
  | _,_,_=>none
 | [x,a,b,c]=>match lo,hi,mx with
  | true,true,true=>Bn P s t x (some a) (some b) (some c)
  | _,_,_=>none
 | _=>none
def zipIdx(is:List Nat)(l:List AV):List (Nat×AV):=is.zip l
def Gb:Operand→Bool
 | .tmp _=>true
 | _=>false
def Zd(P:Program)(op:BinOp)(t:TypeId)(x y:Operand):Option Bool:=match op with
 | .eql=>bif Gb x && Gb y && Ga P t then some false else none
 | .neq=>bif Gb x && Gb y && Ga P t then some true else none
 | _=>none
def BA(P:Program)(o:Op):Option (Sh×List Operand):=
 match o with
 | .move x | .assign x=>some (.p1 some,[x])
 | .pick c a b=>some (.p Ru,[c,a,b])
 | .build t ps=>some (.p (fun l=>B7 P t (zipIdx (ps.toList.map (·.1)) l)),ps.toList.map (·.2))
 | .nilCheck x=>some (.p1 D5,[x])
 | .binOp op t x y _=>match Zd P op t x y with
  | some neg=>some (.r (fun s=>Xy (JF P s neg t)),[x,y])
  | none=>some (.p2 (AS P op t),[x,y])
 | .unOp op _ x=>some (.p1 (U3 P op),[x])
 | .makeFunc fn first captured=>match fn with
  | .func f=>some (.p (fun l=>some (.func f (l.take first.size) (l.drop first.size))),first.toList++captured.toList)
  | _=>none
 | .fieldAddr t x f=>some (.p1 (fun x=>AC P t x f),[x])
 | .field t x f=>some (.p1 (fun x=>RZ P t x f),[x])
 | .indexAddr t x i=>some (.p2 (AK P t),[x,i])
 | .index t x i=>some (.p2 (R6 P t),[x,i])
 | .extract t i=>some (.p1 (fun x=>Zb x i),[t])
 | .load t a=>some (.r1 (fun s a=>AA P s t a),[a])
 | .lookup t m k ok=>AL (HS P t) (some (.r (fun s=>Xy (fun m k=>C4 P s t m k ok)),[m,k]))
 | .convert src dst x=>some (.r1 (fun s x=>At P s src dst x),[x])
 | .slice t x lo hi mx=>some (.r (BK P t lo.isSome hi.isSome mx.isSome),[x]++lo.toList++hi.toList++mx.toList)
 | .alloc e=>some (.mk (fun l=>match l with | []=>Ac P e | _=>none),[])
 | .box e x=>some (.mk (fun l=>match l with | [v]=>Bf e v | _=>none),[x])
 | .buildSlice t len ps=>some (.mk (fun l=>(Af P t len (zipIdx (ps.toList.map (·.1)) l)).bind fun r=>some (r,.slice len)),ps.toList.map (·.2))
 | .makeMap t none=>AL (HS P t) (some (.mk (fun l=>match l with | []=>(I8 P t).bind fun kt=>some (.map kt [],.map) | _=>none),[]))
 | .makeSlice t l c=>some (.mk (Xy (CW P t)),[l,c])
 | .store t a x=>some (.e (fun s=>Xy (fun a x=>Za (AM P s t a x))),[a,x])
 | .mapUpdate t m k x | .insert t m k x=>AL (HS P t) (some (.e (fun s=>Xz (fun m k x=>Za (HE P s t m k x))),[m,k,x]))
 | .call { callee,args,argTypes }=>match callee with
  | .value (.func f)=>match Ys P f with
   | some e=>some (.e e,args.toList)
   | none=>some (.call f,args.toList)
  | .value x=>some (.callv,x::args.toList)
  | .invoke ..=>none
  | .builtin b=>match b with
   | .len=>match argTypes[0]? with
    | some t=>some (.r (fun s l=>match l with | [x]=>BN P s t x | _=>none),args.toList)
    | none=>none
   | .cap=>match argTypes[0]? with
    | some t=>some (.r (fun s l=>match l with | [x]=>UN P s t x | _=>none),args.toList)
    | none=>none
   | .min=>some (.p (fun l=>match l with | v::l=>Cx false v l | []=>none),args.toList)
   | .max=>some (.p (fun l=>match l with | v::l=>Cx true v l | []=>none),args.toList)
   | .append=>some (.e (fun s l=>Aw P s argTypes.toList l),args.toList)
   | .copy=>some (.e (fun s l=>Yf P s argTypes.toList l),args.toList)
   | .unsafeSliceData=>some (.p (fun l=>match l with | [x]=>Yi x | _=>none),args.toList)
   | .unsafeString=>some (.e (fun s l=>aI P s argTypes.toList l),args.toList)
   | .clear=>some (.e (fun s l=>RP P s argTypes.toList l),args.toList)
   | .delete=>match argTypes[0]? with
    | some t=>AL (HS P t) (some (.e (fun s=>Xy (fun m k=>Za (Fk P s t m k))),args.toList))
    | none=>none
   | _=>none
 | _=>none
def om(t:Nat):Nat:=Nat.shiftLeft 1 t
def FY:List Operand→Nat
 | []=>0
 | .tmp t::l=>Nat.lor (om t) (FY l)
 | _::l=>FY l
def Kq(P:Program):List Oper→Nat→Nat→Nat
 | [],_,e=>e
 | o::l,wr,e =>
  let rd:=match BA P o.op with
   | some (_,xs)=>FY xs
   | none=>match o.op with
    | .range _ x | .next x _ | .entry x=>FY [x]
    | _=>0
  Kq P l (match o.dst with | some d=>Nat.lor wr (om d) | none=>wr) (Nat.lor e (Nat.sub rd (Nat.land rd wr)))
def Eh(P:Program):Code→Nat
 | .region _ ops _=>Kq P ops.toList 0 0
 | .seq a b=>Nat.lor (Eh P a) (Eh P b)
 | .cond c a b=>Nat.lor (FY [c]) (Nat.lor (Eh P a) (Eh P b))
 | .block _ b | .loop b | .scope b=>Eh P b
 | .rangeFunc f ps a b=>Nat.lor (FY [f]) (Nat.lor (ps.toList.foldl (fun m t=>Nat.lor m (om t)) 0) (Nat.lor (Eh P a) (Eh P b)))
 | _=>0
def Ht:List ResultVar→Nat
 | []=>0
 | .tmp t::l | .cell t _::l=>Nat.lor (om t) (Ht l)
def FO(m:Nat):Nat→Nat→List Nat
 | 0,_=>[]
 | n+1,k=>bif m.testBit k then k::FO m n (k+1)else FO m n (k+1)
def DW(fn:Func):Nat:=fn.params.size+fn.nfree
def An(P:Program)(fn:Func):List Tmp:=
 List.range (DW fn)++match fn.body with
 | none=>[]
 | some c=>FO (Nat.lor (Eh P c) (Ht fn.results.toList)) (fn.ntmps - DW fn) (DW fn)
def Az:List Tmp→Tmp→Option Nat
 | [],_=>none
 | a::l,t=>bif Nat.beq a t then some 0 else (Az l t).bind fun j=>some (j+1)
def PH(P:Program)(o:Oper):Bool:=match BA P o.op with
 | some (s,_)=>s.isEff
 | none=>true
def Tk(b:Array Nat)(done:Nat)(i:Nat):Bool:=Nat.beq (Nat.land (b.getD i 0) done) (b.getD i 0)
def SO(P:Program)(ops:Array Oper)(b:Array Nat):Nat→Nat→List Nat→List Nat→List Nat
 | 0,_,_,acc=>acc.reverse
 | f+1,done,todo,acc =>
  match todo.find? fun i=>Tk b done i && !PH P (ops.getD i default)with
  | some i=>SO P ops b f (done+2 ^ i) (todo.filter fun j=>!Nat.beq j i) (i::acc)
  | none=>match todo.find? fun i=>Tk b done i with
   | some i=>SO P ops b f (done+2 ^ i) (todo.filter fun j=>!Nat.beq j i) (i::acc)
   | none=>acc.reverse
def cP(P:Program)(ops:Array Oper):List Nat:=SO P ops (Region.before ops) ops.size 0 (List.range ops.size) []
def Fw(P:Program)(o:Oper):List Tmp:=o.dst.toList++((match BA P o.op with
 | some (_,xs)=>xs
 | none=>[]).filterMap fun x:Operand=>match x with
  | .tmp t=>some t
  | _=>none)
def TZ(o:Oper):List Nat:=match o.guard with
 | some (j,_)=>[j]
 | none=>[]
def OJ(P:Program)(ops:Array Oper)(b:Array Nat)(before:List Nat)(i:Nat):Bool:=
 let o:=ops.getD i default
 let anc:=b.getD i 0
 Nat.blt i ops.size && !before.contains i &&
 (List.range ops.size).all (fun j=>!anc.testBit j || before.contains j) &&
 o.after.all (fun e=>!Region.binds .any e || before.contains e.on) &&
 before.all (fun j=>!PH P (ops.getD j default) || anc.testBit j) &&
 (TZ o).all (fun j=>anc.testBit j) &&
 before.all (fun j=>let p:=ops.getD j default
  (match o.dst with
   | none=>true
   | some d=>p.dst != some d && (!(Fw P p).contains d || anc.testBit j)) &&
  (match p.dst with
   | none=>true
   | some d=>!(Fw P o).contains d || anc.testBit j))
def E3(P:Program)(ops:Array Oper)(b:Array Nat):List Nat→List Nat→Bool
 | before,[]=>Nat.beq before.length ops.size
 | before,i::l=>OJ P ops b before i && E3 P ops b (before++[i]) l
inductive Jv where
 | push | set (j:Nat)
structure GJ where
 guard:Option (CX×Bool)
 sh:Sh
 xs:List CX
 ans:CX
structure AB where
 guard:Option (CX×Bool)
 sh:Sh
 xs:List CX
 dst:Jv
 again:List GJ
structure aO where
 map:List (Tmp×CX)
 cnt:Nat
def EX:List (Tmp×CX)→Tmp→Option CX
 | [],_=>none
 | (a,x)::l,t=>bif Nat.beq a t then some x else EX l t
def Ck(cnt:Nat):CX→CX
 | .loc p=>.loc (cnt - 1 - p)
 | x=>x
def Ea(vars:List Tmp)(c:aO)(t:Tmp):Option CX:=
 match EX c.map t with
 | some x=>some x
 | none=>(Az vars t).bind fun j=>some (.var j)
def EY(vars:List Tmp)(c:aO):Operand→Option CX
 | .tmp t=>Ea vars c t
 | .const v=>(ofValue v).bind fun a=>some (.const a)
 | .global g=>some (.const (.gptr g 0))
 | .func f=>some (.const (.func f [] []))
def Ho(vars:List Tmp)(c:aO):List Operand→Option (List CX)
 | []=>some []
 | x::l=>(EY vars c x).bind fun a=>(Ho vars c l).bind fun r=>some (a::r)
def isVar(j:Nat):CX→Bool
 | .var i=>Nat.beq i j
 | _=>false
def IX(j:Nat):List (Tmp×CX)→Bool
 | []=>true
 | (_,x)::l=>!isVar j x && IX j l
def J2(vars:List Tmp)(later:List (Option Tmp))(o:Oper)(x:CX):Bool:=
 (match o.op with | .move _=>true | _=>false) && o.guard.isNone &&
 (match o.dst with | some d=>(Az vars d).isNone | none=>false) &&
 (match x with
  | .var j=>!(later.any fun d=>match d with
   | some t=>match Az vars t with
    | some i=>Nat.beq i j
    | none=>false
   | none=>false)
  | _=>true)
def Fa(cnt:Nat):Option (CX×Bool)→Option (CX×Bool)
 | none=>none
 | some (x,b)=>some (Ck cnt x,b)
def If(cnt:Nat)(r:GJ):GJ:={ guard:=Fa cnt r.guard,sh:=r.sh,xs:=r.xs.map (Ck cnt),ans:=Ck cnt r.ans }
def N6(j:Nat)(r:GJ):Bool:=(match r.guard with | none=>true | some (x,_)=>!isVar j x) && r.xs.all fun x=>!isVar j x
def Eg(P:Program)(nt:Nat)(vars:List Tmp)(ops:Array Oper)(b:Array Nat)(draw:Bool):List Nat→aO→List (Nat×GJ)→Option (List AB)
  | [],_,_=>some []
  | i::l,c,rs=>(ops[i]?).bind fun o=>(BA P o.op).bind fun sh=>(Ho vars c sh.2).bind fun xs =>
    match (match xs with | [x]=>bif J2 vars (l.map fun j=>(ops.getD j default).dst) o x then some x else none | _=>none),o.dst with
    | some x,some d=>AL (Nat.blt d nt) (Eg P nt vars ops b draw l { c with map:=(d,x)::c.map } rs)
    | _,_ =>
      (match o.guard with
        | none=>some none
        | some (j,want)=>(ops[j]?).bind fun p=>p.dst.bind fun d=>(Ea vars c d).bind fun x=>some (some (x,want))).bind fun g =>
      (match o.dst with
        | none=>some (Jv.push,{ c with cnt:=c.cnt+1 })
        | some d=>AL (Nat.blt d nt) <| match Az vars d with
          | some j=>AL (IX j c.map && rs.all fun r=>N6 j r.2) (some (Jv.set j,c))
          | none=>some (Jv.push,{ map:=(d,.loc c.cnt)::c.map,cnt:=c.cnt+1 })).bind fun q =>
      let ag:=match draw,sh.1.isEff with
        | true,true=>rs.filter fun(r:Nat×GJ)=>!(b.getD i 0).testBit r.1
        | _,_=>[]
      let rd:=draw && sh.1.isRead
      AL (!rd || (match q.1 with | .push=>true | .set _=>false)) <|
      (Eg P nt vars ops b draw l q.2 (bif rd then (i,{ guard:=g,sh:=sh.1,xs,ans:=.loc c.cnt })::rs else rs)).bind fun r =>
        some ({ guard:=Fa c.cnt g,sh:=sh.1,xs:=xs.map (Ck c.cnt),dst:=q.1,again:=ag.map fun(r:Nat×GJ)=>If q.2.cnt r.2 }::r)
structure Iu where
 ad:CX
 rd:AE→AV→Option AV
 jt:Nat
 jok:Nat
 jk:Nat
 id2:Nat
inductive Ad where
 | skip
 | ops (l:List AB)
 | seq (a b:Ad)
 | cond (x:CX) (a b:Ad)
 | block (id:Nat) (c:Ad)
 | loop (c:Ad)
 | rangeFunc (fn:FuncId) (f:CX) (params:Array Tmp) (assign body:Code)
 | exit (id:Nat)
 | ret
 | never
 | rangeMap (r:Iu) (body:Ad)
structure nG where
 ty:TypeId
 ad:Operand
 tm:Tmp
 it:Tmp
 tn:Tmp
 ok:Tmp
 te:Tmp
 tk:Tmp
 key:Tmp
 id2:Nat
def Ej(o:Oper):Option (Op×Tmp):=match o.guard,o.dst with
 | none,some d=>some (o.op,d)
 | _,_=>none
def QW:Op→Option (TypeId×Operand)
 | .load t a=>some (t,a)
 | _=>none
def NN:Op→Option (TypeId×Tmp)
 | .range t (.tmp m)=>some (t,m)
 | _=>none
def QY:Op→Option Tmp
 | .next (.tmp i) false=>some i
 | _=>none
def NL:Op→Option Tmp
 | .entry (.tmp i)=>some i
 | _=>none
def Sr:Op→Option Tmp
 | .extract (.tmp n) 0=>some n
 | _=>none
def VG:Op→Option Tmp
 | .assign (.tmp n)=>some n
 | _=>none
def N9:List Oper→Option (TypeId×Operand×Tmp×Tmp)
 | [o0,o1]=>(Ej o0).bind fun p0=>(Ej o1).bind fun p1=>(QW p0.1).bind fun l=>(NN p1.1).bind fun r =>
  AL (Nat.beq l.1 r.1 && Nat.beq p0.2 r.2) (some (l.1,l.2,p0.2,p1.2))
 | _=>none
def OB(it:Tmp):List Oper→Option (Tmp×Tmp)
 | [o0,o1]=>(Ej o0).bind fun p0=>(Ej o1).bind fun p1=>(QY p0.1).bind fun i=>(Sr p1.1).bind fun n =>
  AL (Nat.beq i it && Nat.beq n p0.2) (some (p0.2,p1.2))
 | _=>none
def Lh(it:Tmp):List Oper→Option (Tmp×Tmp×Tmp)
 | [o0,o1,o2]=>(Ej o0).bind fun p0=>(Ej o1).bind fun p1=>(Ej o2).bind fun p2=>(NL p0.1).bind fun i=>(Sr p1.1).bind fun n=>(VG p2.1).bind fun k =>
  AL (Nat.beq i it && (Nat.beq n p0.2 && Nat.beq k p1.2)) (some (p0.2,p1.2,p2.2))
 | _=>none
def Zi(ops1:Array Oper)(d1:Bool):Code→Option nG
 | .block id (.loop (.seq (.region _ ops2 false) (.seq (.cond (.tmp c) .skip (.exit id')) (.block id2 (.seq (.region _ ops3 false) _))))) =>
  AL (!d1) <| (N9 ops1.toList).bind fun h=>(OB h.2.2.2 ops2.toList).bind fun n=>(Lh h.2.2.2 ops3.toList).bind fun e =>
   AL (Nat.beq id' id && Nat.beq c n.2) (some ⟨h.1,h.2.1,h.2.2.1,h.2.2.2,n.1,n.2,e.1,e.2.1,e.2.2,id2⟩)
 | _=>none
def TO(P:Program)(nt:Nat)(vars:List Tmp)(p:nG):Option Iu:=
 (EY vars ⟨[],0⟩ p.ad).bind fun ad=>(Az vars p.it).bind fun jt=>(Az vars p.ok).bind fun jok=>(Az vars p.key).bind fun jk =>
  AL ((Az vars p.tm).isNone && ((Az vars p.tn).isNone && ((Az vars p.te).isNone && (Az vars p.tk).isNone))) <|
  AL (Nat.blt p.tm nt && (Nat.blt p.tn nt && (Nat.blt p.te nt && (Nat.blt p.tk nt && (Nat.blt p.it nt && (Nat.blt p.ok nt && Nat.blt p.key nt)))))) <|
  AL (I7 P p.ty && (!Nat.beq jt jok && (!Nat.beq jt jk && !Nat.beq jok jk))) (some ⟨ad,fun s a=>AA P s p.ty a,jt,jok,jk,p.id2⟩)
def G7:Ad→Option Ad
 | .block _ (.loop (.seq _ (.seq _ (.block _ (.seq _ b)))))=>some b
 | _=>none
def Ln(r:Option Iu)(a b:Ad):Ad:=match r with
 | none=>.seq a b
 | some r=>match G7 b with
  | some c=>.rangeMap r c
  | none=>.seq a b
def HU(P:Program)(nt:Nat)(vars:List Tmp):Code→Code→Option Iu
 | .region _ ops d,b=>(Zi ops d b).bind (TO P nt vars)
 | _,_=>none
def jw:Option (List AB)→Ad
 | some l=>.ops l
 | none=>.never
def Al(P:Program)(fn:FuncId)(nt:Nat)(vars:List Tmp):Code→Ad
 | .skip | .label _=>.skip
 | .ret=>.ret
 | .exit id=>.exit id
 | .goto _ | .refuse _=>.never
 | .region _ ops draw=>match draw with
  | false=>jw (Eg P nt vars ops #[] false (List.range ops.size) ⟨[],0⟩ [])
  | true=>jw (AL (E3 P ops (Region.before ops) [] (cP P ops)) (Eg P nt vars ops (Region.before ops) true (cP P ops) ⟨[],0⟩ []))
 | .seq a b=>Ln (HU P nt vars a b) (Al P fn nt vars a) (Al P fn nt vars b)
 | .cond c a b=>match EY vars ⟨[],0⟩ c with
  | some z=>.cond z (Al P fn nt vars a) (Al P fn nt vars b)
  | none=>.never
 | .block id c=>.block id (Al P fn nt vars c)
 | .loop c=>.loop (Al P fn nt vars c)
 | .scope c=>Al P fn nt vars c
 | .rangeFunc f ps a b=>match EY vars ⟨[],0⟩ f with
  | some x=>.rangeFunc fn x ps a b
  | none=>.never
structure Aq where
 na:Nat
 nv:Nat
 body:Ad
 results:List (CX×Option TypeId)
def C9(vars:List Tmp):List ResultVar→Option (List (CX×Option TypeId))
 | []=>some []
 | .tmp t::l=>(Az vars t).bind fun j=>(C9 vars l).bind fun r=>some ((.var j,none)::r)
 | .cell t ty::l=>(Az vars t).bind fun j=>(C9 vars l).bind fun r=>some ((.var j,some ty)::r)
def AR(P:Program)(f:FuncId):Option Aq:=(P.funcs[f]?).bind fun fn=>fn.body.bind fun c =>
 AL (Nat.ble (DW fn) fn.ntmps) <|
 let vars:=An P fn
 (C9 vars fn.results.toList).bind fun r =>
  some { na:=DW fn,nv:=vars.length,body:=Al P f fn.ntmps vars c,results:=r }
def LN (l:List AV):Nat→AV:=
 List.rec (fun _=>BM) (fun a _ ih i=>Nat.rec a (fun i _=>ih i) i) l
def F7 (v:AV) (l:List AV):Nat→List AV:=
 List.rec (fun _=>[]) (fun a l ih i=>Nat.rec (v::l) (fun i _=>a::ih i) i) l
def C8 (loc var:List AV) (x:CX):AV:=
 match x with
 | .loc i=>LN loc i
 | .var j=>LN var j
 | .const v=>v
def Di (loc var:List AV) (l:List CX):List AV:=
 List.rec [] (fun x _ ih=>C8 loc var x::ih) l
inductive JP where
 | normal | exit (id:Nat) | ret
structure Ax where
 exit:JP
 var:List AV
 marks:List Nat
 st:AE
def FJ:AV→AV→Bool
 | .bool a,.bool b=>a == b
 | .int k a,.int k' b=>Bu k k' && L4 a b
 | .str a,.str b=>DM a b
 | .ptr none,.ptr none=>true
 | .gptr a b,.gptr c d=>Nat.beq a c && Nat.beq b d
 | .ptr (some (i,o)),.ptr (some (j,p))=>Nat.beq i j && Nat.beq o p
 | .slice none n (some c),.slice none n' (some c')=>Nat.beq n n' && Nat.beq c c'
 | .slice none n none,.slice none n' none=>Nat.beq n n'
 | .slice (some (i,o)) n none,.slice (some (j,p)) n' none=>Nat.beq i j && Nat.beq o p && Nat.beq n n'
 | .slice (some (i,o)) n (some c),.slice (some (j,p)) n' (some c')=>Nat.beq i j && Nat.beq o p && Nat.beq n n' && Nat.beq c c'
 | .map none,.map none=>true
 | .map (some i),.map (some j)=>Nat.beq i j
 | .func f a c,.func g b d=>Nat.beq f g && eqAs a b && eqAs c d
 | .nilFunc,.nilFunc=>true
 | .nilIface,.nilIface=>true
 | .yield i,.yield j=>Nat.beq i j
 | .agg a,.agg b=>eqAs a b
 | .tuple a,.tuple b=>eqAs a b
 | _,_=>false
where
 eqAs:List AV→List AV→Bool
 | [],[]=>true
 | a::x,b::y=>FJ a b && eqAs x y
 | _,_=>false
abbrev OT:=FuncId→List AV→AE→Option (AV×AE)
structure CR where
 P:Program
 nat:OT
structure Dj where
 code:Option Nat→Ad→List AV→List Nat→AE→Option Ax
 call:FuncId→List AV→AE→Option (AV×AE)
 round:Nat→List AV→AE→Option (AV×AE)
def GU(F:Dj)(f:AV)(args:List AV)(s:AE):Option (AV×AE):=
 match f with
 | .func f first cap=>F.call f (first++(args++cap)) s
 | .yield l=>F.round l args s
 | _=>none
def Dv(s:AE)(x:Option AV):Option (AV×AE):=match x with
 | some v=>some (v,s)
 | none=>none
def one{α:Type}(f:AV→Option α):List AV→Option α
 | [a]=>f a
 | _=>none
def EZ(sh:Sh)(xs:List AV)(s:AE):Option AV:=
 match sh with
 | .r1 f=>one (f s) xs
 | .r f=>f s xs
 | _=>none
def Pf(s:AE)(r:Option (BC×Made)):Option (AV×AE):=match r with
 | some p=>some (p.2.val s.next,newObj s p.1)
 | none=>none
def HI {α:Type} (f:CX→Option α) (xs:List CX):Option α:=List.rec none (fun x _ _=>f x) xs
def L7 {α:Type} (f:CX→CX→Option α) (xs:List CX):Option α:=HI (fun x=>HI (f x) xs.tail) xs
def pY (f:AV→Option AV) (xs:List CX) (loc var:List AV) (s:AE):Option (AV×AE):=HI (fun x=>Dv s (f (C8 loc var x))) xs
def pZ (f:AV→AV→Option AV) (xs:List CX) (loc var:List AV) (s:AE):Option (AV×AE):=L7 (fun x y=>Dv s (f (C8 loc var x) (C8 loc var y))) xs
def pe (f:AE→AV→Option AV) (xs:List CX) (loc var:List AV) (s:AE):Option (AV×AE):=HI (fun x=>Dv s (f s (C8 loc var x))) xs
def shV (F:Dj) (xs:List CX) (loc var:List AV) (s:AE):Option (AV×AE):=HI (fun x=>GU F (C8 loc var x) (Di loc var xs.tail) s) xs
def mh (F:Dj) (sh:Sh) (xs:List CX) (loc var:List AV) (s:AE):Option (AV×AE):=
 match sh with
 | .p1 f=>pY f xs loc var s
 | .p2 f=>pZ f xs loc var s
 | .p f=>Dv s (f (Di loc var xs))
 | .r1 f=>pe f xs loc var s
 | .r f=>Dv s (f s (Di loc var xs))
 | .mk f=>Pf s (f (Di loc var xs))
 | .e f=>f s (Di loc var xs)
 | .call f=>F.call f (Di loc var xs) s
 | .callv=>shV F xs loc var s
def my(want:Bool):AV→Bool
 | .bool b=>b == want
 | _=>false
def Bk (loc var:List AV) (g:Option (CX×Bool)):Bool:=
 match g with
 | none=>true
 | some p=>my p.2 (C8 loc var p.1)
def mJ:AV→Bool
 | .junk=>true
 | _=>false
def U7 (loc var:List AV) (g:Option (CX×Bool)):Bool:=
 match g with
 | none=>false
 | some p=>mJ (C8 loc var p.1)
def Mu(x:Option AV)(v:AV):Bool:=match x with
 | some u=>FJ u v
 | none=>false
def FC (s:AE) (loc var:List AV) (r:GJ):Bool:=
 !Bk loc var r.guard || Mu (EZ r.sh (Di loc var r.xs) s) (C8 loc var r.ans)
def EP (s:AE) (loc var:List AV) (l:List GJ):Bool:=
 List.rec true (fun r _ ih=>FC s loc var r && ih) l
abbrev U8:=List AV→List AV→AE→Option (List AV×AE)
def DK (ag:List GJ) (d:Jv) (k:U8) (loc var:List AV) (v:AV) (s:AE):Option (List AV×AE):=
 match d with
 | .push=>bif EP s (v::loc) var ag then k (v::loc) var s else none
 | .set j=>bif EP s loc (F7 v var j) ag then k loc (F7 v var j) s else none
def KC (it:AB) (k:U8) (loc var:List AV) (r:Option (AV×AE)):Option (List AV×AE):=
 match r with
 | none=>none
 | some p=>DK it.again it.dst k loc var p.1 p.2
def Jf (F:Dj) (it:AB) (k:U8) (loc var:List AV) (s:AE):Option (List AV×AE):=
 match U7 loc var it.guard with
 | true=>none
 | false=>match Bk loc var it.guard with
  | true=>KC it k loc var (mh F it.sh it.xs loc var s)
  | false=>DK [] it.dst k loc var BM s
def EU (F:Dj) (l:List AB):U8:=
 List.rec (fun _ var s=>some (var,s)) (fun it _ ih loc var s=>Jf F it ih loc var s) l
def Ql(l:List AV):Nat→List AV
 | 0=>[]
 | n+1=>match l with
  | []=>BM::Ql [] n
  | a::l=>a::Ql l n
def Bt (P:Program) (s:AE) (var:List AV):List (CX×Option TypeId)→Option (List AV)
 | []=>some []
 | (x,none)::l=>(Bt P s var l).bind fun r=>some (C8 [] var x::r)
 | (x,some t)::l=>(AA P s t (C8 [] var x)).bind fun v=>(Bt P s var l).bind fun r=>some (v::r)
def Bh:List AV→AV
 | [v]=>v
 | l=>.tuple l
def Db(s:AE):List Nat→Option AE
 | []=>some s
 | i::l=>match s.heap.get i with
  | some .mark=>Db (CQ s i) l
  | _=>none
def DR:JP→Option Code
 | .normal=>none
 | .ret=>some .ret
 | .exit id=>some (.exit id)
def Ct (vars:List Tmp) (var:List AV):List Tmp→List AV→Option (List AV)
 | [],[]=>some var
 | t::ts,v::vs=>(Az vars t).bind fun j=>Ct vars (F7 v var j) ts vs
 | _,_=>none
def A8(s:AE)(l:Nat):Option C0:=match s.heap.get l with
 | some (.loop r)=>some r
 | _=>none
def DX(P:Program)(f:FuncId)(c:Code):Option Ad:=(P.funcs[f]?).bind fun fn=>some (Al P f fn.ntmps (An P fn) c)
def Cz(P:Program)(f:FuncId):List Tmp:=match P.funcs[f]? with
 | some fn=>An P fn
 | none=>[]
def bA(marks:List Nat)(r:Option (List AV×AE)):Option Ax:=match r with
 | some p=>some ⟨.normal,p.1,marks,p.2⟩
 | none=>none
def HL(F:Dj)(rnd:Option Nat)(b:Ad)(r:Ax):Option Ax:=match r.exit with
 | .normal=>F.code rnd b r.var r.marks r.st
 | _=>some r
def IF(F:Dj)(rnd:Option Nat)(b:Ad)(r:Option Ax):Option Ax:=match r with
 | some r=>HL F rnd b r
 | none=>none
def PB(F:Dj)(rnd:Option Nat)(a b:Ad)(var:List AV)(marks:List Nat)(s:AE)(v:AV):Option Ax:=match v with
 | .bool t=>match t with
  | true=>F.code rnd a var marks s
  | false=>F.code rnd b var marks s
 | _=>none
def J5(id:Nat)(r:Ax):Option Ax:=match r.exit with
 | .exit id'=>bif Nat.beq id' id then some ⟨.normal,r.var,r.marks,r.st⟩else some r
 | _=>some r
def Kh(id:Nat)(r:Option Ax):Option Ax:=match r with
 | some r=>J5 id r
 | none=>none
def GR(var:List AV)(marks:List Nat)(s:AE)(c:Option Code):Option Ax:=match c with
 | none=>some ⟨.normal,var,marks,s⟩
 | some .ret=>some ⟨.ret,var,marks,s⟩
 | some (.exit id)=>some ⟨.exit id,var,marks,s⟩
 | some _=>none
def R8:LoopState→Bool
 | .busy=>true
 | _=>false
def KB:LoopState→Bool
 | .ready=>true
 | _=>false
def Gy(var:List AV)(marks:List Nat)(l:Nat)(q:Option (AV×AE)):Option Ax:=
 q.bind fun q=>(A8 q.2 l).bind fun r=>bif R8 r.state then none else
  GR var marks (setObj q.2 l (.loop { r with state:=.exhausted })) r.pending
def E8(F:Dj)(var:List AV)(f:AV)(params:Array Tmp)(assign body:Code)(fn:FuncId)(dfr:Nat)(marks:List Nat)(s:AE):Option Ax:=
 Gy var marks s.next (GU { F with round:=fun _ _ _=>none } f [.yield s.next] (newObj s (.loop { state:=.ready,pending:=none,fn,var,params,assign,body,dfr })))
def Ki(F:Dj)(rnd:Option Nat)(fn:FuncId)(f:AV)(params:Array Tmp)(assign body:Code)(var:List AV)(marks:List Nat)(s:AE):Option Ax:=
 match rnd with
 | some l=>(A8 s l).bind fun r=>E8 F var f params assign body fn r.dfr marks s
 | none=>E8 F var f params assign body fn s.next (s.next::marks) (newObj s .mark)
def mH:BC→Option BC
 | .row r=>some (.row { r with mode:=.ro,par:=none })
 | .map kt es=>some (.mapRo kt es)
 | .mapRo kt es=>some (.mapRo kt es)
 | _=>none
def frz(n:Nat)(h:AW BC):AE:=⟨n,h.mapO mH⟩
def Hx:AV→Bool
 | .agg _=>false
 | _=>true
def Mv(a b:AV):Bool:=match a,b with
 | .junk,.junk=>true
 | _,_=>FJ a b
def Nu:List AV→List AV→Option (List AV)
 | [],[]=>some []
 | a::l,b::m=>(bif Mv a b then some a else AL (Hx a && Hx b) (some .junk)).bind fun c=>(Nu l m).bind fun r=>some (c::r)
 | _,_=>none
def oV(x b:AV):Bool:=Mv x b || (Hx x && Mv .junk b)
def RT:List AV→List AV→Bool
 | [],[]=>true
 | x::l,b::m=>oV x b && RT l m
 | _,_=>false
def HA:List Nat→List Nat→Bool
 | [],[]=>true
 | a::l,b::m=>Nat.beq a b && HA l m
 | _,_=>false
def MP(id2:Nat):JP→Bool
 | .normal=>true
 | .exit i=>Nat.beq i id2
 | .ret=>false
def Cg (F:Dj) (rnd:Option Nat) (r:Iu) (body:Ad) (A:List AV) (marks:List Nat) (s:AE) (k:AV):Option (List AV):=
 (F.code rnd body (F7 k (F7 (.bool true) A r.jok) r.jk) marks s).bind fun q=>AL (MP r.id2 q.exit && HA q.marks marks) (some q.var)
def Hu (f:AV→Option (List AV)) (B:List AV):List (AV×AV)→Option (List AV)
 | []=>some B
 | e::l=>(f e.1).bind fun X=>(Nu B X).bind fun B'=>Hu f B' l
def Ek (f:AV→Option (List AV)) (B:List AV):List (AV×AV)→Bool
 | []=>true
 | e::l=>(match f e.1 with | some X=>RT X B | none=>false) && Ek f B l
def Li (F:Dj) (rnd:Option Nat) (r:Iu) (body:Ad) (it:AV) (marks:List Nat) (s:AE) (A0:List AV) (l:List (AV×AV)):Option (List AV):=
 (Hu (Cg F rnd r body A0 marks s) A0 l).bind fun A1=>AL (Ek (Cg F rnd r body A1 marks s) A1 l && (FJ (LN A1 r.jt) it && RT A0 A1)) (some A1)
def Nc (r:Iu) (marks:List Nat) (s:AE) (A:Option (List AV)):Option Ax:=
 A.bind fun A=>some ⟨.normal,F7 (.bool false) A r.jok,marks,s⟩
def Tf(s:AE):AV→Option (List (AV×AV))
 | .map (some i)=>match s.heap.get i with
  | some (.map _ es)=>some es
  | some (.mapRo _ es)=>some es
  | _=>none
 | _=>none
def bB (F:Dj) (rnd:Option Nat) (r:Iu) (body:Ad) (var:List AV) (marks:List Nat) (s:AE):Option Ax:=
 (r.rd s (C8 [] var r.ad)).bind fun m=>(Tf s m).bind fun es =>
  Nc r marks ⟨s.next+1,s.heap⟩ (Li F rnd r body (.ptr (some (s.next,0))) marks (frz (s.next+1) s.heap) (F7 (.ptr (some (s.next,0))) var r.jt) es)
def C5 (F:Dj) (rnd:Option Nat) (c:Ad) (var:List AV) (marks:List Nat) (s:AE):Option Ax:=
 match c with
 | .skip=>some ⟨.normal,var,marks,s⟩
 | .ret=>some ⟨.ret,var,marks,s⟩
 | .exit id=>some ⟨.exit id,var,marks,s⟩
 | .never=>none
 | .ops l=>bA marks (EU F l [] var s)
 | .seq a b=>IF F rnd b (F.code rnd a var marks s)
 | .cond x a b=>PB F rnd a b var marks s (C8 [] var x)
 | .block id body=>Kh id (F.code rnd body var marks s)
 | .loop body=>IF F rnd (.loop body) (F.code rnd body var marks s)
 | .rangeFunc fn f params assign body=>Ki F rnd fn (C8 [] var f) params assign body var marks s
 | .rangeMap r body=>bB F rnd r body var marks s
def Ta:JP→Bool
 | .normal | .ret=>true
 | .exit _=>false
def J6 (P:Program) (cf:Aq) (r:Option Ax):Option (AV×AE):=
 r.bind fun r=>bif Ta r.exit then (Db r.st r.marks).bind fun s=>(Bt P s r.var cf.results).bind fun l=>some (Bh l,s)else none
def GS (P:Program) (F:Dj) (args:List AV) (s:AE) (cf:Option Aq):Option (AV×AE):=
 cf.bind fun cf=>bif Nat.beq args.length cf.na then J6 P cf (F.code none cf.body (Ql args cf.nv) [] s)else none
def HW (E:CR) (F:Dj) (f:FuncId) (args:List AV) (s:AE):Option (AV×AE):=
 match E.nat f args s with
 | some p=>some p
 | none=>GS E.P F args s (AR E.P f)
def IM:JP→Bool
 | .normal=>true
 | _=>false
def HC:Option Code→LoopState
 | none=>.ready
 | some _=>.done
def Ii(l:Nat)(q:Option Ax):Option (AV×AE):=q.bind fun q=>(A8 q.st l).bind fun r =>
 some (.bool (DR q.exit).isNone,setObj q.st l (.loop { r with state:=HC (DR q.exit),pending:=DR q.exit }))
def G8(F:Dj)(l:Nat)(cb:Ad)(q:Option Ax):Option (AV×AE):=q.bind fun q=>bif IM q.exit then
  (A8 q.st l).bind fun r=>bif KB r.state then Ii l (F.code (some l) cb q.var q.marks (setObj q.st l (.loop { r with state:=.busy })))else none
 else none
def Jr (E:CR) (F:Dj) (l:Nat) (args:List AV) (s:AE):Option (AV×AE):=
 (A8 s l).bind fun r=>(Ct (Cz E.P r.fn) r.var r.params.toList args).bind fun var =>
  (DX E.P r.fn r.assign).bind fun ca=>(DX E.P r.fn r.body).bind fun cb=>G8 F l cb (F.code (some l) ca var [] s)
def oZ:Dj:=⟨fun _ _ _ _ _=>none,fun _ _ _=>none,fun _ _ _=>none⟩
def oY (E:CR) (F:Dj):Dj:=⟨C5 F,HW E F,Jr E F⟩
def D8 (E:CR) (n:Nat):Dj:=Nat.rec oZ (fun _ F=>oY E F) n
structure RB where
 b:Nat
 off:Nat
 N:Nat
 sz:Nat
abbrev BD:=Nat→Option RB
mutual
inductive AY (ρ:BD):AV→Value→Prop
 | bool (b:Bool):AY ρ (.bool b) (.bool b)
 | int (k:IntKind) (n:Int):AY ρ (.int k n) (.int k n)
 | str {l:List Nat} {s:ByteArray} (h:s.data.toList.map (fun(b:UInt8)=>b.toNat)=l):AY ρ (.str l) (.string s)
 | ptrNil:AY ρ (.ptr none) (.pointer none)
 | ptr {i o:Nat} {rb:RB} (h:ρ i=some rb):AY ρ (.ptr (some (i,o))) (.pointer (some ⟨rb.b,rb.off+o,none⟩))
 | gptr (g o:Nat):AY ρ (.gptr g o) (.pointer (some ⟨g,o,none⟩))
 | sliceNil:AY ρ (.slice none 0 (some 0)) (.slice none 0 0)
 | slice {i o len c:Nat} {rb:RB} (h:ρ i=some rb) (hl:len≤c):AY ρ (.slice (some (i,o)) len (some c)) (.slice (some ⟨rb.b,rb.off+o,none⟩) len c)
 | sliceOpen {i o len c:Nat} {rb:RB} (h:ρ i=some rb) (hs:0<rb.sz) (hl:len≤c) (h1:o+c * rb.sz≤rb.N) (h2:rb.N<o+(c+1) * rb.sz):
   AY ρ (.slice (some (i,o)) len none) (.slice (some ⟨rb.b,rb.off+o,none⟩) len c)
 | sliceEnd {i o:Nat} {rb:RB} {a:Addr} (h:ρ i=some rb) (hs:0<rb.sz) (h1:o≤rb.N) (h2:rb.N<o+rb.sz):
   AY ρ (.slice (some (i,o)) 0 none) (.slice (some a) 0 0)
 | mapNil:AY ρ (.map none) (.map none)
 | map {i:Nat} {rb:RB} (h:ρ i=some rb):AY ρ (.map (some i)) (.map (some rb.b))
 | func {f:FuncId} {a c:List AV} {a' c':Array Value} (ha:AT ρ a a'.toList) (hc:AT ρ c c'.toList):AY ρ (.func f a c) (.func (.func f) a' c')
 | yield {i:Nat} {rb:RB} (h:ρ i=some rb):AY ρ (.yield i) (.func (.yield rb.b) #[] #[])
 | nilFunc:AY ρ .nilFunc .nilFunc
 | nilIface:AY ρ .nilIface .nilIface
 | iface {t:TypeId} {v:AV} {v':Value} (h:AY ρ v v'):AY ρ (.iface t v) (.iface t v')
 | agg {cs:List AV} {cs':Array Value} (h:AT ρ cs cs'.toList):AY ρ (.agg cs) (.agg cs')
 | tuple {cs:List AV} {cs':Array Value} (h:AT ρ cs cs'.toList):AY ρ (.tuple cs) (.tuple cs')
 | any {v':Value} (h:v'.cells.toList=[v']):AY ρ .junk v'
inductive AT (ρ:BD):List AV→List Value→Prop
 | nil:AT ρ [] []
 | cons {v:AV} {v':Value} {l:List AV} {l':List Value} (h:AY ρ v v') (hs:AT ρ l l'):AT ρ (v::l) (v'::l')
end
def BD.le(ρ σ:BD):Prop:=∀i rb,ρ i=some rb→σ i=some rb
theorem BD.le_refl(ρ:BD):ρ.le ρ:=fun _ _ h=>h
theorem BD.le_trans{ρ σ τ:BD}(h:ρ.le σ)(k:σ.le τ):ρ.le τ:=fun i rb e=>k i rb (h i rb e)
mutual
theorem AY.mono{ρ σ:BD}(le:ρ.le σ){v:AV}{v':Value}(h:AY ρ v v'):AY σ v v':=by
 cases h with
 | bool b=>exact .bool b
 | int k n=>exact .int k n
 | str h=>exact .str h
 | ptrNil=>exact .ptrNil
 | ptr h=>exact .ptr (le _ _ h)
 | gptr g o=>exact .gptr g o
 | sliceNil=>exact .sliceNil
 | slice h hl=>exact .slice (le _ _ h) hl
 | sliceOpen h hs hl h1 h2=>exact .sliceOpen (le _ _ h) hs hl h1 h2
 | sliceEnd h hs h1 h2=>exact .sliceEnd (le _ _ h) hs h1 h2
 | mapNil=>exact .mapNil
 | map h=>exact .map (le _ _ h)
 | func ha hc=>exact .func (AT.mono le ha) (AT.mono le hc)
 | yield h=>exact .yield (le _ _ h)
 | nilFunc=>exact .nilFunc
 | nilIface=>exact .nilIface
 | iface h=>exact .iface (AY.mono le h)
 | agg h=>exact .agg (AT.mono le h)
 | tuple h=>exact .tuple (AT.mono le h)
 | any h=>exact .any h
theorem AT.mono{ρ σ:BD}(le:ρ.le σ){v:List AV}{v':List Value}(h:AT ρ v v'):AT σ v v':=by
 cases h with
 | nil=>exact .nil
 | cons h hs=>exact .cons (AY.mono le h) (AT.mono le hs)
end
section lists
variable{ρ:BD}
theorem AT.length{l:List AV}{l':List Value}(h:AT ρ l l'):l.length=l'.length:=by
 induction l generalizing l' with
 | nil=>cases h;rfl
 | cons a l ih=>cases h with | cons h hs=>simp[ih hs]
theorem AT.get{l:List AV}{l':List Value}(h:AT ρ l l'){k:Nat}{v:AV}(hk:l[k]? = some v):∃v',l'[k]? = some v'∧AY ρ v v':=by
  induction l generalizing l' k with
  | nil=>simp at hk
  | cons a l ih =>
    cases h with
    | cons h hs =>
      cases k with
      | zero=>simp at hk;subst hk;exact⟨_,rfl,h⟩
      | succ k=>simp at hk;obtain⟨v',h1,h2⟩:=ih hs hk;exact⟨v',by simpa using h1,h2⟩
theorem AT.of_get{l:List AV}{l':List Value}(hl:l.length=l'.length)(h:∀ (k:Nat)(v:AV)(v':Value),l[k]? = some v→l'[k]? = some v'→AY ρ v v'):AT ρ l l':=by
  induction l generalizing l' with
  | nil=>cases l' with | nil=>exact .nil | cons=>simp at hl
  | cons a l ih =>
    cases l' with
    | nil=>simp at hl
    | cons a' l'=>exact .cons (h 0 a a' rfl rfl) (ih (by simpa using hl) fun k v v' h1 h2=>h (k+1) v v' (by simpa using h1) (by simpa using h2))
theorem AT.append{l m:List AV}{l' m':List Value}(h:AT ρ l l')(k:AT ρ m m'):AT ρ (l++m) (l'++m'):=by
 induction l generalizing l' with
 | nil=>cases h;exact k
 | cons a l ih=>cases h with | cons h hs=>exact .cons h (ih hs)
theorem AT.take{l:List AV}{l':List Value}(h:AT ρ l l')(n:Nat):AT ρ (l.take n) (l'.take n):=by
  induction l generalizing l' n with
  | nil=>cases h;simp;exact .nil
  | cons a l ih =>
    cases h with
    | cons h hs=>cases n with
      | zero=>exact .nil
      | succ n=>exact .cons h (ih hs n)
theorem AT.drop{l:List AV}{l':List Value}(h:AT ρ l l')(n:Nat):AT ρ (l.drop n) (l'.drop n):=by
  induction l generalizing l' n with
  | nil=>cases h;simp;exact .nil
  | cons a l ih =>
    cases h with
    | cons h hs=>cases n with
      | zero=>exact .cons h hs
      | succ n=>exact ih hs n
theorem AY.cells{v:AV}{v':Value}(h:AY ρ v v'):AT ρ v.cells v'.cells.toList:=by
 cases h with
 | agg h=>exact h
 | bool b=>exact .cons (.bool b) .nil
 | int k n=>exact .cons (.int k n) .nil
 | str h=>exact .cons (.str h) .nil
 | ptrNil=>exact .cons .ptrNil .nil
 | ptr h=>exact .cons (.ptr h) .nil
 | gptr g o=>exact .cons (.gptr g o) .nil
 | sliceNil=>exact .cons .sliceNil .nil
 | slice h hl=>exact .cons (.slice h hl) .nil
 | sliceOpen h hs hl h1 h2=>exact .cons (.sliceOpen h hs hl h1 h2) .nil
 | sliceEnd h hs h1 h2=>exact .cons (.sliceEnd h hs h1 h2) .nil
 | mapNil=>exact .cons .mapNil .nil
 | map h=>exact .cons (.map h) .nil
 | func ha hc=>exact .cons (.func ha hc) .nil
 | yield h=>exact .cons (.yield h) .nil
 | nilFunc=>exact .cons .nilFunc .nil
 | nilIface=>exact .cons .nilIface .nil
 | iface h=>exact .cons (.iface h) .nil
 | tuple h=>exact .cons (.tuple h) .nil
 | any h=>rw[h];exact .cons (.any h) .nil
theorem AY.oneCell{v:AV}{v':Value}(h:AY ρ v v')(hc:v.isCell=true):v'.oneCell'=true:=by
 cases h<;>first | rfl | cases hc
theorem AT.oneCell{l:List AV}{l':List Value}(h:AT ρ l l')(hc:Au l=true):∀v∈l',v.oneCell'=true:=by
  induction l generalizing l' with
  | nil=>cases h;simp
  | cons a l ih =>
    cases h with
    | cons h hs =>
      simp only[Au,Bool.and_eq_true]at hc
      intro v hv
      rcases tN.1 hv with rfl | hv
      · exact h.oneCell hc.1
      · exact ih hs hc.2 v hv
end lists
theorem Ia(ρ:BD){v:Value}{a:AV}(h:IZ v=some a):AY ρ a v:=by
 unfold IZ at h
 split at h<;>first
  | (injection h with h;subst h;first | exact .bool _ | exact .int _ _ | exact .str rfl | exact .ptrNil | exact .sliceNil | exact .mapNil | exact .nilFunc | exact .nilIface)
  | cases h
theorem FF(ρ:BD):∀ {l:List Value}{r:List AV},Eo l=some r→AT ρ r l
 | [],r,h=>by simp[Eo]at h;subst h;exact .nil
 | v::l,r,h=>by
  simp only[Eo,qv]at h
  obtain⟨a,ha,r',hr,h⟩:=h
  injection h with h;subst h
  exact .cons (Ia ρ ha) (FF ρ hr)
theorem CI(ρ:BD){v:Value}{a:AV}(h:ofValue v=some a):AY ρ a v:=by
 unfold ofValue at h
 split at h
 ·simp only[qv]at h
  obtain⟨l,hl,h⟩:=h
  injection h with h;subst h
  exact .agg (FF ρ hl)
 ·simp only[qv]at h
  obtain⟨l,hl,h⟩:=h
  injection h with h;subst h
  exact .tuple (FF ρ hl)
 ·exact Ia ρ h
theorem Dg(ρ:BD):AY ρ BM undef:=.tuple .nil
theorem AD{α:Type}{b:Bool}{x:Option α}{a:α}(h:AL b x=some a):b=true∧x=some a:=by
 cases b with
 | true=>exact⟨rfl,h⟩
 | false=>cases h
inductive EG (ρ:BD):List (AV×AV)→List MapEntry→Prop
 | nil:EG ρ [] []
 | cons {k v:AV} {e:MapEntry} {l:List (AV×AV)} {l':List MapEntry} (hk:AY ρ k e.key) (hv:AY ρ v e.val) (hs:EG ρ l l'):EG ρ ((k,v)::l) (e::l')
theorem EG.mono{ρ σ:BD}(le:ρ.le σ){l:List (AV×AV)}{l':List MapEntry}(h:EG ρ l l'):EG σ l l':=by
 induction h with
 | nil=>exact .nil
 | cons hk hv _ ih=>exact .cons (hk.mono le) (hv.mono le) ih
theorem EG.length{ρ:BD}{l:List (AV×AV)}{l':List MapEntry}(h:EG ρ l l'):l.length=l'.length:=by
 induction h with
 | nil=>rfl
 | cons _ _ _ ih=>simp[ih]
structure JS(P:Program)(ρ:BD)(w:World)(kt:TypeId)(es:List (AV×AV))(rb:RB):Prop where
 ex:∃ (es':Array MapEntry) (clock:Nat),w.heap[rb.b]? = some (.map es' clock)∧MapKept.Stamped es' clock∧(∃l,l.Perm es'.toList∧EG ρ es l)∧∀e∈es'.toList,∃l,keyOf P kt e.key=some l
structure Ca(ρ:BD)(w:World)(r:Dh)(rb:RB):Prop where
 cells:∀k v,k<r.n→r.c.get k=some v→∃v',w.cell? ⟨rb.b,rb.off+k,none⟩=some v'∧AY ρ v v'
 le:r.n≤rb.N
 sz:r.sz=rb.sz
 tight:r.spare=false→rb.N=r.n
 own:r.mode≠.ro→∃cs,w.heap[rb.b]? = some (.cells cs r.elem (0,0))∧rb.off+rb.N≤cs.size
 base:r.bytes=true→rb.off=0
 gl:∀g,r.glob=some g→rb.b=g∧rb.off=0
 par:∀p,r.par=some p→∃rp,ρ p=some rp
def EB(ρ:BD)(vars:List Tmp)(var:List AV)(tmps:Array Value):Prop:=
 ∀ (t:Tmp) (k:Nat),Az vars t=some k→t<tmps.size∧∃v:AV,var[k]? = some v∧AY ρ v (tmps.getD t undef)
end
end Go.Proofs.YtjnkfbpadpmakaaGreatDoor.Am
set_option linter.unusedVariables false
set_option linter.unusedSimpArgs false
namespace Go.Proofs.YtjnkfbpadpmakaaGreatDoor.Am
open Go
noncomputable section
theorem Fb{α:Type}{P:Program}{w:World}:∀ {s:Sem α}{a:α},Dt P s=some a→s.run P w=.ok a w:=by
 intro s
 induction s with
 | pure b=>intro a h;simp[Dt]at h;subst h;rfl
 | program k ih=>intro a h;simp only[Dt]at h;simp only[Sem.run];exact ih P h
 | mark m k ih=>intro a h;simp only[Dt]at h;simp only[Sem.run];exact ih h
 | load=>intro a h;simp[Dt]at h
 | store=>intro a h;simp[Dt]at h
 | new=>intro a h;simp[Dt]at h
 | shape=>intro a h;simp[Dt]at h
 | freeze=>intro a h;simp[Dt]at h
 | frozen=>intro a h;simp[Dt]at h
 | getObj=>intro a h;simp[Dt]at h
 | setObj=>intro a h;simp[Dt]at h
 | choose=>intro a h;simp[Dt]at h
 | sys=>intro a h;simp[Dt]at h
 | halt=>intro a h;simp[Dt]at h
section types
variable{P:Program}{w:World}{t:TypeId}
theorem AJ{d:TypeDesc}(h:P.underlying t=some d):(underlying t).run P w=.ok d w:=by simp[underlying,h]
theorem G9{g:Bool}(h:Dx P t=some g):(isAgg t).run P w=.ok g w:=by
 unfold Dx at h
 split at h
 ·injection h with h;subst h;simp[isAgg,underlying, *]
 ·injection h with h;subst h;simp[isAgg,underlying, *]
 ·rename_i d _ _ hd
  injection h with h;subst h
  simp only[isAgg,Sem.run_bind,AJ hd,Result.andThen_ok]
  cases d<;>simp_all
 ·cases h
theorem A6{n:Nat}(h:A7 P t=some n):(sizeOf t).run P w=.ok n w:=by
 unfold A7 at h
 split at h
 ·injection h with h;subst h;simp[sizeOf,typeInfo, *]
 ·cases h
theorem Uq{n:Nat}(h:DN P t=some n):∃i,(typeInfo t).run P w=.ok i w∧i.bytes=n:=by
 unfold DN at h
 split at h
 ·injection h with h;rename_i i hi;exact⟨i,by simp[typeInfo,hi],h⟩
 ·cases h
theorem Ij(ρ:BD){z:AV}(h:Eb P t=some z):∃v,(zeroValue t).run P w=.ok v w∧AY ρ z v:=by
  unfold Eb at h
  split at h
  · split at h
    · rename_i i hi _ v hv
      exact⟨v,by simp[zeroValue,typeInfo,hi,hv],CI ρ h⟩
    · cases h
  · cases h
end types
theorem KL{k:IntKind}{n:Int}(h:By k n=true):k.wrap n=n:=by
 have hb:k.min≤n∧n≤k.max:=by
  unfold By at h
  cases n with
  | ofNat m=>cases k<;>simp[rC]at h<;>simp[IntKind.min,IntKind.max,IntKind.signed,IntKind.bits]<;>omega
  | negSucc m=>cases k<;>simp[rC]at h<;>simp[IntKind.min,IntKind.max,IntKind.signed,IntKind.bits]<;>omega
 cases k<;>simp[IntKind.min,IntKind.max,IntKind.signed,IntKind.bits]at hb<;>simp only[IntKind.wrap,IntKind.signed,IntKind.bits]<;>simp<;>omega
theorem Gw(k:IntKind)(n:Int):DG k n=k.wrap n:=by
 unfold DG
 cases h:By k n with
 | true=>simp[KL h]
 | false=>rfl
theorem Cw(a b:Int):Lz a b=decide (a<b):=by
 cases a with
 | ofNat a=>cases b with
  | ofNat b=>rw[Bool.eq_iff_iff];simp only[Lz,rN,decide_eq_true_iff,tU];omega
  | negSucc b=>simp only[Lz];rw[eq_comm,decide_eq_false_iff_not];simp only[tU];omega
 | negSucc a=>cases b with
  | ofNat b=>simp only[Lz];rw[eq_comm,decide_eq_true_iff];simp only[tU];omega
  | negSucc b=>rw[Bool.eq_iff_iff];simp only[Lz,rN,decide_eq_true_iff];omega
theorem ER(a b:Int):L4 a b=(a == b):=by
 rw[Bool.eq_iff_iff,beq_iff_eq]
 cases a with
 | ofNat a=>cases b with
  | ofNat b=>simp only[L4,sZ,tU];omega
  | negSucc b=>simp[L4]
 | negSucc a=>cases b with
  | ofNat b=>simp[L4]
  | negSucc b=>simp only[L4,sZ];omega
theorem DE{k k':IntKind}(h:Bu k k'=true):k=k':=by cases k<;>cases k'<;>first | rfl | cases h
theorem ZK{n:Int}{m:Nat}(h:Tg n=some m):n=(m:Int):=by cases n<;>simp[Tg]at h;subst h;rfl
theorem Y3{P:Program}{ρ:BD}{op:BinOp}{k:IntKind}{a b:Int}{v:AV}(h:Y2 P op k a b=some v)(t:TypeId)(w:World):
  ∃v',(Go.binOp op t (.int k a) (.int k b)).run P w=.ok v' w∧AY ρ v v':=by
 unfold Y2 at h
 split at h
 case h_1=>injection h with h;subst h;exact⟨.int k (k.wrap (a+b)),by simp[Go.binOp,Op.intArith],by rw[Gw];exact .int _ _⟩
 case h_2=>injection h with h;subst h;exact⟨.int k (k.wrap (a - b)),by simp[Go.binOp,Op.intArith],by rw[Gw];exact .int _ _⟩
 case h_3=>injection h with h;subst h;exact⟨.int k (k.wrap (a * b)),by simp[Go.binOp,Op.intArith],by rw[Gw];exact .int _ _⟩
 case h_4=>injection h with h;subst h;exact⟨.bool (a == b),by simp[Go.binOp,Op.intCmp],by rw[ER];exact .bool _⟩
 case h_5=>injection h with h;subst h;exact⟨.bool (a != b),by simp[Go.binOp,Op.intCmp],by rw[ER];exact .bool _⟩
 case h_6=>injection h with h;subst h;exact⟨.bool (a<b),by simp[Go.binOp,Op.intCmp],by rw[Cw];exact .bool _⟩
 case h_7=>injection h with h;subst h;exact⟨.bool (a≤b),by simp[Go.binOp,Op.intCmp],by rw[Cw,show(!decide (b<a))=decide (a≤b)from by rw[Bool.eq_iff_iff];simp];exact .bool _⟩
 case h_8=>injection h with h;subst h;exact⟨.bool (a > b),by simp[Go.binOp,Op.intCmp],by rw[Cw];exact .bool _⟩
 case h_9=>injection h with h;subst h;exact⟨.bool (a≥b),by simp[Go.binOp,Op.intCmp],by rw[Cw,show(!decide (a<b))=decide (a≥b)from by rw[Bool.eq_iff_iff];simp];exact .bool _⟩
 case h_10 =>
  simp only[qv]at h
  obtain⟨u,hu,h⟩:=h
  exact⟨u,by have:=Fb (w:=w) hu;simpa[Go.binOp]using this,CI ρ h⟩
 case h_11 =>
  simp only[qv]at h
  obtain⟨u,hu,h⟩:=h
  exact⟨u,by have:=Fb (w:=w) hu;simpa[Go.binOp]using this,CI ρ h⟩
 case h_12=>cases h
 case h_13=>cases h
 case h_14 =>
  simp only[qv]at h
  obtain⟨u,hu,h⟩:=h
  refine⟨u,?_,CI ρ h⟩
  have:=Fb (w:=w) hu
  rename_i n1 n2 n3 n4 n5 n6 n7 n8 n9 n10 n11 n12 n13
  cases op<;>first | (exfalso;simp at *;done) | simpa[Go.binOp]using this
abbrev Ds(l:List UInt8):List Nat:=l.map (fun(b:UInt8)=>b.toNat)
theorem toNat_inj{a b:UInt8}(h:a.toNat=b.toNat):a=b:=UInt8.toNat_inj.1 h
theorem Hz:∀ (x y:List UInt8),DM (Ds x) (Ds y)=(x == y)
 | [],[]=>rfl
 | [],_::_=>rfl
 | _::_,[]=>rfl
 | a::x,b::y=>by
  simp only[Ds,sa,DM]
  by_cases e:a=b
  ·subst e
   have:Nat.beq a.toNat a.toNat=true:=by simp[sZ]
   rw[this]
   have ih:=Hz x y
   simp only[Ds]at ih
   simp[ih]
  ·have:Nat.beq a.toNat b.toNat=false:=AW.beq_no (fun h=>e (toNat_inj h))
   rw[this]
   simp[e]
theorem Lu:∀ (x y:List UInt8),Gr (Ds x) (Ds y)=Op.bytesLess x y
 | [],[]=>rfl
 | [],_::_=>rfl
 | _::_,[]=>rfl
 | a::x,b::y=>by
  simp only[Ds,sa,Gr,Op.bytesLess]
  have ih:=Lu x y
  simp only[Ds]at ih
  have h1:Nat.blt a.toNat b.toNat=decide (a<b):=by rw[Bool.eq_iff_iff];simp[rN,UInt8.lt_iff_toNat_lt]
  have h2:Nat.beq a.toNat b.toNat=(a == b):=by
   rw[Bool.eq_iff_iff,beq_iff_eq,sZ]
   exact⟨fun h=>toNat_inj h,fun h=>by rw[h]⟩
  rw[h1,h2,ih]
  cases decide (a<b)<;>cases (a == b)<;>rfl
theorem Fc(s:ByteArray):(Ds s.data.toList).length=s.size:=by simp[Ds]
theorem Z4{P:Program}{ρ:BD}{op:BinOp}{x y:ByteArray}{v:AV}(h:To op (Ds x.data.toList) (Ds y.data.toList)=some v)(w:World):
  ∃v',(Op.stringOp op x y).run P w=.ok v' w∧AY ρ v v':=by
 unfold To at h
 rw[Hz,Lu,Fc,Fc]at h
 unfold Op.stringOp
 rw[ByteArray.toList_eq,ByteArray.toList_eq]
 split at h
 case h_1 =>
  obtain⟨hb,h⟩:=AD h
  injection h with h;subst h
  have hb':x.size+y.size≤1152921504606846976:=by simpa[rC]using hb
  refine⟨.string (x++y),?_,.str (by simp[Ds])⟩
  have:¬ ((x.size+y.size:Nat):Int) > IntKind.i64.max:=by simp[IntKind.max,IntKind.signed,IntKind.bits];omega
  simp only[this,if_false]
  rfl
 case h_2=>injection h with h;subst h;exact⟨_,rfl,.bool _⟩
 case h_3=>injection h with h;subst h;exact⟨_,rfl,.bool _⟩
 case h_4=>injection h with h;subst h;exact⟨_,rfl,.bool _⟩
 case h_5=>injection h with h;subst h;exact⟨_,rfl,.bool _⟩
 case h_6=>injection h with h;subst h;exact⟨_,rfl,.bool _⟩
 case h_7=>injection h with h;subst h;exact⟨_,rfl,.bool _⟩
 case h_8=>cases h
section
variable{P:Program}{ρ:BD}{w:World}
theorem Je{t:TypeId}(h:Ga P t=true):∃e,P.underlying t=some (.pointer e):=by
 unfold Ga at h;split at h
 ·rename_i e he;exact⟨e,he⟩
 ·cases h
theorem HP{t:TypeId}(h:IN P t=true):∃e,P.underlying t=some (.slice e):=by
 unfold IN at h;split at h
 ·rename_i e he;exact⟨e,he⟩
 ·cases h
theorem Jd{t:TypeId}(h:I7 P t=true):∃k e,P.underlying t=some (.map k e):=by
 unfold I7 at h;split at h
 ·rename_i k e he;exact⟨k,e,he⟩
 ·cases h
theorem Fo{t:TypeId}(h:IL P t=true):∃a b c,P.underlying t=some (.func a b c):=by
 unfold IL at h;split at h
 ·rename_i a b c he;exact⟨a,b,c,he⟩
 ·cases h
theorem Nn{t:TypeId}(h:Nm P t=true):P.underlying t=some .bool:=by
 unfold Nm at h;split at h
 ·rename_i he;exact he
 ·cases h
set_option maxHeartbeats 1000000 in
theorem mE{t:TypeId}{x y:AV}{x' y':Value}{b:Bool}(h:bj P t x y=some b)(hx:AY ρ x x')(hy:AY ρ y y')(d:Nat):
  (Op.equalIn (d+1) t x' y').run P w=.ok b w:=by
 unfold bj at h
 split at h
 all_goals first | (cases h;done) | skip
 ·obtain⟨ht,h⟩:=AD h
  injection h with h;subst h
  cases hx;cases hy
  simp[Op.equalIn,AJ (Nn ht)]
 ·obtain⟨ht,h⟩:=AD h
  injection h with h;subst h
  obtain⟨e,ht⟩:=Je ht
  cases hx;cases hy<;>simp[Op.equalIn,AJ ht]
 ·obtain⟨ht,h⟩:=AD h
  injection h with h;subst h
  obtain⟨e,ht⟩:=Je ht
  cases hy;cases hx<;>simp[Op.equalIn,AJ ht]
 ·obtain⟨ht,h⟩:=AD h
  injection h with h;subst h
  obtain⟨e,ht⟩:=HP ht
  cases hx;cases hy<;>simp[Op.equalIn,AJ ht]
 ·obtain⟨ht,h⟩:=AD h
  injection h with h;subst h
  obtain⟨e,ht⟩:=HP ht
  cases hy;cases hx<;>simp[Op.equalIn,AJ ht]
 ·obtain⟨ht,h⟩:=AD h
  injection h with h;subst h
  obtain⟨k,e,ht⟩:=Jd ht
  cases hx;cases hy<;>simp[Op.equalIn,AJ ht]
 ·obtain⟨ht,h⟩:=AD h
  injection h with h;subst h
  obtain⟨k,e,ht⟩:=Jd ht
  cases hy;cases hx<;>simp[Op.equalIn,AJ ht]
 ·obtain⟨ht,h⟩:=AD h
  injection h with h;subst h
  obtain⟨a,b,c,ht⟩:=Fo ht
  cases hy;cases hx;simp[Op.equalIn,AJ ht]
 ·obtain⟨ht,h⟩:=AD h
  injection h with h;subst h
  obtain⟨a,b,c,ht⟩:=Fo ht
  cases hy;cases hx;simp[Op.equalIn,AJ ht]
 ·obtain⟨ht,h⟩:=AD h
  injection h with h;subst h
  obtain⟨a,b,c,ht⟩:=Fo ht
  cases hy;cases hx;simp[Op.equalIn,AJ ht]
theorem Yp{t:TypeId}{x y:AV}{x' y':Value}{b:Bool}(h:bj P t x y=some b)(hx:AY ρ x x')(hy:AY ρ y y'):
  (Op.equal t x' y').run P w=.ok b w:=mE h hx hy 9999
def Zc:Value→Bool
 | .nilIface | .agg _=>false
 | _=>true
theorem Ez{x':Value}(h:Zc x'=true)(op:BinOp)(t:TypeId)(ox oy:Operand)(y':Value):
  (eqGuard op t ox oy x' y').run P w=.ok () w:=by
 cases x'<;>first | (cases h;done) | (cases op<;>rfl)
theorem MT{t:TypeId}{x y:AV}{x':Value}{b:Bool}(h:bj P t x y=some b)(hx:AY ρ x x'):Zc x'=true:=by
 unfold bj at h
 split at h<;>first | (cases h;done) | (cases hx<;>rfl)
theorem Ss      {op : BinOp} {t : TypeId} {x y v : AV} {x' y' : Value} (h : AS   P op t x y = some v) (hx : AY   ρ x x') (hy : AY   ρ y y') (ox oy : Operand) :
    ∃v',(do eqGuard op t ox oy x' y';Go.binOp op t x' y').run P w=.ok v' w∧AY ρ v v':=by
  unfold AS at h
  split at h
  · cases hx;cases hy
    rename_i k a k' b
    rw[Sem.run_bind,Ez rfl]
    simp only[Result.andThen_ok]
    split at h
    · simp only[qv]at h
      obtain⟨u,hu,h⟩:=h
      exact⟨u,by have:=Fb (w:=w) hu;simpa[Go.binOp]using this,CI ρ h⟩
    · simp only[qv]at h
      obtain⟨u,hu,h⟩:=h
      exact⟨u,by have:=Fb (w:=w) hu;simpa[Go.binOp]using this,CI ρ h⟩
    · obtain⟨hk,h2⟩:=AD h
      have hkk:=DE hk
      subst hkk
      exact Y3 h2 t w
  · cases hx;cases hy
    rename_i a b s1 h1 s2 h2
    subst h1;subst h2
    rw[Sem.run_bind,Ez rfl]
    simp only[Result.andThen_ok]
    obtain⟨v',h1,h2⟩:=Z4 (P:=P) (ρ:=ρ) h w
    refine⟨v',?_,h2⟩
    rw[← h1]
    cases op<;>first | rfl | (simp[To]at h;done)
  · split at h
    · simp only[qv]at h
      obtain⟨b,hb,h⟩:=h
      injection h with h;subst h
      rw[Sem.run_bind,Ez (MT hb hx)]
      simp only[Result.andThen_ok]
      refine⟨.bool b,?_,.bool b⟩
      have he:=Yp (w:=w) hb hx hy
      have:Go.binOp .eql t x' y'=(do pure (.bool (← Op.equal t x' y')):Sem Value):=by
        unfold bj at hb
        split at hb<;>first | (cases hb;done) | (cases hx<;>cases hy<;>rfl)
      rw[this,Sem.run_bind,he]
      rfl
    · simp only[qv]at h
      obtain⟨b,hb,h⟩:=h
      injection h with h;subst h
      rw[Sem.run_bind,Ez (MT hb hx)]
      simp only[Result.andThen_ok]
      refine⟨.bool (!b),?_,.bool _⟩
      have he:=Yp (w:=w) hb hx hy
      have:Go.binOp .neq t x' y'=(do pure (.bool (!(← Op.equal t x' y'))):Sem Value):=by
        unfold bj at hb
        split at hb<;>first | (cases hb;done) | (cases hx<;>cases hy<;>rfl)
      rw[this,Sem.run_bind,he]
      rfl
    · cases h
theorem mr{op:UnOp}{x v:AV}{x':Value}(h:U3 P op x=some v)(hx:AY ρ x x'):
  ∃v',(Op.unary op x').run P w=.ok v' w∧AY ρ v v':=by
 unfold U3 at h
 split at h
 ·cases hx
  rename_i k n
  split at h
  ·injection h with h;subst h
   exact⟨.int k (k.wrap (0 - n)),rfl,by rw[Gw];exact .int _ _⟩
  ·simp only[qv]at h
   obtain⟨u,hu,h⟩:=h
   exact⟨u,Fb hu,CI ρ h⟩
  ·cases h
 ·cases hx
  split at h
  ·injection h with h;subst h
   exact⟨_,rfl,.bool _⟩
  ·cases h
 ·cases h
theorem N0{x v:AV}{x':Value}(h:D5 x=some v)(hx:AY ρ x x')(ev:Operand→Value)(o:Oper)(y:Operand)(ho:o.op=.nilCheck y)(he:ev y=x'):
  ∃v',(execOp ev o).run P w=.ok (.value v') w∧AY ρ v v':=by
 unfold D5 at h
 split at h<;>first | (cases h;done) | skip
 injection h with h;subst h
 refine⟨x',?_,hx⟩
 cases hx<;>first | (simp only[execOp,ho,he];done) | (simp only[execOp,ho,he];rfl) | (exfalso;simp_all;done)
theorem PO{x v:AV}{i:Nat}{x':Value}(h:Zb x i=some v)(hx:AY ρ x x'):
  ∃v',(Instr.extract x' i).run P w=.ok v' w∧AY ρ v v':=by
 unfold Zb at h
 split at h<;>first | (cases h;done) | skip
 cases hx with
 | tuple hs =>
  rename_i cs'
  obtain⟨v',h1,h2⟩:=hs.get h
  refine⟨v',?_,h2⟩
  have:cs'[i]? = some v':=by rw[← Array.getElem?_toList];exact h1
  simp[Instr.extract,this]
theorem Pt{t:TypeId}{cs:List AV}{cs':Array Value}{off:Nat}{v:AV}(h:Tj P t cs off=some v)(hc:AT ρ cs cs'.toList):
  ∃v',(part t cs' off).run P w=.ok v' w∧AY ρ v v':=by
 unfold Tj at h
 simp only[qv]at h
 obtain⟨g,hg,h⟩:=h
 cases g with
 | true =>
  simp only[qv]at h
  obtain⟨n,hn,h⟩:=h
  injection h with h;subst h
  refine⟨.agg (cs'.extract off (off+n)),by simp[part,G9 hg,A6 hn],.agg ?_⟩
  have:(cs'.extract off (off+n)).toList=(cs'.toList.drop off).take n:=by
   rw[Array.toList_extract,List.extract_eq_take_drop]
   congr 1
   omega
  rw[this]
  exact(hc.drop off).take n
 | false =>
  obtain⟨v',h1,h2⟩:=hc.get h
  refine⟨v',?_,h2⟩
  have:cs'[off]? = some v':=by rw[← Array.getElem?_toList];exact h1
  simp[part,G9 hg,this]
theorem Kx{x:AV}{x':Value}{k:Nat}(h:GC x=some k)(hx:AY ρ x x'):∃kd,x'=.int kd (k:Int):=by
 unfold GC at h
 split at h<;>first | (cases h;done) | skip
 cases hx
 rename_i kd n
 exact⟨kd,by rw[ZK h]⟩
theorem UU{t:TypeId}{x v:AV}{x':Value}{f:Nat}(h:RZ P t x f=some v)(hx:AY ρ x x'):
  ∃v',(Instr.field t x' f).run P w=.ok v' w∧AY ρ v v':=by
 unfold RZ at h
 split at h<;>first | (cases h;done) | skip
 split at h<;>first | (cases h;done) | skip
 rename_i fs hfs
 simp only[qv]at h
 obtain⟨fd,hfd,h⟩:=h
 cases hx with
 | agg hs =>
  obtain⟨v',h1,h2⟩:=Pt (w:=w) h hs
  exact⟨v',by simp[Instr.field,AJ hfs,hfd,asAgg,h1],h2⟩
theorem UW        {t : TypeId} {x ix v : AV} {x' ix' : Value} (h : R6     P t x ix = some v) (hx : AY   ρ x x') (hi : AY   ρ ix ix') :
    ∃v',(Instr.index t x' ix').run P w=.ok v' w∧AY ρ v v':=by
  unfold R6 at h
  simp only[qv]at h
  obtain⟨k,hk,h⟩:=h
  obtain⟨kd,rfl⟩:=Kx hk hi
  split at h<;>first | (cases h;done) | skip
  · split at h<;>first | (cases h;done) | skip
    rename_i len e he
    simp only[qv]at h
    obtain⟨n,hn,h⟩:=h
    obtain⟨hlt,h⟩:=AD h
    have hlt':k<len:=by simpa[rN]using hlt
    cases hx with
    | agg hs =>
      obtain⟨v',h1,h2⟩:=Pt (w:=w) h hs
      refine⟨v',?_,h2⟩
      have:(0:Int)≤(k:Int)∧(k:Int)<(len:Int):=by omega
      simp only[Instr.index,asIntOf,Sem.run_bind,Sem.run_pure,Result.andThen_ok,AJ he,this,and_self,if_true,A6 hn]
      simpa using h1
  · split at h <;> first | (cases h; done) | skip
    rename_i l _ he
    simp only[qv]at h
    obtain⟨b,hb,h⟩:=h
    injection h with h;subst h
    cases hx with
    | str hs =>
      rename_i s
      subst hs
      rw[sF]at hb
      simp only[Option.map_eq_some_iff]at hb
      obtain⟨u,hu,rfl⟩:=hb
      refine⟨.int .u8 u.toNat,?_,.int _ _⟩
      have h0:(0:Int)≤(k:Int):=by omega
      have:s[k]? = some u:=by
        rw[← hu]
        rcases qz k s.size with hlt | hge
        · rw [getElem?_pos s k hlt, qy                       (by simpa using hlt)]
          rfl
        · rw[getElem?_neg s k (by omega),rI (by simpa using hge)]
      simp[Instr.index,asIntOf,AJ he,this]
end
structure GN(P:Program)(ρ:BD)(w:World)(l:C0)(rb:RB):Prop where
 ex:∃L:Loop,w.heap[rb.b]? = some (.loop L)∧L.state=l.state∧L.pending=l.pending∧L.params=l.params∧L.assign=l.assign∧L.body=l.body ∧
  (∃rd,ρ l.dfr=some rd∧L.defers=rd.b)∧EB ρ (Cz P l.fn) l.var L.tmps∧(∀fn,P.funcs[l.fn]? = some fn→fn.ntmps≤L.tmps.size)∧l.var.length=(Cz P l.fn).length
def FL(P:Program)(ρ:BD)(w:World):BC→RB→Prop
 | .row r,rb=>Ca ρ w r rb
 | .map kt es,rb=>JS P ρ w kt es rb
 | .mapRo kt es,rb=>JS P ρ w kt es rb
 | .loop l,rb=>GN P ρ w l rb
 | .mark,rb=>w.heap[rb.b]? = some (.deferred (some []))
 | .iter _ _,_=>False
def wr:BC→Bool
 | .row r=>Dd r.mode
 | .mapRo _ _=>false
 | _=>true
def Mo:BC→Option Nat
 | .row r=>r.par
 | _=>none
def Fn:BC→Option Nat
 | .row r=>r.glob
 | _=>none
structure BO(P:Program)(ρ:BD)(s:AE)(w:World):Prop where
 obj:∀i o rb,s.heap.get i=some o→ρ i=some rb→FL P ρ w o rb
 lt:∀i rb,ρ i=some rb→rb.b<w.heap.size
 sep:∀i j oi oj ri rj,i≠j→s.heap.get i=some oi→s.heap.get j=some oj→ρ i=some ri→ρ j=some rj→ri.b=rj.b→wr oj=true→Mo oj=some i∧wr oi=false
 glb:∀i o g,s.heap.get i=some o→Fn o=some g→∃rb,ρ i=some rb
def GA(ρ:BD)(s:AE)(b:Nat):Prop:=∃i o rb,s.heap.get i=some o∧wr o=true∧ρ i=some rb∧rb.b=b
structure Fr(ρ:BD)(s:AE)(w:World)(ρ':BD)(s':AE)(w':World):Prop where
 le:ρ.le ρ'
 fresh:∀i,ρ i=none→(i<s.next∨s'.next≤i)→ρ' i=none
 next:s.next≤s'.next
 size:w.heap.size≤w'.heap.size
 os:w'.os=w.os
 tape:w'.tape=w.tape
 output:w'.output=w.output
 keep:∀b,b<w.heap.size→¬ GA ρ s b→w'.heap[b]? = w.heap[b]?
 own:∀b,GA ρ' s' b→GA ρ s b∨w.heap.size≤b
 unborn:∀i,ρ i=none→(i<s.next∨s'.next≤i)→s'.heap.get i=s.heap.get i
section
variable{P:Program}{ρ ρ1 ρ2:BD}{s s1 s2:AE}{w w1 w2:World}
theorem Fr.refl(ρ:BD)(s:AE)(w:World):Fr ρ s w ρ s w:=
 ⟨BD.le_refl ρ,fun _ h _=>h,qw _,qw _,rfl,rfl,rfl,fun _ _ _=>rfl,fun _ h=>.inl h,fun _ _ _=>rfl⟩
theorem Fr.trans(h:Fr ρ s w ρ1 s1 w1)(k:Fr ρ1 s1 w1 ρ2 s2 w2):Fr ρ s w ρ2 s2 w2 where
 le:=BD.le_trans h.le k.le
 fresh:=fun i hi hr=>k.fresh i (h.fresh i hi (hr.imp id (fun h'=>rD k.next h'))) (hr.imp (fun h'=>rA h' h.next) id)
 next:=rD h.next k.next
 size:=rD h.size k.size
 os:=k.os.trans h.os
 tape:=k.tape.trans h.tape
 output:=k.output.trans h.output
 keep:=fun b hb ho=>(k.keep b (rA hb h.size) (fun ho1=>(h.own b ho1).elim ho (fun hge=>by omega))).trans (h.keep b hb ho)
 own:=fun b hb=>(k.own b hb).elim (fun h1=>h.own b h1) (fun hge=>.inr (rD h.size hge))
 unborn:=fun i hi hr=>(k.unborn i (h.fresh i hi (hr.imp id (fun h'=>rD k.next h'))) (hr.imp (fun h'=>rA h' h.next) id)).trans (h.unborn i hi (hr.imp id (fun h'=>rD k.next h')))
theorem IH{a:Addr}(h:w1.heap[a.block]? = w.heap[a.block]?):w1.cell? a=w.cell? a:=by simp[World.cell?,h]
theorem EB.mono{σ:BD}(le:ρ.le σ){vars:List Tmp}{var:List AV}{tmps:Array Value}(h:EB ρ vars var tmps):EB σ vars var tmps:=
 fun t k hk=>let ⟨h1,v,h2,h3⟩:=h t k hk;⟨h1,v,h2,h3.mono le⟩
theorem FL.mono    {o : BC}   {rb : RB} (h : FL    P ρ w o rb) (le : ρ.le ρ1) (hk : w1.heap[rb.b]? = w.heap[rb.b]?) : FL    P ρ1 w1 o rb := by
  cases o with
  | row r =>
    exact⟨fun k v hk' hv=>by
        obtain⟨v',h1,h2⟩:=h.cells k v hk' hv
        exact⟨v',(IH (a:=⟨rb.b,_,none⟩) hk).trans h1,h2.mono le⟩,
      h.le,h.sz,h.tight,fun hm=>by
        obtain⟨cs,h1,h2⟩:=h.own hm
        exact⟨cs,hk.trans h1,h2⟩,h.base,h.gl,fun p hp=>let ⟨rp,h1⟩:=h.par p hp;⟨rp,le _ _ h1⟩⟩
  | map kt es =>
    obtain⟨es',clock,h1,h2,⟨l,h3,h4⟩,h5⟩:=h.ex
    exact⟨es',clock,hk.trans h1,h2,⟨l,h3,h4.mono le⟩,h5⟩
  | mapRo kt es =>
    obtain⟨es',clock,h1,h2,⟨l,h3,h4⟩,h5⟩:=h.ex
    exact⟨es',clock,hk.trans h1,h2,⟨l,h3,h4.mono le⟩,h5⟩
  | loop l =>
    obtain⟨L,h0,h1,h2,h4,h5,h6,⟨rd,h7,h7'⟩,h8,h9⟩:=h.ex
    exact⟨L,hk.trans h0,h1,h2,h4,h5,h6,⟨rd,le _ _ h7,h7'⟩,h8.mono le,h9⟩
  | mark=>exact hk.trans h
  | iter=>exact h
def Bw(ρ:BD)(i:Nat)(rb:RB):BD:=fun j=>if j=i then some rb else ρ j
theorem Aa(i:Nat)(rb:RB):Bw ρ i rb i=some rb:=by simp[Bw]
theorem AU{i j:Nat}(rb:RB)(h:j≠i):Bw ρ i rb j=ρ j:=by simp[Bw,h]
theorem BZ{i:Nat}{rb:RB}(h:ρ i=none):ρ.le (Bw ρ i rb):=fun j r hj=>by
 have:j≠i:=fun e=>by subst e;rw[h]at hj;cases hj
 rw[AU rb this];exact hj
theorem Av(s:AE)(o:BC)(j:Nat):(newObj s o).heap.get j=if j=s.next then some o else s.heap.get j:=AW.get_set _ _ _ _
theorem DB(s:AE)(i:Nat)(o:BC)(j:Nat):(setObj s i o).heap.get j=if j=i then some o else s.heap.get j:=AW.get_set _ _ _ _
theorem Bg(s:AE)(i j:Nat):(CQ s i).heap.get j=if j=i then none else s.heap.get j:=AW.get_del _ _ _
theorem HN{o:Obj}{b:Nat}(h:b<w.heap.size):(w.alloc o).heap[b]? = w.heap[b]? :=
 Go.RowKit.Below.heap_alloc w o b h
theorem BO.new  (h : BO  P ρ s w) {o : BC}   {o' : Obj} {rb : RB} (hf : ρ s.next = none) (hb : rb.b = w.heap.size)
    (ho:FL P (Bw ρ s.next rb) (w.alloc o') o rb):
    BO P (Bw ρ s.next rb) (newObj s o) (w.alloc o')∧Fr ρ s w (Bw ρ s.next rb) (newObj s o) (w.alloc o'):=by
  have hle:=BZ (rb:=rb) hf
  have hglb:∀i oi g,(newObj s o).heap.get i=some oi→Fn oi=some g→∃r,Bw ρ s.next rb i=some r:=by
    intro i oi g hi hg
    rw[Av]at hi
    by_cases e:i=s.next
    · subst e;exact⟨_,Aa _ _⟩
    · rw[if_neg e]at hi
      obtain⟨r,hr⟩:=h.glb i oi g hi hg
      exact⟨r,hle _ _ hr⟩
  refine⟨⟨?_,?_,?_,hglb⟩,?_⟩
  · intro i oi ri hi hr
    rw[Av]at hi
    by_cases e:i=s.next
    · subst e
      rw[if_pos rfl]at hi
      injection hi with hi
      rw[Aa]at hr
      injection hr with hr
      subst hi;subst hr
      exact ho
    · rw [if_neg e] at hi
      rw[AU rb e]at hr
      exact(h.obj i oi ri hi hr).mono hle (HN (h.lt i ri hr))
  · intro i ri hr
    by_cases e:i=s.next
    · subst e
      rw[Aa]at hr
      injection hr with hr
      subst hr
      simp[hb]
    · rw[AU rb e]at hr
      have:=h.lt i ri hr
      simp;omega
  · intro i j oi oj ri rj hne hi hj hri hrj hbb hw
    rw[Av]at hi hj
    by_cases ei:i=s.next
    · subst ei
      have ej:j≠s.next:=fun e=>hne e.symm
      rw[Aa]at hri
      rw[AU rb ej]at hrj
      injection hri with hri
      subst hri
      have:=h.lt j rj hrj
      omega
    · by_cases ej : j = s.next
      · subst ej
        rw[AU rb ei]at hri
        rw[Aa]at hrj
        injection hrj with hrj
        subst hrj
        have:=h.lt i ri hri
        omega
      · rw [if_neg ei] at hi
        rw[if_neg ej]at hj
        rw[AU rb ei]at hri
        rw[AU rb ej]at hrj
        exact h.sep i j oi oj ri rj hne hi hj hri hrj hbb hw
  · refine ⟨hle, ?_, by simp [newObj], by simp, rfl, rfl, rfl, fun b hb _ => HN            hb, ?_, ?_⟩
    · intro i hi hr
      have:i≠s.next:=by simp[newObj]at hr;omega
      rw[AU rb this];exact hi
    · rintro b ⟨i, oi, ri, hi, hw, hr, rfl⟩
      rw[Av]at hi
      by_cases e:i=s.next
      · subst e
        rw[Aa]at hr
        injection hr with hr
        subst hr
        exact .inr (by omega)
      · rw [if_neg e] at hi
        rw[AU rb e]at hr
        exact .inl ⟨i,oi,ri,hi,hw,hr,rfl⟩
    · intro i _ hi
      rw[Av,if_neg (by simp[newObj]at hi;omega)]
theorem BO.set  (h : BO  P ρ s w) {i : Nat} {o o1 : BC}   {rb : RB} (hg : s.heap.get i = some o) (hr : ρ i = some rb) (hw : wr o = true) (hp : ∀ p, Mo    o = some p → p ≠ i → s.heap.get p = none)
    (hp1:Mo o1=none) (hsz:w1.heap.size=w.heap.size) (hkeep:∀b,b≠rb.b→w1.heap[b]? = w.heap[b]?) (hos:w1.os=w.os) (htape:w1.tape=w.tape) (hout:w1.output=w.output)
    (ho:FL P ρ w1 o1 rb):BO P ρ (setObj s i o1) w1∧Fr ρ s w ρ (setObj s i o1) w1:=by
  have hsep:∀j oj rj,j≠i→s.heap.get j=some oj→ρ j=some rj→rj.b≠rb.b:=by
    intro j oj rj hne hj hrj e
    have:=hp j (h.sep j i oj o rj rb hne hj hg hrj hr e hw).1 hne
    rw[hj]at this
    cases this
  have hglb:∀j oj g,(setObj s i o1).heap.get j=some oj→Fn oj=some g→∃r,ρ j=some r:=by
    intro j oj g hj hg
    rw[DB]at hj
    by_cases e:j=i
    · subst e;exact⟨_,hr⟩
    · rw[if_neg e]at hj
      exact h.glb j oj g hj hg
  refine⟨⟨?_,?_,?_,hglb⟩,?_⟩
  · intro j oj rj hj hrj
    rw[DB]at hj
    by_cases e:j=i
    · subst e
      rw[if_pos rfl]at hj
      injection hj with hj
      subst hj
      rw[hr]at hrj
      injection hrj with hrj
      subst hrj
      exact ho
    · rw[if_neg e]at hj
      exact(h.obj j oj rj hj hrj).mono (BD.le_refl ρ) (hkeep _ (hsep j oj rj e hj hrj))
  · intro j rj hrj
    rw[hsz];exact h.lt j rj hrj
  · intro j k oj ok rj rk hne hj hk hrj hrk hbb hwk
    rw[DB]at hj hk
    by_cases ej:j=i
    · subst ej
      have ek:k≠j:=fun e=>hne e.symm
      rw[if_neg ek]at hk
      rw[hr]at hrj
      injection hrj with hrj
      subst hrj
      exact absurd hbb.symm (hsep k ok rk ek hk hrk)
    · by_cases ek : k = i
      · subst ek
        rw[if_neg ej]at hj
        rw[hr]at hrk
        injection hrk with hrk
        subst hrk
        exact absurd hbb (hsep j oj rj ej hj hrj)
      · rw [if_neg ej] at hj
        rw[if_neg ek]at hk
        exact h.sep j k oj ok rj rk hne hj hk hrj hrk hbb hwk
  · refine ⟨BD.le_refl  ρ, fun _ h _ => h, qw          _, by omega, hos, htape, hout, ?_, ?_, ?_⟩
    · intro b _ hno
      exact hkeep b (fun e=>hno ⟨i,o,rb,hg,hw,hr,e.symm⟩)
    · rintro b ⟨j, oj, rj, hj, hwj, hrj, rfl⟩
      rw[DB]at hj
      by_cases e:j=i
      · subst e
        rw[hr]at hrj
        injection hrj with hrj
        subst hrj
        exact .inl ⟨j,o,rb,hg,hw,hr,rfl⟩
      · rw[if_neg e]at hj
        exact .inl ⟨j,oj,rj,hj,hwj,hrj,rfl⟩
    · intro j hrj _
      rw[DB,if_neg]
      intro e
      subst e
      rw[hr]at hrj
      cases hrj
theorem BO.del  (h : BO  P ρ s w) {i : Nat} {rb : RB} (hr : ρ i = some rb) : BO  P ρ (CQ     s i) w ∧ Fr ρ s w ρ (CQ     s i) w := by
  have hglb:∀j oj g,(CQ s i).heap.get j=some oj→Fn oj=some g→∃r,ρ j=some r:=by
    intro j oj g hj hg
    rw[Bg]at hj
    by_cases e:j=i
    · rw[if_pos e]at hj;cases hj
    · rw[if_neg e]at hj
      exact h.glb j oj g hj hg
  refine⟨⟨?_,h.lt,?_,hglb⟩,⟨BD.le_refl ρ,fun _ h _=>h,qw _,qw _,rfl,rfl,rfl,fun _ _ _=>rfl,?_,?_⟩⟩
  · intro j oj rj hj hrj
    rw[Bg]at hj
    by_cases e:j=i
    · rw[if_pos e]at hj;cases hj
    · rw[if_neg e]at hj
      exact h.obj j oj rj hj hrj
  · intro j k oj ok rj rk hne hj hk
    rw[Bg]at hj hk
    by_cases ej:j=i
    · rw[if_pos ej]at hj;cases hj
    · by_cases ek : k = i
      · rw[if_pos ek]at hk;cases hk
      · rw [if_neg ej] at hj
        rw[if_neg ek]at hk
        exact h.sep j k oj ok rj rk hne hj hk
  · rintro b ⟨j, oj, rj, hj, hwj, hrj, rfl⟩
    rw[Bg]at hj
    by_cases e:j=i
    · rw[if_pos e]at hj;cases hj
    · rw[if_neg e]at hj
      exact .inl ⟨j,oj,rj,hj,hwj,hrj,rfl⟩
  · intro j hrj _
    rw[Bg,if_neg]
    intro e
    subst e
    rw[hr]at hrj
    cases hrj
theorem BY{i:Nat}{r:Dh}(h:rowAt s i=some r):s.heap.get i=some (.row r):=by
 unfold rowAt at h
 split at h
 ·injection h with h;subst h;assumption
 ·cases h
theorem CS(b o k:Nat):(⟨b,o,none⟩:Addr).add k=⟨b,o+k,none⟩:=by unfold Addr.add;split<;>simp_all
theorem DS(h:BO P ρ s w){i off n:Nat}{l:List AV}{rb:RB}(hr:ρ i=some rb)(hl:B9 s i off n=some l):
  ∃l':List Value,AT ρ l l'∧l'.length=n∧∀w1:World,w1.heap=w.heap→(loadCells ⟨rb.b,rb.off+off,none⟩ n).run P w1=.ok l'.toArray w1:=by
 unfold B9 at hl
 simp only[qv]at hl
 obtain⟨r,hrow,hl⟩:=hl
 obtain⟨hb,hl⟩:=AD hl
 have hb:off+n≤r.n:=by simpa[rC]using hb
 have hok:Ca ρ w r rb:=h.obj i _ rb (BY hrow) hr
 have hlen:=AW.take_length hl
 have hc:∀k,k<n→∃v v',l[k]? = some v∧w.cell? ⟨rb.b,rb.off+off+k,none⟩=some v'∧AY ρ v v':=by
  intro k hk
  have hv:l[k]? = some l[k]:=qy (by omega)
  have hg:=AW.take_get hl k hk
  rw[hv]at hg
  obtain⟨v',h1,h2⟩:=hok.cells (off+k) _ (by omega) hg
  exact⟨l[k],v',hv,by rw[show rb.off+off+k=rb.off+(off+k)from by omega];exact h1,h2⟩
 let f:Nat→Value:=fun k=>(w.cell? ⟨rb.b,rb.off+off+k,none⟩).getD undef
 have hf:∀k,k<n→w.cell? ⟨rb.b,rb.off+off+k,none⟩=some (f k):=by
  intro k hk
  obtain⟨v,v',_,h2,_⟩:=hc k hk
  simp[f,h2]
 refine⟨(List.range n).map f,?_,by simp,?_⟩
 ·refine AT.of_get (by simp[hlen]) ?_
  intro k v v' hv hv'
  have hk:k<n:=by
   rcases qz k n with h' | h'
   ·exact h'
   ·rw[rI (by omega)]at hv;cases hv
  obtain⟨u,u',h1,h2,h3⟩:=hc k hk
  rw[h1]at hv
  injection hv with hv
  subst hv
  rw[sF,tO hk]at hv'
  simp only[sb]at hv'
  injection hv' with hv'
  rw[← hv']
  have:f k=u':=by simp[f,h2]
  rw[this];exact h3
 ·intro w1 he
  exact run_loadCells w1 _ n f (fun j hj=>by rw[CS];exact(IH (by rw[he])).trans (hf j hj))
theorem K6(h:BO P ρ s w){i off:Nat}{v:AV}{rb:RB}(hr:ρ i=some rb)(hl:Cm s i off=some v):
  ∃v',AY ρ v v'∧w.cell? ⟨rb.b,rb.off+off,none⟩=some v':=by
 unfold Cm at hl
 simp only[qv]at hl
 obtain⟨r,hrow,hl⟩:=hl
 obtain⟨hb,hl⟩:=AD hl
 have hb:off<r.n:=by simpa[rN]using hb
 have hok:Ca ρ w r rb:=h.obj i _ rb (BY hrow) hr
 obtain⟨v',h1,h2⟩:=hok.cells off v hb hl
 exact⟨v',h2,h1⟩
theorem K8       (h : BO  P ρ s w) {t : TypeId} {a v : AV} {a' : Value} (hl : AA    P s t a = some v) (ha : AY   ρ a a') :
    ∃v',(Instr.loadAt t a').run P w=.ok v' w∧AY ρ v v'∧∃ad,a'=.pointer (some ad)∧(loadVar t ad).run P w=.ok v' w:=by
  unfold AA at hl
  split at hl<;>first | (cases hl;done) | skip
  · rename_i i o
    cases ha
    simp only[qv]at hl
    obtain⟨r,hgr,g,hg,hl⟩:=hl
    have hrow:rowAt s i=some r∧r.glob=some i:=by
      unfold Nl at hgr
      simp only[qv]at hgr
      obtain⟨r',h1,h2⟩:=hgr
      split at h2<;>first | (cases h2;done) | skip
      rename_i g' hg'
      obtain⟨h3,h4⟩:=AD h2
      injection h4 with h4
      subst h4
      exact⟨h1,by rw[hg',rJ h3]⟩
    obtain⟨rb,hr⟩:=h.glb i _ i (BY hrow.1) hrow.2
    have hok:Ca ρ w r rb:=h.obj i _ rb (BY hrow.1) hr
    obtain⟨hb,ho⟩:=hok.gl i hrow.2
    cases g with
    | true =>
      simp only[qv]at hl
      obtain⟨n,hn,l,hl,hv⟩:=hl
      injection hv with hv;subst hv
      obtain⟨l',h1,h2,h3⟩:=DS h hr hl
      rw[hb,ho,rE]at h3
      have hrun:(loadVar t ⟨i,o,none⟩).run P w=.ok (.agg l'.toArray) w:=by
        simp[loadVar,G9 hg,A6 hn,h3 w rfl]
      exact⟨.agg l'.toArray,by simp[Instr.loadAt,Instr.sureAddr,hrun],.agg (by simpa using h1),_,rfl,hrun⟩
    | false =>
      obtain⟨v',h1,h2⟩:=K6 h hr hl
      rw[hb,ho,rE]at h2
      have hrun:(loadVar t ⟨i,o,none⟩).run P w=.ok v' w:=by
        simp[loadVar,G9 hg,h2]
      exact⟨v',by simp[Instr.loadAt,Instr.sureAddr,hrun],h1,_,rfl,hrun⟩
  rename_i i o
  cases ha with
  | ptr hr =>
    rename_i rb
    simp only[qv]at hl
    obtain⟨g,hg,hl⟩:=hl
    cases g with
    | true =>
      simp only[qv]at hl
      obtain⟨n,hn,l,hl,hv⟩:=hl
      injection hv with hv;subst hv
      obtain⟨l',h1,h2,h3⟩:=DS h hr hl
      have hrun:(loadVar t ⟨rb.b,rb.off+o,none⟩).run P w=.ok (.agg l'.toArray) w:=by
        simp[loadVar,G9 hg,A6 hn,h3 w rfl]
      exact⟨.agg l'.toArray,by simp[Instr.loadAt,Instr.sureAddr,hrun],.agg (by simpa using h1),_,rfl,hrun⟩
    | false =>
      obtain⟨v',h1,h2⟩:=K6 h hr hl
      have hrun:(loadVar t ⟨rb.b,rb.off+o,none⟩).run P w=.ok v' w:=by
        simp[loadVar,G9 hg,h2]
      exact⟨v',by simp[Instr.loadAt,Instr.sureAddr,hrun],h1,_,rfl,hrun⟩
end
section
variable{P:Program}{ρ ρ1 ρ2:BD}{s s1 s2:AE}{w w1 w2:World}
theorem ZD{e:TypeId}{sz:Nat}{l:List AV}{cs:Array Value}(hl:AT ρ l cs.toList)(b:Nat)(hb:w.heap[b]? = some (.cells cs e (0,0))):
  FL P ρ w (Gi e sz l) ⟨b,0,l.length,sz⟩:=by
 have hlen:=hl.length
 refine⟨?_,qw _,rfl,fun _=>rfl,fun _=>⟨cs,hb,by simp[hlen]⟩,fun _=>rfl,(fun g hg=>by cases hg),fun p hp=>by cases hp⟩
 intro k v hk hv
 simp only[AW.get_fill,rB,rE,true_and,Nat.sub_zero]at hv
 rw[if_pos hk]at hv
 obtain⟨v',h1,h2⟩:=hl.get hv
 refine⟨v',?_,h2⟩
 simp only[World.cell?,hb,rE]
 rw[← Array.getElem?_toList]
 simpa using h1
theorem G6(h:BO P ρ s w)(hf:ρ s.next=none){e:TypeId}{sz:Nat}{l:List AV}{cs:Array Value}(hl:AT ρ l cs.toList):
  ∃ρ',ρ' s.next=some ⟨w.heap.size,0,l.length,sz⟩∧BO P ρ' (newObj s (Gi e sz l)) (w.alloc (.cells cs e))∧Fr ρ s w ρ' (newObj s (Gi e sz l)) (w.alloc (.cells cs e)):=by
 have hle:=BZ (rb:=⟨w.heap.size,0,l.length,sz⟩) hf
 obtain⟨h1,h2⟩:=h.new (o:=Gi e sz l) (o':=.cells cs e) (rb:=⟨w.heap.size,0,l.length,sz⟩) hf rfl
  (ZD (hl.mono hle) _ (World.alloc_heap_new w _))
 exact⟨_,Aa _ _,h1,h2⟩
theorem HD        (h : BO  P ρ s w) {i off : Nat} {vs : List AV} {vs' : List Value} {rb : RB} (hr : ρ i = some rb) (hs : Ch     s i off vs = some s1) (hv : AT    ρ vs vs') :
    ∃w1,(storeCells ⟨rb.b,rb.off+off,none⟩ vs').run P w=.ok () w1∧BO P ρ s1 w1∧Fr ρ s w ρ s1 w1:=by
  cases vs with
  | nil =>
    cases hv
    simp only[Ch]at hs
    injection hs with hs
    subst hs
    exact⟨w,rfl,h,Fr.refl _ _ _⟩
  | cons v0 vs0 =>
    have hsv:Ch s i off (v0::vs0)=(rowAt s i).bind fun r =>
      AL (Dd r.mode && Nat.ble (off+(v0::vs0).length) r.n && Au (v0::vs0))
        (some (setObj (BF s i r) i (.row { r with c:=r.c.fill off (v0::vs0),par:=none }))):=rfl
    rw[hsv]at hs
    generalize v0::vs0=vs at hs hv
    simp only[qv]at hs
    obtain⟨r,hrow,hs⟩:=hs
    obtain⟨hb,hs⟩:=AD hs
    injection hs with hs
    subst hs
    simp only[Bool.and_eq_true,rC]at hb
    obtain⟨⟨hown,hle⟩,hall⟩:=hb
    have hg:=BY hrow
    have hok:Ca ρ w r rb:=h.obj i _ rb hg hr
    have hmode:r.mode≠.ro:=fun e=>by rw[e]at hown;cases hown
    obtain⟨cs,hblk,hsz⟩:=hok.own hmode
    obtain⟨e,he0⟩:∃e,r.elem=e:=⟨_,rfl⟩
    rw[he0]at hblk
    have hlen:=hv.length
    have hfit:rb.off+off+vs'.length≤cs.size:=by have:=hok.le;omega
    have hrun:=run_storeCells_at P rb.b (rb.off+off) e vs' 0 cs w hblk (by simpa using hfit) (hv.oneCell hall)
    refine⟨_,hrun,?_⟩
    simp only[rO]
    generalize hnew:(cs.toList.take (rb.off+off)++vs'++cs.toList.drop (rb.off+off+vs'.length)).toArray=cs1
    have hblk1:(w.setRow rb.b cs1).heap[rb.b]? = some (.cells cs1 e (0,0)):=setRow_heap w rb.b cs cs1 e (0,0) hblk
    have hsize1:cs1.size=cs.size:=by rw[← hnew];simp;omega
    have hget:∀k,cs1[k]? = if rb.off+off≤k∧k<rb.off+off+vs'.length then vs'[k - (rb.off+off)]? else cs[k]? := by
      intro k
      rw[← hnew,List.getElem?_toArray]
      by_cases h1:k<rb.off+off
      · rw[if_neg (by omega),rZ,sH (by simp;omega),sS h1,Array.getElem?_toList]
      · rw[rZ,sI (by simp;omega)]
        have hmin:(cs.toList.take (rb.off+off)).length=rb.off+off:=by simp;omega
        rw[hmin]
        by_cases h2:k<rb.off+off+vs'.length
        · rw[if_pos (by omega),sH (by omega)]
        · rw[if_neg (by omega),sI (by omega),sJ,← Array.getElem?_toList]
          congr 1
          omega
    have key:∀sx:AE,BO P ρ sx w→Fr ρ s w ρ sx w→sx.heap.get i=some (.row r)→(∀p,r.par=some p→p≠i→sx.heap.get p=none) →
        BO P ρ (setObj sx i (.row { r with c:=r.c.fill off vs,par:=none })) (w.setRow rb.b cs1) ∧
        Fr ρ s w ρ (setObj sx i (.row { r with c:=r.c.fill off vs,par:=none })) (w.setRow rb.b cs1):=by
      intro sx hx hfx hgx hpx
      obtain⟨h1,h2⟩:=hx.set (o1:=.row { r with c:=r.c.fill off vs,par:=none }) (w1:=w.setRow rb.b cs1) hgx hr (by simpa[wr]using hown) hpx rfl (by simp)
        (fun b hb=>setRow_other w rb.b b cs1 hb) rfl rfl rfl (by
          refine⟨?_,hok.le,hok.sz,hok.tight,fun _=>⟨cs1,by show _=some (Obj.cells cs1 r.elem (0,0));rw[he0];exact hblk1,by rw[hsize1];exact hsz⟩,hok.base,hok.gl,fun p hp=>by cases hp⟩
          intro k v hk hkv
          simp only[AW.get_fill]at hkv
          have hcell:(w.setRow rb.b cs1).cell? ⟨rb.b,rb.off+k,none⟩=cs1[rb.off+k]? := by simp[World.cell?,hblk1]
          rw[hcell,hget]
          by_cases hin:off≤k∧k<off+vs.length
          · rw [if_pos hin] at hkv
            rw[if_pos (by omega),show rb.off+k - (rb.off+off)=k - off from by omega]
            exact hv.get hkv
          · rw [if_neg hin] at hkv
            rw[if_neg (by omega)]
            obtain⟨v',h1,h2⟩:=hok.cells k v hk hkv
            refine⟨v',?_,h2⟩
            simpa[World.cell?,hblk]using h1)
      exact⟨h1,hfx.trans h2⟩
    unfold BF
    split
    · rename_i hp
      exact key s h (Fr.refl _ _ _) hg (fun p hp' _=>by rw[hp]at hp';cases hp')
    · rename_i p hp
      by_cases hpi:p=i
      · have:Nat.beq p i=true:=by rw[hpi];simp[sZ]
        rw[this]
        exact key s h (Fr.refl _ _ _) hg (fun q hq hqi=>by rw[hp]at hq;injection hq with hq;exact absurd (hq.symm.trans hpi) hqi)
      · rw[AW.beq_no hpi]
        obtain⟨rp,hrp⟩:=hok.par p hp
        obtain⟨hd,hfd⟩:=h.del hrp
        exact key (CQ s p) hd hfd (by rw[Bg,if_neg (fun e=>hpi e.symm)];exact hg) (fun q hq _=>by
          rw[hp]at hq
          injection hq with hq
          subst hq
          rw[Bg,if_pos rfl])
theorem Ao{a b:Nat}(h:Nat.beq a b=true):a=b:=rJ h
theorem Uw(h:BO P ρ s w){t:TypeId}{a v:AV}{a' v':Value}(hs:AM P s t a v=some s1)(ha:AY ρ a a')(hv:AY ρ v v'):
  ∃w1,(Instr.storeAt t a' v').run P w=.ok () w1∧BO P ρ s1 w1∧Fr ρ s w ρ s1 w1:=by
 unfold AM at hs
 split at hs<;>first | (cases hs;done) | skip
 rename_i i o
 cases ha with
 | ptr hr =>
  rename_i rb
  simp only[qv]at hs
  obtain⟨n,hn,hs⟩:=hs
  obtain⟨hb,hs⟩:=AD hs
  have hb:=Ao hb
  obtain⟨w1,h1,h2⟩:=HD h hr hs hv.cells
  refine⟨w1,?_,h2⟩
  have hc:v'.cells.size=n:=by have:=hv.cells.length;simp at this;omega
  simp[Instr.storeAt,Instr.sureAddr,storeVar,A6 hn,hc,h1]
def MF(P:Program)(ρ:BD)(s:AE)(w:World)(sem:Sem Value)(o:BC)(m:Made):Prop:=
 ∃v' w' ρ',sem.run P w=.ok v' w'∧AY ρ' (m.val s.next) v'∧BO P ρ' (newObj s o) w'∧Fr ρ s w ρ' (newObj s o) w'
theorem UG(h:BO P ρ s w)(hf:ρ s.next=none){e:TypeId}{o:BC}{m:Made}(hs:Ac P e=some (o,m)):
  MF P ρ s w (Instr.alloc e true (.tuple #[])) o m:=by
 unfold Ac at hs
 simp only[qv]at hs
 obtain⟨z,hz,hs⟩:=hs
 injection hs with hs
 injection hs with h1 h2
 subst h1;subst h2
 obtain⟨z',hz',hzr⟩:=Ij (w:=w) ρ hz
 obtain⟨ρ',h1,h2,h3⟩:=G6 h hf (e:=e) (sz:=0) hzr.cells
 exact⟨.pointer (some ⟨w.heap.size,0,none⟩),_,ρ',by simp[Instr.alloc,hz',newVar,newRow],AY.ptr h1,h2,h3⟩
theorem ak(h:BO P ρ s w)(hf:ρ s.next=none){e:TypeId}{v:AV}{v':Value}{o:BC}{m:Made}(hs:Bf e v=some (o,m))(hv:AY ρ v v'):
  MF P ρ s w (Instr.box e v') o m:=by
 unfold Bf at hs
 injection hs with hs
 injection hs with h1 h2
 subst h1;subst h2
 obtain⟨ρ',h1,h2,h3⟩:=G6 h hf (e:=e) (sz:=0) hv.cells
 exact⟨.pointer (some ⟨w.heap.size,0,none⟩),_,ρ',by simp[Instr.box,newVar,newRow],AY.ptr h1,h2,h3⟩
theorem SF(h:BO P ρ s w)(hf:ρ s.next=none)(t kt:TypeId):MF P ρ s w (Instr.makeMap t none) (.map kt []) .map:=by
 have hle:=BZ (rb:=⟨w.heap.size,0,0,0⟩) hf
 obtain⟨h1,h2⟩:=h.new (o:=.map kt []) (o':=.map #[] 0) (rb:=⟨w.heap.size,0,0,0⟩) hf rfl ⟨#[],0,World.alloc_heap_new w _,MapKept.stamped_empty 0,⟨[],.refl _,.nil⟩,by simp⟩
 exact⟨.map (some w.heap.size),_,_,by simp[Instr.makeMap,newObj],AY.map (Aa _ _),h1,h2⟩
theorem Kt       {place : Nat → Option (Nat × Nat)} {place' : Nat → Option (Nat × Nat)} (hp : ∀ i p, place i = some p → place' i = some p) :
    ∀ {parts:List (Nat×AV)} {parts':List (Nat×Value)} {cs l:List AV} {cs':Array Value},Ks place cs parts=some l→AT ρ cs cs'.toList →
      (parts.map (·.1)=parts'.map (·.1))→AT ρ (parts.map (·.2)) (parts'.map (·.2))→∃l',Instr.fill place' cs' parts'=some l'∧AT ρ l l'.toList:=by
  intro parts
  induction parts with
  | nil =>
    intro parts' cs l cs' h hc hm hv
    cases parts' with
    | nil=>simp[Ks]at h;subst h;exact⟨cs',rfl,hc⟩
    | cons=>simp at hm
  | cons p rest ih =>
    intro parts' cs l cs' h hc hm hv
    cases parts' with
    | nil=>simp at hm
    | cons p' rest' =>
      obtain⟨i,v⟩:=p
      obtain⟨i',v'⟩:=p'
      simp only[sa,List.cons.injEq]at hm
      obtain⟨hi,hm⟩:=hm
      skip
      subst hi
      simp only[sa]at hv
      cases hv with
      | cons hv hvs =>
        simp only[Ks,qv]at h
        obtain⟨q,hq,h⟩:=h
        obtain⟨hb,h⟩:=AD h
        simp only[Bool.and_eq_true,rC]at hb
        obtain⟨hb1,hb2⟩:=hb
        have hb1:=Ao hb1
        have hvc:=hv.cells
        have hvl:=hvc.length
        have hcl:=hc.length
        simp only[Array.length_toList]at hvl hcl
        have hnew:AT ρ (cs.take q.1++(v.cells++cs.drop (q.1+v.cells.length)))
            (v'.cells.zipIdx.foldl (fun cs (c,j)=>cs.setIfInBounds (q.1+j) c) cs').toList:=by
          have e:(v'.cells.zipIdx.foldl (fun cs (c,j)=>cs.setIfInBounds (q.1+j) c) cs').toList=cs'.toList.take q.1++(v'.cells.toList++cs'.toList.drop (q.1+v.cells.length)):=by
            have key:∀ (l:List Value) (k:Nat) (a:Array Value),q.1+k+l.length≤a.size →
                ((l.zipIdx k).foldl (fun cs (x:Value×Nat)=>cs.setIfInBounds (q.1+x.2) x.1) a).toList=a.toList.take (q.1+k)++(l++a.toList.drop (q.1+k+l.length)):=by
              intro l
              induction l with
              | nil=>intro k a _;simp
              | cons x l ihl =>
                intro k a hk
                simp only[rn]at hk
                rw[List.zipIdx_cons,List.foldl_cons,ihl (k+1) _ (by simp;omega)]
                simp only[Array.toList_setIfInBounds,rn]
                have e:=list_seg_step a.toList (q.1+k) x l (by simp;omega)
                simpa[re,rZ]using e
            have:=key v'.cells.toList 0 cs' (by simp;omega)
            simp only[rO]at this
            rw[← Array.foldl_toList,Array.toList_zipIdx]
            rw[hvl]
            simpa using this
          rw[e]
          exact(hc.take _).append (hvc.append (hc.drop _))
        obtain⟨l',h1,h2⟩:=ih h hnew hm hvs
        refine⟨l',?_,h2⟩
        have hpq:=hp i q hq
        obtain⟨o,n⟩:=q
        simp only[Instr.fill,hpq]
        have c1:¬ (v'.cells.size≠n∨o+v'.cells.size > cs'.size):=by simp only at hb1 hb2;omega
        have:(decide (v'.cells.size≠n) || decide (o+v'.cells.size > cs'.size))=false:=by
          rw[Bool.eq_false_iff];intro hh;apply c1;simpa using hh
        simp only[this]
        exact h1
theorem HM:∀ {fs:List Field}{l:List (Nat×Nat)},E0 P fs=some l →
  ∀w:World,((fs.mapM fun f=>do pure (f.offset,← sizeOf f.type):Sem (List (Nat×Nat)))).run P w=.ok l w
 | [],l,h,w=>by simp[E0]at h;subst h;rfl
 | f::fs,l,h,w=>by
  simp only[E0,qv]at h
  obtain⟨n,hn,r,hr,h⟩:=h
  injection h with h
  subst h
  have ih:=HM hr w
  simp only[tP,Sem.run_bind,A6 hn,Sem.run_pure,Result.andThen_ok,ih]
theorem UK{t:TypeId}{parts:List (Nat×AV)}{parts':Array (Nat×Value)}{v:AV}(h:B7 P t parts=some v)
  (hm:parts.map (·.1)=parts'.toList.map (·.1)) (hv:AT ρ (parts.map (·.2)) (parts'.toList.map (·.2))) (w:World):
  ∃v',(Instr.build t parts').run P w=.ok v' w∧AY ρ v v':=by
 unfold B7 at h
 simp only[qv]at h
 obtain⟨z,hz,h⟩:=h
 obtain⟨z',hz',hzr⟩:=Ij (w:=w) ρ hz
 split at h<;>first | (cases h;done) | skip
 ·rename_i fields hf
  simp only[qv]at h
  obtain⟨places,hpl,l,hl,h⟩:=h
  injection h with h
  subst h
  have hpl':=HM hpl w
  obtain⟨l',h1,h2⟩:=Kt (place':=fun i=>(places.toArray)[i]?) (fun i p hp=>by simpa using hp) hl hzr.cells hm hv
  refine⟨.agg l',?_,.agg h2⟩
  have hma:(fields.mapM fun f=>do pure (f.offset,← sizeOf f.type):Sem (Array (Nat×Nat))).run P w=.ok places.toArray w:=by
   rw[Array.mapM_eq_mapM_toList,Sem.run_map,hpl']
   rfl
  simp only[Instr.build,Sem.run_bind,hz',Result.andThen_ok,AJ hf,hma,h1,Sem.run_pure]
 ·rename_i len e hf
  simp only[qv]at h
  obtain⟨n,hn,l,hl,h⟩:=h
  injection h with h
  subst h
  obtain⟨l',h1,h2⟩:=Kt (place':=fun i=>some (i * n,n)) (fun i p hp=>hp) hl hzr.cells hm hv
  refine⟨.agg l',?_,.agg h2⟩
  simp only[Instr.build,Sem.run_bind,hz',Result.andThen_ok,AJ hf,A6 hn,h1,Sem.run_pure]
theorem N7      {z : AV} {z' : Value} {n c : Nat} (hz : AY   ρ z z') (hl : z.cells.length = n) :
    AT ρ (SQ z.cells c) (((Array.range (c * n)).map (z'.cells[· % z'.cells.size]!)).toList):=by
  have hc:=hz.cells
  have hlen:z'.cells.size=n:=by have:=hc.length;simp at this;omega
  have hrl:∀c,(SQ z.cells c).length=c * n:=by
    intro c
    induction c with
    | zero=>simp[SQ]
    | succ c ih=>simp[SQ,ih,hl,rK];omega
  have hrg:∀ (c k:Nat),k<c * n→(SQ z.cells c)[k]? = z.cells[k % n]? := by
    intro c
    induction c with
    | zero=>intro k hk;omega
    | succ c ih =>
      intro k hk
      simp only[SQ]
      by_cases h1:k<n
      · rw[sH (by omega),rv h1]
      · rw [sI                         (by omega), hl, ih (k - n) (by rw [rK]           at hk; omega)]
        rw[← Nat.mod_eq_sub_mod (by omega)]
  refine AT.of_get (by simp[hrl]) ?_
  intro k v v' hv hv'
  have hk:k<c * n:=by
    rcases qz k (c * n)with h | h
    · exact h
    · rw[rI (by rw[hrl];omega)]at hv;cases hv
  have hn:0<n:=by
    rcases sE n with h | h
    · subst h;simp at hk
    · exact h
  rw[hrg c k hk]at hv
  obtain⟨u,h1,h2⟩:=hc.get hv
  have:v'=u:=by
    rw[Array.getElem?_toList,Array.getElem?_map,Array.getElem?_range]at hv'
    rw[if_pos hk]at hv'
    simp only[sb]at hv'
    injection hv' with hv'
    rw[← hv',hlen]
    rw[Array.getElem?_toList]at h1
    rw[getElem!_def,h1]
  rw[this]
  exact h2
theorem OH(h:BO P ρ s w)(hf:ρ s.next=none){t:TypeId}{len:Nat}{parts:List (Nat×AV)}{parts':Array (Nat×Value)}{o:BC}(hs:Af P t len parts=some o)
  (hm:parts.map (·.1)=parts'.toList.map (·.1)) (hv:AT ρ (parts.map (·.2)) (parts'.toList.map (·.2))):
  MF P ρ s w (Instr.buildSlice t len parts') o (.slice len):=by
 unfold Af at hs
 split at hs<;>first | (cases hs;done) | skip
 rename_i e he
 simp only[qv]at hs
 obtain⟨n,hn,hs⟩:=hs
 obtain⟨hb,hs⟩:=AD hs
 have hb:len * n≤16777216:=by simpa[rC]using hb
 simp only[qv]at hs
 obtain⟨z,hz,hs⟩:=hs
 obtain⟨hc,hs⟩:=AD hs
 simp only[qv]at hs
 obtain⟨l,hl,hs⟩:=hs
 injection hs with hs
 subst hs
 obtain⟨z',hz',hzr⟩:=Ij (w:=w) ρ hz
 have hz2:=N7 (c:=len) hzr (Ao hc)
 obtain⟨l',h1,h2⟩:=Kt (place':=fun i=>some (i * n,n)) (fun i p hp=>hp) hl hz2 hm hv
 obtain⟨ρ',g1,g2,g3⟩:=G6 h hf (e:=e) (sz:=n) h2
 refine⟨.slice (some ⟨w.heap.size,0,none⟩) len len,_,ρ',?_,AY.slice g1 (qw _),g2,g3⟩
 have hbig:¬ len * n > 2 ^ 24:=by omega
 by_cases h0:len * n=0
 ·have hr0:Array.range 0=#[]:=by simp
  rw[h0,hr0]at h1
  simp only[Array.map_empty]at h1
  simp[Instr.buildSlice,AJ he,A6 hn,h0,hr0,h1,newRow]
 ·simp[Instr.buildSlice,AJ he,A6 hn,hbig,h0,hz',h1,newRow]
theorem L9(h:BO P ρ s w)(hf:ρ s.next=none){t:TypeId}{l c:AV}{l' c':Value}{o:BC}{m:Made}(hs:CW P t l c=some (o,m))
  (hl:AY ρ l l') (hc:AY ρ c c'):MF P ρ s w (Instr.makeSlice t l' c') o m:=by
 unfold CW at hs
 split at hs<;>first | (cases hs;done) | skip
 rename_i e l0 c0 he
 cases hl;cases hc
 simp only[qv]at hs
 obtain⟨by_,hby,n,hn,hs⟩:=hs
 obtain⟨hb,hs⟩:=AD hs
 simp only[Bool.and_eq_true,rC]at hb
 obtain⟨⟨hlc,hb1⟩,hb2⟩:=hb
 have hlc:=Ao hlc
 subst hlc
 simp only[qv]at hs
 obtain⟨z,hz,hs⟩:=hs
 obtain⟨hc,hs⟩:=AD hs
 injection hs with hs
 injection hs with hs1 hs2
 subst hs1;subst hs2
 obtain⟨z',hz',hzr⟩:=Ij (w:=w) ρ hz
 have hz2:=N7 (c:=l0) hzr (Ao hc)
 obtain⟨i,hi,hi2⟩:=Uq (w:=w) hby
 obtain⟨ρ',g1,g2,g3⟩:=G6 h hf (e:=e) (sz:=n) hz2
 refine⟨.slice (some ⟨w.heap.size,0,none⟩) l0 l0,_,ρ',?_,AY.slice g1 (qw _),g2,g3⟩
 have hw:IntKind.i64.wrap (l0:Int)=(l0:Int):=KL (k:=.i64) (n:=Int.ofNat l0) (by simp[By,rC];omega)
 have hmul:((by_:Int) * (l0:Int))≤1099511627776:=by
  have:((by_ * l0:Nat):Int)≤1099511627776:=by omega
  simpa using this
 have h1:¬ ((l0:Int)<0):=by omega
 have h2:¬ ((i.bytes:Int) * (l0:Int) > 2 ^ 48):=by rw[hi2];omega
 have h3:¬ ((281474976710656:Int)<(i.bytes:Int) * (l0:Int)):=by omega
 by_cases h0:l0 * n=0
 ·have hr0:Array.range 0=#[]:=by simp
  simp[Instr.makeSlice,AJ he,asInt,asIntOf,hi,hw,h1,h3,A6 hn,h0,newRow,hr0]
 ·simp[Instr.makeSlice,AJ he,asInt,asIntOf,hi,hw,h1,h3,A6 hn,h0,hz',newRow]
end
end
end Go.Proofs.YtjnkfbpadpmakaaGreatDoor.Am
