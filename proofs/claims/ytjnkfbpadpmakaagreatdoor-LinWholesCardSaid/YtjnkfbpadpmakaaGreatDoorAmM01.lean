/- Binary tries over Nat keys, made for evaluation by the kernel: get, set, and their laws; conditions: none. -/
import GoSem.Dispatch
import GoSem.ClaimKeys
import Derived.DeepKeys2
import Derived.CallsIn
import Derived.Laws.Sem
import Derived.MapKept
import Derived.Laws.Entries
import Derived.Laws.Slices
import Derived.Laws.Strings
import Derived.Lib.Hide
import Derived.Laws.CopyRow
import Derived.Laws.Cells
import Derived.RangeFuncRecord
import Derived.Below
namespace Go.Proofs.YtjnkfbpadpmakaaGreatDoor.Am
noncomputable section
abbrev xY := @Option.bind_eq_some_iff
abbrev xZ := @Nat.le_refl
abbrev xe := @List.getElem?_eq_getElem
abbrev xf := @Nat.lt_or_ge
abbrev xg := @Nat.zero_le
abbrev xh := @Nat.le_trans
abbrev xi := @Nat.lt_of_lt_of_le
abbrev xj := @Nat.mul_one
abbrev xo := @Nat.ble_eq
abbrev xp := @List.length_append
abbrev xr := @List.getElem?_eq_none
abbrev xu := @Nat.zero_add
abbrev xw := @Nat.mul_assoc
abbrev xy := @Nat.mul_comm
abbrev xz := @List.length_take
abbrev yA := @Nat.mul_le_mul_right
abbrev yB := @Nat.mul_add
abbrev yC := @List.mem_cons_self
abbrev yD := @Nat.eq_of_beq_eq_true
abbrev yE := @List.length_map
abbrev yF := @Nat.add_zero
abbrev yG := @List.mem_of_getElem?
abbrev yH := @Nat.add_mul
abbrev yI := @Nat.blt_eq
abbrev yJ := @Nat.pow_succ
abbrev yK := @List.mem_cons_of_mem
abbrev yL := @List.length_drop
abbrev yM := @Nat.lt_of_le_of_lt
abbrev yN := @Nat.succ_mul
abbrev yO := @Nat.mul_zero
abbrev yP := @Nat.mod_lt
abbrev yQ := @List.drop_eq_nil_of_le
abbrev yR := @Nat.add_assoc
abbrev yS := @Nat.mod_eq_of_lt
abbrev yT := @Nat.pow_le_pow_right
abbrev yU := @List.length_cons
abbrev yV := @List.drop_eq_getElem_cons
abbrev yW := @List.append_assoc
abbrev yX := @Nat.eq_zero_or_pos
abbrev yY := @List.getElem?_map
abbrev yZ := @Nat.mul_le_mul_left
abbrev ya := @Nat.le_of_eq
abbrev ye := @Nat.one_mul
abbrev yf := @List.getElem?_append_left
abbrev yg := @Nat.lt_succ_self
abbrev yh := @Nat.mul_le_mul
abbrev yi := @List.getElem?_append_right
abbrev yj := @Nat.div_le_self
abbrev yn := @List.getElem?_drop
abbrev yo := @Nat.zero_mul
abbrev yp := @Nat.le_succ
abbrev yq := @List.take_of_length_le
abbrev yr := @List.map_map
abbrev yt := @Nat.pow_pos
abbrev yu := @Nat.div_lt_iff_lt_mul
abbrev yv := @Nat.min_eq_left
abbrev yw := @List.map_cons
abbrev yx := @List.drop_zero
abbrev yy := @List.getElem?_take_of_lt
abbrev yz := @List.length_set
abbrev zA := @Nat.mul_pos
abbrev zB := @List.take_append_drop
abbrev zC := @List.drop_drop
abbrev zD := @List.take_zero
abbrev zE := @Nat.div_eq_of_lt
abbrev zF := @List.set_cons_zero
abbrev zG := @List.getD_eq_getElem?_getD
abbrev zH := @Nat.add_sub_cancel
abbrev zI := @Nat.add_comm
abbrev zJ := @Nat.beq_eq
abbrev zK := @Option.map_some
abbrev zL := @Nat.mul_ne_zero
abbrev zM := @Nat.le_mul_of_pos_left
abbrev zN := @List.eq_nil_of_length_eq_zero
abbrev zO := @Nat.pow_add
abbrev zP := @List.take_length
abbrev zQ := @List.getElem_mem
abbrev zR := @List.getElem?_set_ne
abbrev zS := @List.append_nil
abbrev zT := @Nat.div_lt_self
abbrev zU := @Nat.lt_of_mul_lt_mul_right
abbrev zV := @List.length_zip
abbrev zW := @List.mem_append_left
abbrev zX := @List.zip_cons_cons
abbrev zY := @List.length_nil
abbrev zZ := @Nat.mod_mod
abbrev ze := @Nat.mul_div_cancel_left
abbrev zf := @Int.natAbs_mul
abbrev zg := @Int.natAbs_natCast
abbrev zh := @List.map_take
abbrev zi := @Nat.sub_self
abbrev zj := @List.map_append
abbrev zk := @Nat.lt_succ_of_lt
abbrev zo := @Nat.lt_trichotomy
abbrev zp := @List.getElem?_take
abbrev zq := @List.nil_append
abbrev zr := @Nat.lt_trans
abbrev zs := @Nat.mod_add_div
abbrev zt := @Nat.min_self
abbrev zv := @Nat.gcd_comm
abbrev zw := @List.mapM_cons
abbrev zx := @List.mem_append
abbrev zy := @List.drop_left'
abbrev zz := @Int.natCast_mul
abbrev A0A := @Nat.mul_left_comm
abbrev A0B := @List.mem_of_mem_drop
abbrev A0C := @Nat.gcd_dvd_left
abbrev A0D := @List.take_succ_eq_append_getElem
abbrev A0E := @Int.ofNat_eq_natCast
abbrev A0F := @List.getElem?_range
abbrev A0G := @Nat.mul_lt_mul_of_pos_right
abbrev A0H := @List.mem_singleton
abbrev A0I := @List.drop_append_of_le_length
abbrev A0J := @List.getElem?_set_self
abbrev A0K := @List.mem_of_mem_take
abbrev A0L := @List.take_succ_cons
abbrev A0M := @Nat.pos_of_ne_zero
abbrev A0N := @List.take_append_of_le_length
abbrev A0O := @Nat.eq_zero_of_gcd_eq_zero_right
inductive AZ (α:Type) where
 | leaf
 | node (v:Option α) (l r:AZ α)
namespace AZ
variable{α:Type}
def get:AZ α→Nat→Option α
 | .leaf,_=>none
 | .node v l r,k=>match k with
  | 0=>v
  | k+1=>bif Nat.beq (k % 2) 0 then l.get (k / 2)else r.get (k / 2)
def val:AZ α→Option α
 | .leaf=>none
 | .node v _ _=>v
def left:AZ α→AZ α
 | .leaf=>.leaf
 | .node _ l _=>l
def right:AZ α→AZ α
 | .leaf=>.leaf
 | .node _ _ r=>r
def qn(v:Option α)(l r:AZ α):AZ α:=
 match l with
 | .leaf=>.node v .leaf r
 | .node x a b=>.node v (.node x a b) r
def qo(v:Option α)(l r:AZ α):AZ α:=
 match r with
 | .leaf=>.node v l .leaf
 | .node x a b=>.node v l (.node x a b)
def setF(v:Option α):Nat→AZ α→Nat→AZ α
 | 0,t,_=>t
 | f+1,t,k=>match k with
  | 0=>.node v t.left t.right
  | k+1=>bif Nat.beq (k % 2) 0 then qn t.val (setF v f t.left (k / 2)) t.right
   else qo t.val t.left (setF v f t.right (k / 2))
def put(t:AZ α)(k:Nat)(v:Option α):AZ α:=setF v (k+1) t k
def set(t:AZ α)(k:Nat)(v:α):AZ α:=t.put k (some v)
def del(t:AZ α)(k:Nat):AZ α:=t.put k none
theorem beq_no{a b:Nat}(h:¬ a=b):Nat.beq a b=false:=by
 cases e:Nat.beq a b with
 | false=>rfl
 | true=>exact absurd (yD e) h
theorem nodeL_eq(v:Option α)(l r:AZ α):qn v l r=.node v l r:=by cases l<;>rfl
theorem nodeR_eq(v:Option α)(l r:AZ α):qo v l r=.node v l r:=by cases r<;>rfl
theorem MB(t:AZ α):t.get 0=t.val:=by cases t<;>rfl
theorem D7(t:AZ α)(k:Nat):t.get (k+1)=if k % 2=0 then t.left.get (k / 2)else t.right.get (k / 2):=by
 cases t with
 | leaf=>simp[get,left,right]
 | node v l r =>
  by_cases h:k % 2=0
  ·simp[get,left,h]
  ·have:Nat.beq (k % 2) 0=false:=beq_no h
   simp[get,right,h,this]
def mapO{β:Type}(f:α→Option β):AZ α→AZ β
 | .leaf=>.leaf
 | .node v l r=>.node (v.bind f) (mapO f l) (mapO f r)
theorem get_mapO{β:Type}(f:α→Option β):∀ (t:AZ α)(k:Nat),(t.mapO f).get k=(t.get k).bind f
 | .leaf,_=>rfl
 | .node v l r,0=>rfl
 | .node v l r,k+1=>by
  show(bif Nat.beq (k % 2) 0 then (mapO f l).get (k / 2)else (mapO f r).get (k / 2))=(bif Nat.beq (k % 2) 0 then l.get (k / 2)else r.get (k / 2)).bind f
  cases Nat.beq (k % 2) 0 with
  | true=>exact get_mapO f l (k / 2)
  | false=>exact get_mapO f r (k / 2)
theorem fP       (v : Option α) : ∀ (f : Nat) (t : AZ   α) (k j : Nat), k < f → (setF v f t k).get j = if j = k then v else t.get j := by
  intro f
  induction f with
  | zero=>intro t k j h;omega
  | succ f ih =>
    intro t k j h
    cases k with
    | zero =>
      cases j with
      | zero=>simp[setF,MB,val]
      | succ j=>simp[setF,D7,left,right]
    | succ k =>
      by_cases hk:k % 2=0
      · have hb:Nat.beq (k % 2) 0=true:=by rw[hk];rfl
        simp only[setF,hb,cond_true,nodeL_eq]
        cases j with
        | zero=>simp[MB,val]
        | succ j =>
          by_cases hj:j % 2=0
          · rw[D7,D7,if_pos hj,if_pos hj]
            simp only[left]
            rw[ih _ _ _ (by omega)]
            by_cases e:j=k
            · subst e;simp
            · rw[if_neg (by omega),if_neg (by omega)]
          · rw[D7,D7,if_neg hj,if_neg hj,if_neg (by omega)]
            simp only[right]
      · have hb:Nat.beq (k % 2) 0=false:=beq_no hk
        simp only[setF,hb,cond_false,nodeR_eq]
        cases j with
        | zero=>simp[MB,val]
        | succ j =>
          by_cases hj:j % 2=0
          · rw[D7,D7,if_pos hj,if_pos hj,if_neg (by omega)]
            simp only[left]
          · rw[D7,D7,if_neg hj,if_neg hj]
            simp only[right]
            rw[ih _ _ _ (by omega)]
            by_cases e:j=k
            · subst e;simp
            · rw[if_neg (by omega),if_neg (by omega)]
theorem V2(t:AZ α)(k j:Nat)(v:Option α):(t.put k v).get j=if j=k then v else t.get j:=fP v _ t k j (by omega)
theorem get_set(t:AZ α)(k j:Nat)(v:α):(t.set k v).get j=if j=k then some v else t.get j:=V2 t k j _
theorem get_del(t:AZ α)(k j:Nat):(t.del k).get j=if j=k then none else t.get j:=V2 t k j _
def fill(t:AZ α)(k:Nat):List α→AZ α
 | []=>t
 | v::l=>fill (t.set k v) (k+1) l
theorem get_fill(l:List α):∀ (t:AZ α)(k j:Nat),(t.fill k l).get j=if k≤j∧j<k+l.length then l[j - k]? else t.get j:=by
  induction l with
  | nil=>intro t k j;simp[fill];omega
  | cons v l ih =>
    intro t k j
    simp only[fill,ih,get_set,yU]
    by_cases h1:k+1≤j∧j<k+1+l.length
    · rw [if_pos h1, if_pos (by omega), show j - k = (j - (k + 1)) + 1 from by omega]
      rfl
    · rw[if_neg h1]
      by_cases h2:j=k
      · subst h2;simp
      · rw[if_neg h2,if_neg (by omega)]
def take(t:AZ α)(k:Nat):Nat→Option (List α)
 | 0=>some []
 | n+1=>match t.get k with
  | none=>none
  | some v=>match take t (k+1) n with
   | none=>none
   | some l=>some (v::l)
theorem take_length{t:AZ α}{k n:Nat}{l:List α}(h:t.take k n=some l):l.length=n:=by
  induction n generalizing k l with
  | zero=>simp[take]at h;subst h;rfl
  | succ n ih =>
    simp only[take]at h
    split at h
    · cases h
    · split at h
      · cases h
      · rename_i h2;injection h with h;subst h;simp[ih h2]
theorem take_get {t : AZ   α} {k n : Nat} {l : List α} (h : t.take k n = some l) (j : Nat) (hj : j < n) : t.get (k + j) = l[j]? := by
  induction n generalizing k l j with
  | zero=>omega
  | succ n ih =>
    simp only[take]at h
    split at h
    · cases h
    · rename_i v hv
      split at h
      · cases h
      · rename_i l' h2
        injection h with h
        subst h
        cases j with
        | zero=>simpa using hv
        | succ j=>rw[show k+(j+1)=k+1+j from by omega,ih h2 j (by omega)];rfl
end AZ
end
end Go.Proofs.YtjnkfbpadpmakaaGreatDoor.Am
namespace Go.Proofs.YtjnkfbpadpmakaaGreatDoor.Am
open Go
noncomputable section
inductive AV where
 | bool (b:Bool)
 | int (k:IntKind) (n:Int)
 | str (s:List Nat)
 | ptr (a:Option (Nat×Nat))
 | gptr (g o:Nat)
 | slice (a:Option (Nat×Nat)) (len:Nat) (cap:Option Nat)
 | map (r:Option Nat)
 | func (f:FuncId) (first cap:List AV)
 | yield (l:Nat)
 | nilFunc
 | iface (t:TypeId) (v:AV)
 | nilIface
 | agg (cs:List AV)
 | tuple (vs:List AV)
 | junk
def BZ:AV:=.tuple []
def AV.cells:AV→List AV
 | .agg cs=>cs
 | v=>[v]
def AV.isCell:AV→Bool
 | .agg _ | .tuple _ | .junk=>false
 | _=>true
def An:List AV→Bool
 | []=>true
 | v::l=>v.isCell && An l
inductive kV where
 | ro | own | sealed
structure D2 where
 elem:TypeId
 sz:Nat
 n:Nat
 c:AZ AV
 spare:Bool
 mode:kV
 par:Option Nat
 bytes:Bool
 glob:Option Nat:=none
inductive CX where
 | loc (i:Nat)
 | var (j:Nat)
 | const (v:AV)
inductive Made where
 | ptr | slice (n:Nat) | map
structure Df where
 state:LoopState
 pending:Option Code
 fn:FuncId
 var:List AV
 params:Array Tmp
 assign:Code
 body:Code
 dfr:Nat
inductive BD where
 | row (r:D2)
 | map (kt:TypeId) (es:List (AV×AV))
 | mapRo (kt:TypeId) (es:List (AV×AV))
 | loop (l:Df)
 | mark
 | iter (s:List Nat) (pos:Nat)
structure AE where
 next:Nat
 heap:AZ BD
def JH:Value→Option AV
 | .bool b=>some (.bool b)
 | .int k n=>some (.int k n)
 | .string s=>some (.str (s.data.toList.map (fun(b:UInt8)=>b.toNat)))
 | .pointer none=>some (.ptr none)
 | .slice none 0 0=>some (.slice none 0 (some 0))
 | .map none=>some (.map none)
 | .nilFunc=>some .nilFunc
 | .nilIface=>some .nilIface
 | _=>none
def FA:List Value→Option (List AV)
 | []=>some []
 | v::l=>(JH v).bind fun a=>(FA l).bind fun r=>some (a::r)
def ofValue:Value→Option AV
 | .agg cs=>(FA cs.toList).bind fun l=>some (.agg l)
 | .tuple vs=>(FA vs.toList).bind fun l=>some (.tuple l)
 | v=>JH v
def AP{α:Type}(b:Bool)(x:Option α):Option α:=bif b then x else none
def DI{α:Type}(P:Program):Sem α→Option α
 | .pure a=>some a
 | .program k=>DI P (k P)
 | .mark _ k=>DI P k
 | _=>none
def CB(k:IntKind):Int→Bool
 | .ofNat m=>match k with
  | .i64=>Nat.ble m 9223372036854775807
  | .u64=>Nat.ble m 18446744073709551615
  | .i32=>Nat.ble m 2147483647
  | .u32=>Nat.ble m 4294967295
  | .u8=>Nat.ble m 255
  | .i8=>Nat.ble m 127
  | .u16=>Nat.ble m 65535
  | .i16=>Nat.ble m 32767
 | .negSucc m=>match k with
  | .i64=>Nat.ble m 9223372036854775807
  | .i32=>Nat.ble m 2147483647
  | .i8=>Nat.ble m 127
  | .i16=>Nat.ble m 32767
  | _=>false
def DT(k:IntKind)(n:Int):Int:=bif CB k n then n else k.wrap n
def NE:Int→Int→Bool
 | .ofNat a,.ofNat b=>Nat.blt a b
 | .ofNat _,.negSucc _=>false
 | .negSucc _,.ofNat _=>true
 | .negSucc a,.negSucc b=>Nat.blt b a
def NF:Int→Int→Bool
 | .ofNat a,.ofNat b=>Nat.beq a b
 | .negSucc a,.negSucc b=>Nat.beq a b
 | _,_=>false
def WB:Int→Option Nat
 | .ofNat m=>some m
 | .negSucc _=>none
def DZ:List Nat→List Nat→Bool
 | [],[]=>true
 | a::x,b::y=>bif Nat.beq a b then DZ x y else false
 | _,_=>false
def HR:List Nat→List Nat→Bool
 | _,[]=>false
 | [],_::_=>true
 | a::x,b::y=>bif Nat.blt a b then true else bif Nat.beq a b then HR x y else false
def WQ(op:BinOp)(x y:List Nat):Option AV:=
 match op with
 | .add=>AP (Nat.ble (x.length+y.length) 1152921504606846976) (some (.str (x++y)))
 | .eql=>some (.bool (DZ x y))
 | .neq=>some (.bool (!DZ x y))
 | .lss=>some (.bool (HR x y))
 | .leq=>some (.bool (HR x y || DZ x y))
 | .gtr=>some (.bool (!(HR x y || DZ x y)))
 | .geq=>some (.bool (!HR x y))
 | _=>none
def EF(P:Program)(t:TypeId):Option Bool:=
 match P.underlying t with
 | some (.struct _) | some (.array _ _)=>some true
 | some _=>some false
 | none=>none
def BG(P:Program)(t:TypeId):Option Nat:=match P.info? t with
 | some i=>some i.size
 | none=>none
def EE(P:Program)(t:TypeId):Option AV:=match P.info? t with
 | some i=>match i.zero with
  | some v=>ofValue v
  | none=>none
 | none=>none
def DL(P:Program)(t:TypeId):Option Nat:=match P.info? t with
 | some i=>some i.bytes
 | none=>none
def rowAt(s:AE)(i:Nat):Option D2:=match s.heap.get i with
 | some (.row r)=>some r
 | _=>none
def newObj(s:AE)(o:BD):AE:={ next:=s.next+1,heap:=s.heap.set s.next o }
def F2(elem:TypeId)(sz:Nat)(cells:List AV):BD:=
 .row { elem,sz,n:=cells.length,c:=AZ.fill .leaf 0 cells,spare:=false,mode:=.own,par:=none,bytes:=true }
def setObj(s:AE)(i:Nat)(o:BD):AE:={ s with heap:=s.heap.set i o }
def Cc(s:AE)(i:Nat):AE:={ s with heap:=s.heap.del i }
def CI(s:AE)(i off n:Nat):Option (List AV):=
 (rowAt s i).bind fun r=>AP (Nat.ble (off+n) r.n) (r.c.take off n)
def DA(s:AE)(i off:Nat):Option AV:=
 (rowAt s i).bind fun r=>AP (Nat.blt off r.n) (r.c.get off)
def BS(s:AE)(i:Nat)(r:D2):AE:=match r.par with
 | none=>s
 | some p=>bif Nat.beq p i then s else Cc s p
def D8:kV→Bool
 | .own=>true
 | _=>false
def Cv(s:AE)(i off:Nat)(vs:List AV):Option AE:=
 match vs with
 | []=>some s
 | _::_=>(rowAt s i).bind fun r =>
  AP (D8 r.mode && Nat.ble (off+vs.length) r.n && An vs)
   (some (setObj (BS s i r) i (.row { r with c:=r.c.fill off vs,par:=none })))
def PO(s:AE)(g:Nat):Option D2:=(rowAt s g).bind fun r=>match r.glob with
 | some g'=>AP (Nat.beq g' g) (some r)
 | none=>none
def AC(P:Program)(s:AE)(t:TypeId):AV→Option AV
 | .gptr i o=>(PO s i).bind fun _=>(EF P t).bind fun g=>match g with
  | true=>(BG P t).bind fun n=>(CI s i o n).bind fun l=>some (.agg l)
  | false=>DA s i o
 | .ptr (some (i,o))=>(EF P t).bind fun g=>match g with
  | true=>(BG P t).bind fun n=>(CI s i o n).bind fun l=>some (.agg l)
  | false=>DA s i o
 | _=>none
def AS(P:Program)(s:AE)(t:TypeId)(a v:AV):Option AE:=
 match a with
 | .ptr (some (i,o))=>(BG P t).bind fun n=>AP (Nat.beq v.cells.length n) (Cv s i o v.cells)
 | _=>none
def HA(P:Program)(t:TypeId):Bool:=match P.underlying t with
 | some (.pointer _)=>true
 | _=>false
def I7(P:Program)(t:TypeId):Bool:=match P.underlying t with
 | some (.slice _)=>true
 | _=>false
def Jz(P:Program)(t:TypeId):Bool:=match P.underlying t with
 | some (.map ..)=>true
 | _=>false
def I5(P:Program)(t:TypeId):Bool:=match P.underlying t with
 | some (.func ..)=>true
 | _=>false
def PP(P:Program)(t:TypeId):Bool:=match P.underlying t with
 | some .bool=>true
 | _=>false
def jZ(P:Program)(t:TypeId):AV→AV→Option Bool
 | .bool a,.bool b=>AP (PP P t) (some (a == b))
 | .ptr none,.ptr b=>AP (HA P t) (some b.isNone)
 | .ptr a,.ptr none=>AP (HA P t) (some a.isNone)
 | .slice none _ _,.slice b _ _=>AP (I7 P t) (some b.isNone)
 | .slice a _ _,.slice none _ _=>AP (I7 P t) (some a.isNone)
 | .map none,.map b=>AP (Jz P t) (some b.isNone)
 | .map a,.map none=>AP (Jz P t) (some a.isNone)
 | .nilFunc,.nilFunc=>AP (I5 P t) (some true)
 | .func ..,.nilFunc=>AP (I5 P t) (some false)
 | .nilFunc,.func ..=>AP (I5 P t) (some false)
 | _,_=>none
def B7:IntKind→IntKind→Bool
 | .i8,.i8 | .i16,.i16 | .i32,.i32 | .i64,.i64 | .u8,.u8 | .u16,.u16 | .u32,.u32 | .u64,.u64=>true
 | _,_=>false
def fS(P:Program)(op:BinOp)(k:IntKind)(a b:Int):Option AV:=
 match op with
 | .add=>some (.int k (DT k (a+b)))
 | .sub=>some (.int k (DT k (a - b)))
 | .mul=>some (.int k (DT k (a * b)))
 | .eql=>some (.bool (NF a b))
 | .neq=>some (.bool (!NF a b))
 | .lss=>some (.bool (NE a b))
 | .leq=>some (.bool (!NE b a))
 | .gtr=>some (.bool (NE b a))
 | .geq=>some (.bool (!NE a b))
 | .quo | .rem=>(DI P (Op.intDiv op k a b)).bind ofValue
 | .shl | .shr=>none
 | _=>(DI P (Op.intBits op k a b)).bind ofValue
def AL(P:Program)(op:BinOp)(t:TypeId)(x y:AV):Option AV:=
 match x,y with
 | .int k a,.int k' b=>match op with
  | .shl | .shr=>(DI P (Op.shift op k a k' b)).bind ofValue
  | _=>AP (B7 k k') (fS P op k a b)
 | .str a,.str b=>WQ op a b
 | x,y=>match op with
  | .eql=>(jZ P t x y).bind fun b=>some (.bool b)
  | .neq=>(jZ P t x y).bind fun b=>some (.bool (!b))
  | _=>none
def fV(P:Program)(t:TypeId):Bool:=match P.underlying t with
 | some (.pointer e)=>(match P.info? e with | some j=>!Nat.beq j.size 0 | none=>false)
 | _=>false
def Ia(s:AE)(i:Nat):Bool:=match rowAt s i with
 | some r=>D8 r.mode && r.par.isNone
 | none=>false
def J8(P:Program)(s:AE)(neg:Bool)(t:TypeId)(x y:AV):Option AV:=
 match x,y with
 | .ptr (some (i,o)),.ptr (some (j,q))=>AP (fV P t && Ia s i && Ia s j) (some (.bool ((Nat.beq i j && Nat.beq o q) != neg)))
 | x,y=>AL P (bif neg then .neq else .eql) t x y
def WT(P:Program)(op:UnOp):AV→Option AV
 | .int k n=>match op with
  | .neg=>some (.int k (DT k (0 - n)))
  | .xor=>(DI P (Op.unary .xor (.int k n))).bind ofValue
  | _=>none
 | .bool b=>match op with
  | .not=>some (.bool (!b))
  | _=>none
 | _=>none
def L7(place:Nat→Option (Nat×Nat))(cells:List AV):List (Nat×AV)→Option (List AV)
 | []=>some cells
 | (i,v)::rest=>(place i).bind fun p =>
  AP (Nat.beq v.cells.length p.2 && Nat.ble (p.1+v.cells.length) cells.length)
   (L7 place (cells.take p.1++(v.cells++cells.drop (p.1+v.cells.length))) rest)
def FL(P:Program):List Field→Option (List (Nat×Nat))
 | []=>some []
 | f::l=>(BG P f.type).bind fun n=>(FL P l).bind fun r=>some ((f.offset,n)::r)
def BT(P:Program)(t:TypeId)(parts:List (Nat×AV)):Option AV:=
 (EE P t).bind fun z=>match P.underlying t with
  | some (.struct fields)=>(FL P fields.toList).bind fun places =>
   (L7 (fun i=>places[i]?) z.cells parts).bind fun l=>some (.agg l)
  | some (.array _ e)=>(BG P e).bind fun n =>
   (L7 (fun i=>some (i * n,n)) z.cells parts).bind fun l=>some (.agg l)
  | _=>none
def NL(l:List AV):Nat→List AV
 | 0=>[]
 | n+1=>l++NL l n
def Ad(P:Program)(t:TypeId)(len:Nat)(parts:List (Nat×AV)):Option BD:=
 match P.underlying t with
 | some (.slice e)=>(BG P e).bind fun n=>AP (Nat.ble (len * n) 16777216) <|
  (EE P e).bind fun z=>AP (Nat.beq z.cells.length n) <|
   (L7 (fun i=>some (i * n,n)) (NL z.cells len) parts).bind fun l=>some (F2 e n l)
 | _=>none
def Ax(P:Program)(s:AE)(src dst:TypeId)(x:AV):Option AV:=
 match P.underlying src,P.underlying dst,x with
 | some _,some (.int k),.int _ n=>some (.int k (DT k n))
 | some _,some .string,.str l=>some (.str l)
 | some (.slice e),some .string,.slice a len _=>match P.underlying e with
  | some (.int .u8)=>match a with
   | none=>some (.str [])
   | some (i,o)=>(CI s i o len).bind fun l=>(bytesOf l).bind fun b=>some (.str b)
  | _=>none
 | some (.pointer u),some .unsafePointer,x=>seenPtr u x
 | some .unsafePointer,some (.pointer u),x=>seenPtr u x
 | _,_,_=>none
where
 seenPtr (u:TypeId):AV→Option AV
  | .ptr none=>some (.ptr none)
  | .ptr (some (i,o))=>(rowAt s i).bind fun r=>(BG P u).bind fun n =>
   AP (D8 r.mode && r.bytes && Nat.beq o 0 && Nat.beq r.elem u && Nat.ble n r.n && !Nat.beq n 0) (some (.ptr (some (i,o))))
  | _=>none
 bytesOf:List AV→Option (List Nat)
  | []=>some []
  | .int .u8 (.ofNat n)::l=>AP (Nat.blt n 256) ((bytesOf l).bind fun r=>some (n::r))
  | _::_=>none
def Ft:AV→Option Nat
 | .int _ n=>WB n
 | _=>none
def Bi(x:AV)(y:Nat):Option Nat:=(Ft x).bind fun i=>AP (Nat.ble i y) (some i)
def Bj(P:Program)(s:AE)(t:TypeId)(x:AV)(lo hi mx:Option AV):Option AV:=
 match x with
 | .str l=>(match mx with | some _=>none | none=>some ()).bind fun _ =>
  (match hi with | some h=>Bi h l.length | none=>some l.length).bind fun h =>
  (match lo with | some v=>Bi v h | none=>some 0).bind fun o =>
  (match P.underlying t with | some .string=>some () | _=>none).bind fun _=>some (.str ((l.drop o).take (h - o)))
 | .slice a len cap=>match P.underlying t with
  | some (.slice e)=>(BG P e).bind fun n =>
   (match cap with
    | some c=>some c
    | none=>match a with
     | none=>none
     | some (i,o)=>(rowAt s i).bind fun r=>AP (Nat.ble o r.n && Nat.beq n r.sz && !Nat.beq n 0) (some ((r.n - o) / n))).bind fun far =>
   (match mx with | some m=>(Bi m far).bind fun c=>AP (cap.isSome || Nat.blt 0 far) (some (some c)) | none=>some cap).bind fun m =>
   (match hi,m with
    | some h,some c=>Bi h c
    | some h,none=>Bi h far
    | none,some c=>(match mx with | none=>some len | some _=>(fun(_:Nat)=>none) c)
    | none,none=>some len).bind fun h =>
   (match lo with | some v=>Bi v h | none=>some 0).bind fun l =>
   some (.slice
    (match a with
     | none=>none
     | some (i,o)=>match m with
      | some c=>bif Nat.beq c l then some (i,o)else some (i,o+l * n)
      | none=>some (i,o+l * n))
    (h - l) (match m with | some c=>some (c - l) | none=>none))
  | _=>none
 | .ptr (some (i,o))=>match P.underlying t with
  | some (.array len e)=>arr len e i o
  | some (.pointer u)=>match P.underlying u with
   | some (.array len e)=>arr len e i o
   | _=>none
  | _=>none
 | _=>none
where
 arr (len:Nat) (e:TypeId) (i o:Nat):Option AV:=(BG P e).bind fun n =>
  (match mx with | some m=>Bi m len | none=>some len).bind fun m =>
  (match hi with | some h=>Bi h m | none=>match mx with | none=>some len | some _=>none).bind fun h =>
  (match lo with | some v=>Bi v h | none=>some 0).bind fun l =>
  some (.slice (some (i,bif Nat.beq m l then o else o+l * n)) (h - l) (some (m - l)))
def AB(P:Program)(t:TypeId)(x:AV)(f:Nat):Option AV:=
 match x with
 | .ptr (some (i,o))=>match P.underlying t with
  | some (.struct fs)=>(fs[f]?).bind fun fd=>(BG P fd.type).bind fun n =>
   AP (!Nat.beq n 0) (some (.ptr (some (i,o+fd.offset))))
  | _=>none
 | _=>none
def WH(P:Program)(t:TypeId)(cs:List AV)(off:Nat):Option AV:=
 (EF P t).bind fun g=>match g with
  | true=>(BG P t).bind fun n=>some (.agg ((cs.drop off).take n))
  | false=>cs[off]?
def UE(P:Program)(t:TypeId)(x:AV)(f:Nat):Option AV:=
 match x with
 | .agg cs=>match P.underlying t with
  | some (.struct fs)=>(fs[f]?).bind fun fd=>WH P fd.type cs fd.offset
  | _=>none
 | _=>none
def AM(P:Program)(t:TypeId)(x ix:AV):Option AV:=
 (Ft ix).bind fun k=>match x with
  | .ptr (some (i,o))=>match P.underlying t with
   | some (.array len e)=>(BG P e).bind fun n=>AP (Nat.blt k len) (some (.ptr (some (i,o+k * n))))
   | _=>none
  | .gptr g o=>match P.underlying t with
   | some (.array len e)=>(BG P e).bind fun n=>AP (Nat.blt k len) (some (.gptr g (o+k * n)))
   | _=>none
  | .slice (some (i,o)) len _=>match P.underlying t with
   | some (.slice e)=>(BG P e).bind fun n=>AP (Nat.blt k len) (some (.ptr (some (i,o+k * n))))
   | _=>none
  | _=>none
def UK(P:Program)(t:TypeId)(x ix:AV):Option AV:=
 (Ft ix).bind fun k=>match x with
  | .agg cs=>match P.underlying t with
   | some (.array len e)=>(BG P e).bind fun n=>AP (Nat.blt k len) (WH P e cs (k * n))
   | _=>none
  | .str l=>match P.underlying t with
   | some .string=>(l[k]?).bind fun b=>some (.int .u8 (.ofNat b))
   | _=>none
  | _=>none
def EP:AV→Option AV
 | .ptr none | .nilIface | .nilFunc | .junk=>none
 | v=>some v
def Zb(x:AV)(i:Nat):Option AV:=
 match x with
 | .tuple vs=>vs[i]?
 | _=>none
def Rw(c a b:AV):Option AV:=
 match c with
 | .bool true=>some a
 | .bool false=>some b
 | _=>none
def Ct(mx:Bool):AV→List AV→Option AV
 | v,[]=>some v
 | .int k a,.int k' b::l=>AP (B7 k k') (Ct mx (.int k (bif (bif mx then NE a b else NE b a)then b else a)) l)
 | _,_=>none
def HE:AV→AV→Option Bool
 | .int k a,.int k' b=>AP (B7 k k') (some (NF a b))
 | .str a,.str b=>some (DZ a b)
 | .agg a,.agg b=>keysEq a b
 | _,_=>none
where
 keysEq:List AV→List AV→Option Bool
 | [],[]=>some true
 | .int k a::x,.int k' b::y=>AP (B7 k k') ((keysEq x y).bind fun r=>some (NF a b && r))
 | .str a::x,.str b::y=>(keysEq x y).bind fun r=>some (DZ a b && r)
 | _,_=>none
def Gk(k:AV):List (AV×AV)→Nat→Option (Option (Nat×AV))
 | [],_=>some none
 | (k',v)::l,i=>(HE k k').bind fun e=>match e with
  | true=>some (some (i,v))
  | false=>Gk k l (i+1)
def H7(P:Program):Nat→TypeId→List AV→Bool
 | 0,_,_=>false
 | d+1,t,cs=>match P.underlying t with
  | some (.int q)=>match cs with
   | [.int q' n]=>B7 q' q && CB q n
   | _=>false
  | some .string=>match cs with
   | [.str l]=>Nat.ble l.length 1099511627776
   | _=>false
  | some (.array n e)=>Nat.beq cs.length (P.cellsOf t) && (List.range n).all fun i=>H7 P d e ((cs.drop (i * P.cellsOf e)).take (P.cellsOf e))
  | some (.struct fs)=>Nat.beq cs.length (P.cellsOf t) && fs.toList.all fun f=>H7 P d f.type ((cs.drop f.offset).take (P.cellsOf f.type))
  | _=>false
def FC(P:Program)(t:TypeId)(k:AV):Bool:=match P.underlying t with
 | some (.array _ _) | some (.struct _)=>match k with
  | .agg cs=>H7 P 4 t cs
  | _=>false
 | _=>H7 P 1 t [k]
def GU(P:Program)(t:TypeId):Bool:=match P.underlying t with
 | some (.int _) | some .string=>true
 | some (.array _ _) | some (.struct _)=>P.keyType t && (P.tiled (P.types.size+1) t && (Nat.ble 4 P.types.size && Nat.ble P.types.size 9990))
 | _=>false
def H8(P:Program)(t:TypeId):Bool:=match P.underlying t with
 | some (.map kt _)=>GU P kt
 | _=>false
def J0(P:Program)(t:TypeId):Option TypeId:=match P.underlying t with
 | some (.map kt _)=>some kt
 | _=>none
def JC(s:AE)(kt:TypeId)(i:Nat):Option (List (AV×AV)):=match s.heap.get i with
 | some (.map kt' es)=>AP (Nat.beq kt' kt) (some es)
 | _=>none
def Kc(s:AE)(kt:TypeId)(i:Nat):Option (List (AV×AV)):=match s.heap.get i with
 | some (.map kt' es)=>AP (Nat.beq kt' kt) (some es)
 | some (.mapRo kt' es)=>AP (Nat.beq kt' kt) (some es)
 | _=>none
def Do(P:Program)(s:AE)(t:TypeId)(m k:AV)(ok:Bool):Option AV:=
 match P.underlying t with
 | some (.map kt et)=>AP (FC P kt k) <|
  (match m with
   | .map none=>some []
   | .map (some i)=>Kc s kt i
   | _=>none).bind fun es=>(Gk k es 0).bind fun r =>
   (match r with
    | some (_,v)=>some (v,true)
    | none=>(EE P et).bind fun z=>some (z,false)).bind fun p=>some (bif ok then .tuple [p.1,.bool p.2]else p.1)
 | _=>none
def setNth(es:List (AV×AV))(i:Nat)(v:AV):List (AV×AV):=
 match es,i with
 | [],_=>[]
 | (k,_)::l,0=>(k,v)::l
 | e::l,i+1=>e::setNth l i v
def tV(k v:AV)(es:List (AV×AV)):Option (List (AV×AV)):=(Gk k es 0).bind fun r=>match r with
 | some (j,_)=>some (setNth es j v)
 | none=>some (es++[(k,v)])
def Hu(P:Program)(s:AE)(t:TypeId)(m k v:AV):Option AE:=
 match P.underlying t,m with
 | some (.map kt _),.map (some i)=>AP (FC P kt k) <|
  (JC s kt i).bind fun es=>(tV k v es).bind fun es'=>some (setObj s i (.map kt es'))
 | _,_=>none
def delNth(es:List (AV×AV))(i:Nat):List (AV×AV):=
 match es,i with
 | [],_=>[]
 | _::l,0=>l
 | e::l,i+1=>e::delNth l i
def K5(P:Program)(s:AE)(t:TypeId)(m k:AV):Option AE:=
 match P.underlying t with
 | some (.map kt _)=>AP (FC P kt k) <| match m with
  | .map none=>some s
  | .map (some i)=>(JC s kt i).bind fun es=>(Gk k es 0).bind fun r=>match r with
    | some (j,_)=>some (setObj s i (.map kt (delNth es j)))
    | none=>some s
  | _=>none
 | _=>none
def A6(P:Program)(s:AE)(t:TypeId):AV→Option AV
 | .str l=>match P.underlying t with
  | some .string=>some (.int .i64 (.ofNat l.length))
  | _=>none
 | .slice _ n _=>match P.underlying t with
  | some (.slice _)=>some (.int .i64 (.ofNat n))
  | _=>none
 | .map none=>match P.underlying t with
  | some (.map ..)=>some (.int .i64 (.ofNat 0))
  | _=>none
 | .map (some i)=>match P.underlying t with
  | some (.map ..)=>match s.heap.get i with
   | some (.map _ es)=>some (.int .i64 (.ofNat es.length))
   | some (.mapRo _ es)=>some (.int .i64 (.ofNat es.length))
   | _=>none
  | _=>none
 | _=>none
def W6(P:Program)(s:AE)(t:TypeId):AV→Option AV
 | .slice a _ cap=>match P.underlying t with
  | some (.slice e)=>match cap with
   | some c=>some (.int .i64 (.ofNat c))
   | none=>match a with
    | some (i,o)=>(BG P e).bind fun n=>(rowAt s i).bind fun r=>AP (!r.spare && Nat.ble o r.n && Nat.beq n r.sz && !Nat.beq n 0) (some (.int .i64 (.ofNat ((r.n - o) / n))))
    | none=>none
  | _=>none
 | _=>none
def en:AV→Option AV
 | .slice none _ _=>some (.ptr none)
 | .slice (some (i,o)) (_+1) _=>some (.ptr (some (i,o)))
 | _=>none
def Made.val(i:Nat):Made→AV
 | .ptr=>.ptr (some (i,0))
 | .slice n=>.slice (some (i,0)) n (some n)
 | .map=>.map (some i)
def Ag(P:Program)(e:TypeId):Option (BD×Made):=(EE P e).bind fun z=>some (F2 e 0 z.cells,.ptr)
def Bf(e:TypeId)(v:AV):Option (BD×Made):=some (F2 e 0 v.cells,.ptr)
def BV(P:Program)(t:TypeId)(l c:AV):Option (BD×Made):=
 match P.underlying t,l,c with
  | some (.slice e),.int .i64 (.ofNat l),.int .i64 (.ofNat c)=>(DL P e).bind fun by_=>(BG P e).bind fun n =>
   AP (Nat.beq l c && Nat.ble (by_ * c) 1099511627776 && Nat.ble c 1099511627776) <|
   (EE P e).bind fun z=>AP (Nat.beq z.cells.length n) (some (F2 e n (NL z.cells c),.slice c))
  | _,_,_=>none
def UN(P:Program)(t:TypeId):Bool:=match P.underlying t with
 | some (.int _)=>true
 | _=>false
def NO(s:AE)(i o n size:Nat):Option (List AV):=bif Nat.beq n 0 then some []else CI s i o (n * size)
def Ck(P:Program)(s:AE)(e:TypeId)(size:Nat):AV→Option (Nat×List AV)
 | .int _ (.ofNat n)=>AP (Nat.ble n 1099511627776 && Nat.blt 0 n) ((EE P e).bind fun z=>AP (Nat.beq z.cells.length size) (some (n,NL z.cells n)))
 | .slice none _ _=>some (0,[])
 | .slice (some (i,o)) n _=>(NO s i o n size).bind fun l=>some (n,l)
 | .str l=>AP (Nat.beq size 1) (some (l.length,l.map fun b=>.int .u8 (.ofNat b)))
 | _=>none
def Bv(P:Program)(t:TypeId):Bool:=match P.underlying t with
 | some (.slice _) | some .string=>true
 | _=>false
def Cs(e:TypeId)(sz:Nat)(c:AZ AV)(n:Nat)(par:Option Nat)(base:Bool):BD:=
 .row { elem:=e,sz,n,c,spare:=true,mode:=.own,par,bytes:=base }
def DF(P:Program)(e:TypeId)(size:Nat):Bool:=match EE P e with
 | some z=>Nat.beq z.cells.length size
 | none=>false
def C8(P:Program)(s:AE)(e:TypeId)(size n:Nat)(cells:List AV):Option (AV×AE):=
 AP (DF P e size) (some (.slice (some (s.next,0)) n none,newObj s (Cs e size (AZ.fill .leaf 0 cells) cells.length none true)))
def Dp(s:AE)(i:Nat)(r:D2)(ends:Bool):AE:=
 bif ends then setObj (BS s i r) i (.row { r with mode:=.sealed,par:=none })else Cc (BS s i r) i
def FH(P:Program)(s:AE)(e:TypeId)(size i o len:Nat)(src:Nat×List AV)(r:D2)(old:List AV):Option (AV×AE):=
 AP (D8 r.mode && Nat.beq r.elem e && DF P e size) <|
  let ends:=Nat.beq (o+len * size) r.n
  let s2:=Dp s i r ends
  some (.slice (some (s.next,0)) (len+src.1) none,
   newObj s2 (Cs e size (bif Nat.beq o 0 then r.c.fill (len * size) src.2 else AZ.fill .leaf 0 (old++src.2)) (old++src.2).length (bif ends then some i else none) (r.bytes && Nat.beq o 0)))
def Kw(P:Program)(s:AE)(e:TypeId)(size i o len:Nat)(src:Nat×List AV)(r:D2):Option (AV×AE):=
 AP (Nat.beq size r.sz) <|
 bif Nat.ble (o+(len+src.1) * size) r.n then
  (Cv s i (o+len * size) src.2).bind fun s'=>some (.slice (some (i,o)) (len+src.1) none,s')
 else (CI s i o (len * size)).bind fun old =>
  bif r.spare then FH P s e size i o len src r old else C8 P s e size (len+src.1) (old++src.2)
def Gw(P:Program)(s:AE)(e:TypeId)(size i o len c:Nat)(src:Nat×List AV):Option (AV×AE):=
 bif Nat.ble (len+src.1) c then
  (Cv s i (o+len * size) src.2).bind fun s'=>some (.slice (some (i,o)) (len+src.1) (some c),s')
 else (CI s i o (len * size)).bind fun old=>C8 P s e size (len+src.1) (old++src.2)
def appTo(P:Program)(s:AE)(e:TypeId)(size:Nat)(a:Option (Nat×Nat))(len:Nat)(cap:Option Nat)(src:Nat×List AV):Option (AV×AE):=
 match a with
 | none=>bif Nat.beq src.1 0 then some (.slice none 0 (some 0),s)else C8 P s e size src.1 src.2
 | some (i,o)=>match cap with
  | some c=>Gw P s e size i o len c src
  | none=>(rowAt s i).bind fun r=>Kw P s e size i o len src r
def Ar(P:Program)(s:AE)(argTypes:List TypeId)(args:List AV):Option (AV×AE):=
 match argTypes,args with
 | [st,xt],[.slice a len cap,x]=>match P.underlying st with
  | some (.slice e)=>(BG P e).bind fun size=>(DL P e).bind fun by_ =>
   AP (!Nat.beq size 0 && (match x with | .int ..=>UN P xt | _=>Bv P xt)) <|
   (Ck P s e size x).bind fun src =>
   AP (An src.2 && Nat.ble ((len+src.1) * by_) 1099511627776 && Nat.ble (len+src.1) 1099511627776) <|
   appTo P s e size a len cap src
  | _=>none
 | _,_=>none
def ef(P:Program)(s:AE)(argTypes:List TypeId)(args:List AV):Option (AV×AE):=
 match argTypes,args with
 | dt::_,[.slice a dl _,x]=>match P.underlying dt with
  | some (.slice e)=>(BG P e).bind fun size =>
   (match x with | .slice _ n _=>some n | .str l=>some l.length | _=>none).bind fun sl =>
   let n:=bif Nat.ble sl dl then sl else dl
   (match x with
    | .slice none _ _=>some []
    | .slice (some (i,o)) _ _=>CI s i o (n * size)
    | .str l=>AP (Nat.beq size 1) (some ((l.take n).map fun b=>.int .u8 (.ofNat b)))
    | _=>none).bind fun cells =>
   (match a with
    | none=>some s
    | some (i,o)=>Cv s i o cells).bind fun s'=>some (.int .i64 (.ofNat n),s')
  | _=>none
 | _,_=>none
def Vu(r:D2):BD:=.row { r with n:=0,spare:=true,mode:=.ro,par:=none,bytes:=false,glob:=none }
def WV(P:Program)(s:AE)(t:TypeId)(n:Nat):Option (Nat×Nat)→Option (AV×AE)
 | none=>none
 | some (i,o)=>match P.underlying t with
  | some (.pointer e)=>(rowAt s i).bind fun r=>AP (D8 r.mode && r.bytes && Nat.beq o 0 && Nat.beq r.elem e && Nat.ble n 1099511627776) <| (BG P e).bind fun z=>AP (Nat.beq z 1) <|
   (CI s i o n).bind fun l=>(Ax.bytesOf l).bind fun b=>some (.str b,setObj (BS s i r) i (Vu r))
  | _=>none
def gw(P:Program)(s:AE)(argTypes:List TypeId)(args:List AV):Option (AV×AE):=
 match argTypes,args with
 | [t,_],[.ptr a,.int .i64 (.ofNat n)]=>match n with
  | 0=>some (.str [],s)
  | n+1=>WV P s t (n+1) a
 | _,_=>none
def ft(s:AE):List AV→Option (AV×AE)
 | [x]=>some (x,s)
 | _=>none
def Pf(e:TypeId)(s:AE):List AV→Option (AV×AE)
 | [.int .i64 (.ofNat n)]=>AP (Nat.ble n 1099511627776) (some (.slice (some (s.next,0)) n none,newObj s (Cs e 1 .leaf n none true)))
 | _=>none
def Vn(s:AE):List AV→Option (AV×AE)
 | [.str a,.str b]=>some (.int .i64 (bif HR a b then -1 else bif DZ a b then 0 else 1),s)
 | _=>none
def RQ(P:Program)(name:String)(rt:Array TypeId):Option (AE→List AV→Option (AV×AE)):=
  bif name == "internal/abi.NoEscape" then some ft else
  bif name == "internal/bytealg.abigen_runtime_cmpstring" then some Vn else
  bif name == "internal/bytealg.MakeNoZero" then (match rt.toList with
    | [t]=>match P.underlying t with
      | some (.slice e)=>match BG P e with
        | some 1=>some (Pf e)
        | _=>none
      | _=>none
    | _=>none)
  else none
def fH(P:Program)(f:FuncId):Option (AE→List AV→Option (AV×AE)):=match P.funcs[f]? with
  | some fn=>match fn.body with
    | some _=>none
    | none => bif fn.origin == "" then RQ P fn.name fn.resultTypes else none
  | none=>none
def T4(P:Program)(s:AE)(argTypes:List TypeId)(args:List AV):Option (AV×AE):=
 match argTypes,args with
 | t::_,[x]=>match P.underlying t,x with
  | some (.slice _),.slice none _ _=>some (BZ,s)
  | some (.slice _),.slice _ 0 _=>some (BZ,s)
  | some (.slice e),.slice (some (i,o)) n _=>(EE P e).bind fun z=>(Cv s i o (NL z.cells n)).bind fun s'=>some (BZ,s')
  | _,_=>none
 | _,_=>none
inductive Sh where
 | p1 (f:AV→Option AV)
 | p2 (f:AV→AV→Option AV)
 | p (f:List AV→Option AV)
 | r1 (f:AE→AV→Option AV)
 | r (f:AE→List AV→Option AV)
 | mk (f:List AV→Option (BD×Made))
 | e (f:AE→List AV→Option (AV×AE))
 | call (f:FuncId)
 | callv
def Sh.isEff:Sh→Bool
 | .e _ | .call _ | .callv=>true
 | _=>false
def Sh.isRead:Sh→Bool
 | .r1 _ | .r _=>true
 | _=>false
def Ru:List AV→Option AV
 | [c,a,b]=>Rw c a b
 | _=>none
def Xy{α:Type}(f:AV→AV→Option α):List AV→Option α
 | [a,b]=>f a b
 | _=>none
def Xz{α:Type}(f:AV→AV→AV→Option α):List AV→Option α
 | [a,b,c]=>f a b c
 | _=>none
def Za(x:Option AE):Option (AV×AE):=match x with
 | some s=>some (BZ,s)
 | none=>none
def At(P:Program)(t:TypeId)(lo hi mx:Bool)(s:AE):List AV→Option AV
 | [x]=>match lo,hi,mx with
  | false,false,false=>Bj P s t x none none none
  | _,_,_=>none
 | [x,a]=>match lo,hi,mx with
  | true,false,false=>Bj P s t x (some a) none none
  | false,true,false=>Bj P s t x none (some a) none
  | _,_,_=>none
 | [x,a,b]=>match lo,hi,mx with
  | true,true,false=>Bj P s t x (some a) (some b) none
  | false,true,true=>Bj P s t x none (some a) (some b)
  | _,_,_=>none
 | [x,a,b,c]=>match lo,hi,mx with
  | true,true,true=>Bj P s t x (some a) (some b) (some c)
  | _,_,_=>none
 | _=>none
def zipIdx(is:List Nat)(l:List AV):List (Nat×AV):=is.zip l
def HB:Operand→Bool
 | .tmp _=>true
 | _=>false
def gE(P:Program)(op:BinOp)(t:TypeId)(x y:Operand):Option Bool:=match op with
 | .eql=>bif HB x && HB y && HA P t then some false else none
 | .neq=>bif HB x && HB y && HA P t then some true else none
 | _=>none
def BN(P:Program)(o:Op):Option (Sh×List Operand):=
 match o with
 | .move x | .assign x=>some (.p1 some,[x])
 | .pick c a b=>some (.p Ru,[c,a,b])
 | .build t ps=>some (.p (fun l=>BT P t (zipIdx (ps.toList.map (·.1)) l)),ps.toList.map (·.2))
 | .nilCheck x=>some (.p1 EP,[x])
 | .binOp op t x y _=>match gE P op t x y with
  | some neg=>some (.r (fun s=>Xy (J8 P s neg t)),[x,y])
  | none=>some (.p2 (AL P op t),[x,y])
 | .unOp op _ x=>some (.p1 (WT P op),[x])
 | .makeFunc fn first captured=>match fn with
  | .func f=>some (.p (fun l=>some (.func f (l.take first.size) (l.drop first.size))),first.toList++captured.toList)
  | _=>none
 | .fieldAddr t x f=>some (.p1 (fun x=>AB P t x f),[x])
 | .field t x f=>some (.p1 (fun x=>UE P t x f),[x])
 | .indexAddr t x i=>some (.p2 (AM P t),[x,i])
 | .index t x i=>some (.p2 (UK P t),[x,i])
 | .extract t i=>some (.p1 (fun x=>Zb x i),[t])
 | .load t a=>some (.r1 (fun s a=>AC P s t a),[a])
 | .lookup t m k ok=>AP (H8 P t) (some (.r (fun s=>Xy (fun m k=>Do P s t m k ok)),[m,k]))
 | .convert src dst x=>some (.r1 (fun s x=>Ax P s src dst x),[x])
 | .slice t x lo hi mx=>some (.r (At P t lo.isSome hi.isSome mx.isSome),[x]++lo.toList++hi.toList++mx.toList)
 | .alloc e=>some (.mk (fun l=>match l with | []=>Ag P e | _=>none),[])
 | .box e x=>some (.mk (fun l=>match l with | [v]=>Bf e v | _=>none),[x])
 | .buildSlice t len ps=>some (.mk (fun l=>(Ad P t len (zipIdx (ps.toList.map (·.1)) l)).bind fun r=>some (r,.slice len)),ps.toList.map (·.2))
 | .makeMap t none=>AP (H8 P t) (some (.mk (fun l=>match l with | []=>(J0 P t).bind fun kt=>some (.map kt [],.map) | _=>none),[]))
 | .makeSlice t l c=>some (.mk (Xy (BV P t)),[l,c])
 | .store t a x=>some (.e (fun s=>Xy (fun a x=>Za (AS P s t a x))),[a,x])
 | .mapUpdate t m k x | .insert t m k x=>AP (H8 P t) (some (.e (fun s=>Xz (fun m k x=>Za (Hu P s t m k x))),[m,k,x]))
 | .call { callee,args,argTypes }=>match callee with
  | .value (.func f)=>match fH P f with
   | some e=>some (.e e,args.toList)
   | none=>some (.call f,args.toList)
  | .value x=>some (.callv,x::args.toList)
  | .invoke ..=>none
  | .builtin b=>match b with
   | .len=>match argTypes[0]? with
    | some t=>some (.r (fun s l=>match l with | [x]=>A6 P s t x | _=>none),args.toList)
    | none=>none
   | .cap=>match argTypes[0]? with
    | some t=>some (.r (fun s l=>match l with | [x]=>W6 P s t x | _=>none),args.toList)
    | none=>none
   | .min=>some (.p (fun l=>match l with | v::l=>Ct false v l | []=>none),args.toList)
   | .max=>some (.p (fun l=>match l with | v::l=>Ct true v l | []=>none),args.toList)
   | .append=>some (.e (fun s l=>Ar P s argTypes.toList l),args.toList)
   | .copy=>some (.e (fun s l=>ef P s argTypes.toList l),args.toList)
   | .unsafeSliceData=>some (.p (fun l=>match l with | [x]=>en x | _=>none),args.toList)
   | .unsafeString=>some (.e (fun s l=>gw P s argTypes.toList l),args.toList)
   | .clear=>some (.e (fun s l=>T4 P s argTypes.toList l),args.toList)
   | .delete=>match argTypes[0]? with
    | some t=>AP (H8 P t) (some (.e (fun s=>Xy (fun m k=>Za (K5 P s t m k))),args.toList))
    | none=>none
   | _=>none
 | _=>none
def vR(t:Nat):Nat:=Nat.shiftLeft 1 t
def F4:List Operand→Nat
 | []=>0
 | .tmp t::l=>Nat.lor (vR t) (F4 l)
 | _::l=>F4 l
def L5(P:Program):List Oper→Nat→Nat→Nat
 | [],_,e=>e
 | o::l,wr,e =>
  let rd:=match BN P o.op with
   | some (_,xs)=>F4 xs
   | none=>match o.op with
    | .range _ x | .next x _ | .entry x=>F4 [x]
    | _=>0
  L5 P l (match o.dst with | some d=>Nat.lor wr (vR d) | none=>wr) (Nat.lor e (Nat.sub rd (Nat.land rd wr)))
def Ez(P:Program):Code→Nat
 | .region _ ops _=>L5 P ops.toList 0 0
 | .seq a b=>Nat.lor (Ez P a) (Ez P b)
 | .cond c a b=>Nat.lor (F4 [c]) (Nat.lor (Ez P a) (Ez P b))
 | .block _ b | .loop b | .scope b=>Ez P b
 | .rangeFunc f ps a b=>Nat.lor (F4 [f]) (Nat.lor (ps.toList.foldl (fun m t=>Nat.lor m (vR t)) 0) (Nat.lor (Ez P a) (Ez P b)))
 | _=>0
def Ic:List ResultVar→Nat
 | []=>0
 | .tmp t::l | .cell t _::l=>Nat.lor (vR t) (Ic l)
def Fo(m:Nat):Nat→Nat→List Nat
 | 0,_=>[]
 | n+1,k=>bif m.testBit k then k::Fo m n (k+1)else Fo m n (k+1)
def Dq(fn:Func):Nat:=fn.params.size+fn.nfree
def Ao(P:Program)(fn:Func):List Tmp:=
 List.range (Dq fn)++match fn.body with
 | none=>[]
 | some c=>Fo (Nat.lor (Ez P c) (Ic fn.results.toList)) (fn.ntmps - Dq fn) (Dq fn)
def BE:List Tmp→Tmp→Option Nat
 | [],_=>none
 | a::l,t=>bif Nat.beq a t then some 0 else (BE l t).bind fun j=>some (j+1)
def RL(P:Program)(o:Oper):Bool:=match BN P o.op with
 | some (s,_)=>s.isEff
 | none=>true
def WN(b:Array Nat)(done:Nat)(i:Nat):Bool:=Nat.beq (Nat.land (b.getD i 0) done) (b.getD i 0)
def Uf(P:Program)(ops:Array Oper)(b:Array Nat):Nat→Nat→List Nat→List Nat→List Nat
 | 0,_,_,acc=>acc.reverse
 | f+1,done,todo,acc =>
  match todo.find? fun i=>WN b done i && !RL P (ops.getD i default)with
  | some i=>Uf P ops b f (done+2 ^ i) (todo.filter fun j=>!Nat.beq j i) (i::acc)
  | none=>match todo.find? fun i=>WN b done i with
   | some i=>Uf P ops b f (done+2 ^ i) (todo.filter fun j=>!Nat.beq j i) (i::acc)
   | none=>acc.reverse
def jy(P:Program)(ops:Array Oper):List Nat:=Uf P ops (Region.before ops) ops.size 0 (List.range ops.size) []
def GX(P:Program)(o:Oper):List Tmp:=o.dst.toList++((match BN P o.op with
 | some (_,xs)=>xs
 | none=>[]).filterMap fun x:Operand=>match x with
  | .tmp t=>some t
  | _=>none)
def V3(o:Oper):List Nat:=match o.guard with
 | some (j,_)=>[j]
 | none=>[]
def P0(P:Program)(ops:Array Oper)(b:Array Nat)(before:List Nat)(i:Nat):Bool:=
 let o:=ops.getD i default
 let anc:=b.getD i 0
 Nat.blt i ops.size && !before.contains i &&
 (List.range ops.size).all (fun j=>!anc.testBit j || before.contains j) &&
 o.after.all (fun e=>!Region.binds .any e || before.contains e.on) &&
 before.all (fun j=>!RL P (ops.getD j default) || anc.testBit j) &&
 (V3 o).all (fun j=>anc.testBit j) &&
 before.all (fun j=>let p:=ops.getD j default
  (match o.dst with
   | none=>true
   | some d=>p.dst != some d && (!(GX P p).contains d || anc.testBit j)) &&
  (match p.dst with
   | none=>true
   | some d=>!(GX P o).contains d || anc.testBit j))
def FN(P:Program)(ops:Array Oper)(b:Array Nat):List Nat→List Nat→Bool
 | before,[]=>Nat.beq before.length ops.size
 | before,i::l=>P0 P ops b before i && FN P ops b (before++[i]) l
inductive Kq where
 | push | set (j:Nat)
structure Gr where
 guard:Option (CX×Bool)
 sh:Sh
 xs:List CX
 ans:CX
structure AA where
 guard:Option (CX×Bool)
 sh:Sh
 xs:List CX
 dst:Kq
 again:List Gr
structure iD where
 map:List (Tmp×CX)
 cnt:Nat
def Ep:List (Tmp×CX)→Tmp→Option CX
 | [],_=>none
 | (a,x)::l,t=>bif Nat.beq a t then some x else Ep l t
def Cw(cnt:Nat):CX→CX
 | .loc p=>.loc (cnt - 1 - p)
 | x=>x
def Et(vars:List Tmp)(c:iD)(t:Tmp):Option CX:=
 match Ep c.map t with
 | some x=>some x
 | none=>(BE vars t).bind fun j=>some (.var j)
def Er(vars:List Tmp)(c:iD):Operand→Option CX
 | .tmp t=>Et vars c t
 | .const v=>(ofValue v).bind fun a=>some (.const a)
 | .global g=>some (.const (.gptr g 0))
 | .func f=>some (.const (.func f [] []))
def IY(vars:List Tmp)(c:iD):List Operand→Option (List CX)
 | []=>some []
 | x::l=>(Er vars c x).bind fun a=>(IY vars c l).bind fun r=>some (a::r)
def isVar(j:Nat):CX→Bool
 | .var i=>Nat.beq i j
 | _=>false
def JF(j:Nat):List (Tmp×CX)→Bool
 | []=>true
 | (_,x)::l=>!isVar j x && JF j l
def Kv(vars:List Tmp)(later:List (Option Tmp))(o:Oper)(x:CX):Bool:=
 (match o.op with | .move _=>true | _=>false) && o.guard.isNone &&
 (match o.dst with | some d=>(BE vars d).isNone | none=>false) &&
 (match x with
  | .var j=>!(later.any fun d=>match d with
   | some t=>match BE vars t with
    | some i=>Nat.beq i j
    | none=>false
   | none=>false)
  | _=>true)
def F7(cnt:Nat):Option (CX×Bool)→Option (CX×Bool)
 | none=>none
 | some (x,b)=>some (Cw cnt x,b)
def JN(cnt:Nat)(r:Gr):Gr:={ guard:=F7 cnt r.guard,sh:=r.sh,xs:=r.xs.map (Cw cnt),ans:=Cw cnt r.ans }
def Pn(j:Nat)(r:Gr):Bool:=(match r.guard with | none=>true | some (x,_)=>!isVar j x) && r.xs.all fun x=>!isVar j x
def Ey(P:Program)(nt:Nat)(vars:List Tmp)(ops:Array Oper)(b:Array Nat)(draw:Bool):List Nat→iD→List (Nat×Gr)→Option (List AA)
  | [],_,_=>some []
  | i::l,c,rs=>(ops[i]?).bind fun o=>(BN P o.op).bind fun sh=>(IY vars c sh.2).bind fun xs =>
    match (match xs with | [x]=>bif Kv vars (l.map fun j=>(ops.getD j default).dst) o x then some x else none | _=>none),o.dst with
    | some x,some d=>AP (Nat.blt d nt) (Ey P nt vars ops b draw l { c with map:=(d,x)::c.map } rs)
    | _,_ =>
      (match o.guard with
        | none=>some none
        | some (j,want)=>(ops[j]?).bind fun p=>p.dst.bind fun d=>(Et vars c d).bind fun x=>some (some (x,want))).bind fun g =>
      (match o.dst with
        | none=>some (Kq.push,{ c with cnt:=c.cnt+1 })
        | some d=>AP (Nat.blt d nt) <| match BE vars d with
          | some j=>AP (JF j c.map && rs.all fun r=>Pn j r.2) (some (Kq.set j,c))
          | none=>some (Kq.push,{ map:=(d,.loc c.cnt)::c.map,cnt:=c.cnt+1 })).bind fun q =>
      let ag:=match draw,sh.1.isEff with
        | true,true=>rs.filter fun(r:Nat×Gr)=>!(b.getD i 0).testBit r.1
        | _,_=>[]
      let rd:=draw && sh.1.isRead
      AP (!rd || (match q.1 with | .push=>true | .set _=>false)) <|
      (Ey P nt vars ops b draw l q.2 (bif rd then (i,{ guard:=g,sh:=sh.1,xs,ans:=.loc c.cnt })::rs else rs)).bind fun r =>
        some ({ guard:=F7 c.cnt g,sh:=sh.1,xs:=xs.map (Cw c.cnt),dst:=q.1,again:=ag.map fun(r:Nat×Gr)=>JN q.2.cnt r.2 }::r)
structure Je where
 ad:CX
 rd:AE→AV→Option AV
 jt:Nat
 jok:Nat
 jk:Nat
 id2:Nat
inductive Aa where
 | skip
 | ops (l:List AA)
 | seq (a b:Aa)
 | cond (x:CX) (a b:Aa)
 | block (id:Nat) (c:Aa)
 | loop (c:Aa)
 | rangeFunc (fn:FuncId) (f:CX) (params:Array Tmp) (assign body:Code)
 | exit (id:Nat)
 | ret
 | never
 | rangeMap (r:Je) (body:Aa)
structure t6 where
 ty:TypeId
 ad:Operand
 tm:Tmp
 it:Tmp
 tn:Tmp
 ok:Tmp
 te:Tmp
 tk:Tmp
 key:Tmp
 id2:Nat
def E3(o:Oper):Option (Op×Tmp):=match o.guard,o.dst with
 | none,some d=>some (o.op,d)
 | _,_=>none
def TG:Op→Option (TypeId×Operand)
 | .load t a=>some (t,a)
 | _=>none
def Oc:Op→Option (TypeId×Tmp)
 | .range t (.tmp m)=>some (t,m)
 | _=>none
def TH:Op→Option Tmp
 | .next (.tmp i) false=>some i
 | _=>none
def Oa:Op→Option Tmp
 | .entry (.tmp i)=>some i
 | _=>none
def VD:Op→Option Tmp
 | .extract (.tmp n) 0=>some n
 | _=>none
def YR:Op→Option Tmp
 | .assign (.tmp n)=>some n
 | _=>none
def Pq:List Oper→Option (TypeId×Operand×Tmp×Tmp)
 | [o0,o1]=>(E3 o0).bind fun p0=>(E3 o1).bind fun p1=>(TG p0.1).bind fun l=>(Oc p1.1).bind fun r =>
  AP (Nat.beq l.1 r.1 && Nat.beq p0.2 r.2) (some (l.1,l.2,p0.2,p1.2))
 | _=>none
def Ps(it:Tmp):List Oper→Option (Tmp×Tmp)
 | [o0,o1]=>(E3 o0).bind fun p0=>(E3 o1).bind fun p1=>(TH p0.1).bind fun i=>(VD p1.1).bind fun n =>
  AP (Nat.beq i it && Nat.beq n p0.2) (some (p0.2,p1.2))
 | _=>none
def Mt(it:Tmp):List Oper→Option (Tmp×Tmp×Tmp)
 | [o0,o1,o2]=>(E3 o0).bind fun p0=>(E3 o1).bind fun p1=>(E3 o2).bind fun p2=>(Oa p0.1).bind fun i=>(VD p1.1).bind fun n=>(YR p2.1).bind fun k =>
  AP (Nat.beq i it && (Nat.beq n p0.2 && Nat.beq k p1.2)) (some (p0.2,p1.2,p2.2))
 | _=>none
def gL(ops1:Array Oper)(d1:Bool):Code→Option t6
 | .block id (.loop (.seq (.region _ ops2 false) (.seq (.cond (.tmp c) .skip (.exit id')) (.block id2 (.seq (.region _ ops3 false) _))))) =>
  AP (!d1) <| (Pq ops1.toList).bind fun h=>(Ps h.2.2.2 ops2.toList).bind fun n=>(Mt h.2.2.2 ops3.toList).bind fun e =>
   AP (Nat.beq id' id && Nat.beq c n.2) (some ⟨h.1,h.2.1,h.2.2.1,h.2.2.2,n.1,n.2,e.1,e.2.1,e.2.2,id2⟩)
 | _=>none
def Vq(P:Program)(nt:Nat)(vars:List Tmp)(p:t6):Option Je:=
 (Er vars ⟨[],0⟩ p.ad).bind fun ad=>(BE vars p.it).bind fun jt=>(BE vars p.ok).bind fun jok=>(BE vars p.key).bind fun jk =>
  AP ((BE vars p.tm).isNone && ((BE vars p.tn).isNone && ((BE vars p.te).isNone && (BE vars p.tk).isNone))) <|
  AP (Nat.blt p.tm nt && (Nat.blt p.tn nt && (Nat.blt p.te nt && (Nat.blt p.tk nt && (Nat.blt p.it nt && (Nat.blt p.ok nt && Nat.blt p.key nt)))))) <|
  AP (Jz P p.ty && (!Nat.beq jt jok && (!Nat.beq jt jk && !Nat.beq jok jk))) (some ⟨ad,fun s a=>AC P s p.ty a,jt,jok,jk,p.id2⟩)
def Hm:Aa→Option Aa
 | .block _ (.loop (.seq _ (.seq _ (.block _ (.seq _ b)))))=>some b
 | _=>none
def Mz(r:Option Je)(a b:Aa):Aa:=match r with
 | none=>.seq a b
 | some r=>match Hm b with
  | some c=>.rangeMap r c
  | none=>.seq a b
def IA(P:Program)(nt:Nat)(vars:List Tmp):Code→Code→Option Je
 | .region _ ops d,b=>(gL ops d b).bind (Vq P nt vars)
 | _,_=>none
def qr:Option (List AA)→Aa
 | some l=>.ops l
 | none=>.never
def Al(P:Program)(fn:FuncId)(nt:Nat)(vars:List Tmp):Code→Aa
 | .skip | .label _=>.skip
 | .ret=>.ret
 | .exit id=>.exit id
 | .goto _ | .refuse _=>.never
 | .region _ ops draw=>match draw with
  | false=>qr (Ey P nt vars ops #[] false (List.range ops.size) ⟨[],0⟩ [])
  | true=>qr (AP (FN P ops (Region.before ops) [] (jy P ops)) (Ey P nt vars ops (Region.before ops) true (jy P ops) ⟨[],0⟩ []))
 | .seq a b=>Mz (IA P nt vars a b) (Al P fn nt vars a) (Al P fn nt vars b)
 | .cond c a b=>match Er vars ⟨[],0⟩ c with
  | some z=>.cond z (Al P fn nt vars a) (Al P fn nt vars b)
  | none=>.never
 | .block id c=>.block id (Al P fn nt vars c)
 | .loop c=>.loop (Al P fn nt vars c)
 | .scope c=>Al P fn nt vars c
 | .rangeFunc f ps a b=>match Er vars ⟨[],0⟩ f with
  | some x=>.rangeFunc fn x ps a b
  | none=>.never
structure Ah where
 na:Nat
 nv:Nat
 body:Aa
 results:List (CX×Option TypeId)
def DM(vars:List Tmp):List ResultVar→Option (List (CX×Option TypeId))
 | []=>some []
 | .tmp t::l=>(BE vars t).bind fun j=>(DM vars l).bind fun r=>some ((.var j,none)::r)
 | .cell t ty::l=>(BE vars t).bind fun j=>(DM vars l).bind fun r=>some ((.var j,some ty)::r)
def AO(P:Program)(f:FuncId):Option Ah:=(P.funcs[f]?).bind fun fn=>fn.body.bind fun c =>
 AP (Nat.ble (Dq fn) fn.ntmps) <|
 let vars:=Ao P fn
 (DM vars fn.results.toList).bind fun r =>
  some { na:=Dq fn,nv:=vars.length,body:=Al P f fn.ntmps vars c,results:=r }
def Ma (l:List AV):Nat→AV:=
 List.rec (fun _=>BZ) (fun a _ ih i=>Nat.rec a (fun i _=>ih i) i) l
def Gf (v:AV) (l:List AV):Nat→List AV:=
 List.rec (fun _=>[]) (fun a l ih i=>Nat.rec (v::l) (fun i _=>a::ih i) i) l
def DK (loc var:List AV) (x:CX):AV:=
 match x with
 | .loc i=>Ma loc i
 | .var j=>Ma var j
 | .const v=>v
def D3 (loc var:List AV) (l:List CX):List AV:=
 List.rec [] (fun x _ ih=>DK loc var x::ih) l
inductive LN where
 | normal | exit (id:Nat) | ret
structure Ay where
 exit:LN
 var:List AV
 marks:List Nat
 st:AE
def Fl:AV→AV→Bool
 | .bool a,.bool b=>a == b
 | .int k a,.int k' b=>B7 k k' && NF a b
 | .str a,.str b=>DZ a b
 | .ptr none,.ptr none=>true
 | .gptr a b,.gptr c d=>Nat.beq a c && Nat.beq b d
 | .ptr (some (i,o)),.ptr (some (j,p))=>Nat.beq i j && Nat.beq o p
 | .slice none n (some c),.slice none n' (some c')=>Nat.beq n n' && Nat.beq c c'
 | .slice none n none,.slice none n' none=>Nat.beq n n'
 | .slice (some (i,o)) n none,.slice (some (j,p)) n' none=>Nat.beq i j && Nat.beq o p && Nat.beq n n'
 | .slice (some (i,o)) n (some c),.slice (some (j,p)) n' (some c')=>Nat.beq i j && Nat.beq o p && Nat.beq n n' && Nat.beq c c'
 | .map none,.map none=>true
 | .map (some i),.map (some j)=>Nat.beq i j
 | .func f a c,.func g b d=>Nat.beq f g && eqAs a b && eqAs c d
 | .nilFunc,.nilFunc=>true
 | .nilIface,.nilIface=>true
 | .yield i,.yield j=>Nat.beq i j
 | .agg a,.agg b=>eqAs a b
 | .tuple a,.tuple b=>eqAs a b
 | _,_=>false
where
 eqAs:List AV→List AV→Bool
 | [],[]=>true
 | a::x,b::y=>Fl a b && eqAs x y
 | _,_=>false
abbrev P9:=FuncId→List AV→AE→Option (AV×AE)
structure CU where
 P:Program
 nat:P9
structure D4 where
 code:Option Nat→Aa→List AV→List Nat→AE→Option Ay
 call:FuncId→List AV→AE→Option (AV×AE)
 round:Nat→List AV→AE→Option (AV×AE)
def G3(F:D4)(f:AV)(args:List AV)(s:AE):Option (AV×AE):=
 match f with
 | .func f first cap=>F.call f (first++(args++cap)) s
 | .yield l=>F.round l args s
 | _=>none
def ED(s:AE)(x:Option AV):Option (AV×AE):=match x with
 | some v=>some (v,s)
 | none=>none
def one{α:Type}(f:AV→Option α):List AV→Option α
 | [a]=>f a
 | _=>none
def Es(sh:Sh)(xs:List AV)(s:AE):Option AV:=
 match sh with
 | .r1 f=>one (f s) xs
 | .r f=>f s xs
 | _=>none
def SC(s:AE)(r:Option (BD×Made)):Option (AV×AE):=match r with
 | some p=>some (p.2.val s.next,newObj s p.1)
 | none=>none
def H4 {α:Type} (f:CX→Option α) (xs:List CX):Option α:=List.rec none (fun x _ _=>f x) xs
def LD {α:Type} (f:CX→CX→Option α) (xs:List CX):Option α:=H4 (fun x=>H4 (f x) xs.tail) xs
def wF (f:AV→Option AV) (xs:List CX) (loc var:List AV) (s:AE):Option (AV×AE):=H4 (fun x=>ED s (f (DK loc var x))) xs
def wG (f:AV→AV→Option AV) (xs:List CX) (loc var:List AV) (s:AE):Option (AV×AE):=LD (fun x y=>ED s (f (DK loc var x) (DK loc var y))) xs
def wH (f:AE→AV→Option AV) (xs:List CX) (loc var:List AV) (s:AE):Option (AV×AE):=H4 (fun x=>ED s (f s (DK loc var x))) xs
def shV (F:D4) (xs:List CX) (loc var:List AV) (s:AE):Option (AV×AE):=H4 (fun x=>G3 F (DK loc var x) (D3 loc var xs.tail) s) xs
def tf (F:D4) (sh:Sh) (xs:List CX) (loc var:List AV) (s:AE):Option (AV×AE):=
 match sh with
 | .p1 f=>wF f xs loc var s
 | .p2 f=>wG f xs loc var s
 | .p f=>ED s (f (D3 loc var xs))
 | .r1 f=>wH f xs loc var s
 | .r f=>ED s (f s (D3 loc var xs))
 | .mk f=>SC s (f (D3 loc var xs))
 | .e f=>f s (D3 loc var xs)
 | .call f=>F.call f (D3 loc var xs) s
 | .callv=>shV F xs loc var s
def tr(want:Bool):AV→Bool
 | .bool b=>b == want
 | _=>false
def Bs (loc var:List AV) (g:Option (CX×Bool)):Bool:=
 match g with
 | none=>true
 | some p=>tr p.2 (DK loc var p.1)
def tK:AV→Bool
 | .junk=>true
 | _=>false
def YF (loc var:List AV) (g:Option (CX×Bool)):Bool:=
 match g with
 | none=>false
 | some p=>tK (DK loc var p.1)
def OB(x:Option AV)(v:AV):Bool:=match x with
 | some u=>Fl u v
 | none=>false
def Fd (s:AE) (loc var:List AV) (r:Gr):Bool:=
 !Bs loc var r.guard || OB (Es r.sh (D3 loc var r.xs) s) (DK loc var r.ans)
def Ek (s:AE) (loc var:List AV) (l:List Gr):Bool:=
 List.rec true (fun r _ ih=>Fd s loc var r && ih) l
abbrev YG:=List AV→List AV→AE→Option (List AV×AE)
def DW (ag:List Gr) (d:Kq) (k:YG) (loc var:List AV) (v:AV) (s:AE):Option (List AV×AE):=
 match d with
 | .push=>bif Ek s (v::loc) var ag then k (v::loc) var s else none
 | .set j=>bif Ek s loc (Gf v var j) ag then k loc (Gf v var j) s else none
def LF (it:AA) (k:YG) (loc var:List AV) (r:Option (AV×AE)):Option (List AV×AE):=
 match r with
 | none=>none
 | some p=>DW it.again it.dst k loc var p.1 p.2
def KZ (F:D4) (it:AA) (k:YG) (loc var:List AV) (s:AE):Option (List AV×AE):=
 match YF loc var it.guard with
 | true=>none
 | false=>match Bs loc var it.guard with
  | true=>LF it k loc var (tf F it.sh it.xs loc var s)
  | false=>DW [] it.dst k loc var BZ s
def En (F:D4) (l:List AA):YG:=
 List.rec (fun _ var s=>some (var,s)) (fun it _ ih loc var s=>KZ F it ih loc var s) l
def Ql(l:List AV):Nat→List AV
 | 0=>[]
 | n+1=>match l with
  | []=>BZ::Ql [] n
  | a::l=>a::Ql l n
def CK (P:Program) (s:AE) (var:List AV):List (CX×Option TypeId)→Option (List AV)
 | []=>some []
 | (x,none)::l=>(CK P s var l).bind fun r=>some (DK [] var x::r)
 | (x,some t)::l=>(AC P s t (DK [] var x)).bind fun v=>(CK P s var l).bind fun r=>some (v::r)
def Bw:List AV→AV
 | [v]=>v
 | l=>.tuple l
def EV(s:AE):List Nat→Option AE
 | []=>some s
 | i::l=>match s.heap.get i with
  | some .mark=>EV (Cc s i) l
  | _=>none
def Dh:LN→Option Code
 | .normal=>none
 | .ret=>some .ret
 | .exit id=>some (.exit id)
def DY (vars:List Tmp) (var:List AV):List Tmp→List AV→Option (List AV)
 | [],[]=>some var
 | t::ts,v::vs=>(BE vars t).bind fun j=>DY vars (Gf v var j) ts vs
 | _,_=>none
def Bb(s:AE)(l:Nat):Option Df:=match s.heap.get l with
 | some (.loop r)=>some r
 | _=>none
def EI(P:Program)(f:FuncId)(c:Code):Option Aa:=(P.funcs[f]?).bind fun fn=>some (Al P f fn.ntmps (Ao P fn) c)
def De(P:Program)(f:FuncId):List Tmp:=match P.funcs[f]? with
 | some fn=>Ao P fn
 | none=>[]
def iY(marks:List Nat)(r:Option (List AV×AE)):Option Ay:=match r with
 | some p=>some ⟨.normal,p.1,marks,p.2⟩
 | none=>none
def Hz(F:D4)(rnd:Option Nat)(b:Aa)(r:Ay):Option Ay:=match r.exit with
 | .normal=>F.code rnd b r.var r.marks r.st
 | _=>some r
def Iz(F:D4)(rnd:Option Nat)(b:Aa)(r:Option Ay):Option Ay:=match r with
 | some r=>Hz F rnd b r
 | none=>none
def RE(F:D4)(rnd:Option Nat)(a b:Aa)(var:List AV)(marks:List Nat)(s:AE)(v:AV):Option Ay:=match v with
 | .bool t=>match t with
  | true=>F.code rnd a var marks s
  | false=>F.code rnd b var marks s
 | _=>none
def K1(id:Nat)(r:Ay):Option Ay:=match r.exit with
 | .exit id'=>bif Nat.beq id' id then some ⟨.normal,r.var,r.marks,r.st⟩else some r
 | _=>some r
def Lr(id:Nat)(r:Option Ay):Option Ay:=match r with
 | some r=>K1 id r
 | none=>none
def G0(var:List AV)(marks:List Nat)(s:AE)(c:Option Code):Option Ay:=match c with
 | none=>some ⟨.normal,var,marks,s⟩
 | some .ret=>some ⟨.ret,var,marks,s⟩
 | some (.exit id)=>some ⟨.exit id,var,marks,s⟩
 | some _=>none
def UM:LoopState→Bool
 | .busy=>true
 | _=>false
def LE:LoopState→Bool
 | .ready=>true
 | _=>false
def Ha(var:List AV)(marks:List Nat)(l:Nat)(q:Option (AV×AE)):Option Ay:=
 q.bind fun q=>(Bb q.2 l).bind fun r=>bif UM r.state then none else
  G0 var marks (setObj q.2 l (.loop { r with state:=.exhausted })) r.pending
def FT(F:D4)(var:List AV)(f:AV)(params:Array Tmp)(assign body:Code)(fn:FuncId)(dfr:Nat)(marks:List Nat)(s:AE):Option Ay:=
 Ha var marks s.next (G3 { F with round:=fun _ _ _=>none } f [.yield s.next] (newObj s (.loop { state:=.ready,pending:=none,fn,var,params,assign,body,dfr })))
def Ls(F:D4)(rnd:Option Nat)(fn:FuncId)(f:AV)(params:Array Tmp)(assign body:Code)(var:List AV)(marks:List Nat)(s:AE):Option Ay:=
 match rnd with
 | some l=>(Bb s l).bind fun r=>FT F var f params assign body fn r.dfr marks s
 | none=>FT F var f params assign body fn s.next (s.next::marks) (newObj s .mark)
def tJ:BD→Option BD
 | .row r=>some (.row { r with mode:=.ro,par:=none })
 | .map kt es=>some (.mapRo kt es)
 | .mapRo kt es=>some (.mapRo kt es)
 | _=>none
def frz(n:Nat)(h:AZ BD):AE:=⟨n,h.mapO tJ⟩
def Ih:AV→Bool
 | .agg _=>false
 | _=>true
def OC(a b:AV):Bool:=match a,b with
 | .junk,.junk=>true
 | _,_=>Fl a b
def PY:List AV→List AV→Option (List AV)
 | [],[]=>some []
 | a::l,b::m=>(bif OC a b then some a else AP (Ih a && Ih b) (some .junk)).bind fun c=>(PY l m).bind fun r=>some (c::r)
 | _,_=>none
def vE(x b:AV):Bool:=OC x b || (Ih x && OC .junk b)
def T7:List AV→List AV→Bool
 | [],[]=>true
 | x::l,b::m=>vE x b && T7 l m
 | _,_=>false
def Hp:List Nat→List Nat→Bool
 | [],[]=>true
 | a::l,b::m=>Nat.beq a b && Hp l m
 | _,_=>false
def Ni(id2:Nat):LN→Bool
 | .normal=>true
 | .exit i=>Nat.beq i id2
 | .ret=>false
def Cu (F:D4) (rnd:Option Nat) (r:Je) (body:Aa) (A:List AV) (marks:List Nat) (s:AE) (k:AV):Option (List AV):=
 (F.code rnd body (Gf k (Gf (.bool true) A r.jok) r.jk) marks s).bind fun q=>AP (Ni r.id2 q.exit && Hp q.marks marks) (some q.var)
def Id (f:AV→Option (List AV)) (B:List AV):List (AV×AV)→Option (List AV)
 | []=>some B
 | e::l=>(f e.1).bind fun X=>(PY B X).bind fun B'=>Id f B' l
def E4 (f:AV→Option (List AV)) (B:List AV):List (AV×AV)→Bool
 | []=>true
 | e::l=>(match f e.1 with | some X=>T7 X B | none=>false) && E4 f B l
def Mu (F:D4) (rnd:Option Nat) (r:Je) (body:Aa) (it:AV) (marks:List Nat) (s:AE) (A0:List AV) (l:List (AV×AV)):Option (List AV):=
 (Id (Cu F rnd r body A0 marks s) A0 l).bind fun A1=>AP (E4 (Cu F rnd r body A1 marks s) A1 l && (Fl (Ma A1 r.jt) it && T7 A0 A1)) (some A1)
def PC (r:Je) (marks:List Nat) (s:AE) (A:Option (List AV)):Option Ay:=
 A.bind fun A=>some ⟨.normal,Gf (.bool false) A r.jok,marks,s⟩
def WA(s:AE):AV→Option (List (AV×AV))
 | .map (some i)=>match s.heap.get i with
  | some (.map _ es)=>some es
  | some (.mapRo _ es)=>some es
  | _=>none
 | _=>none
def iZ (F:D4) (rnd:Option Nat) (r:Je) (body:Aa) (var:List AV) (marks:List Nat) (s:AE):Option Ay:=
 (r.rd s (DK [] var r.ad)).bind fun m=>(WA s m).bind fun es =>
  PC r marks ⟨s.next+1,s.heap⟩ (Mu F rnd r body (.ptr (some (s.next,0))) marks (frz (s.next+1) s.heap) (Gf (.ptr (some (s.next,0))) var r.jt) es)
def DG (F:D4) (rnd:Option Nat) (c:Aa) (var:List AV) (marks:List Nat) (s:AE):Option Ay:=
 match c with
 | .skip=>some ⟨.normal,var,marks,s⟩
 | .ret=>some ⟨.ret,var,marks,s⟩
 | .exit id=>some ⟨.exit id,var,marks,s⟩
 | .never=>none
 | .ops l=>iY marks (En F l [] var s)
 | .seq a b=>Iz F rnd b (F.code rnd a var marks s)
 | .cond x a b=>RE F rnd a b var marks s (DK [] var x)
 | .block id body=>Lr id (F.code rnd body var marks s)
 | .loop body=>Iz F rnd (.loop body) (F.code rnd body var marks s)
 | .rangeFunc fn f params assign body=>Ls F rnd fn (DK [] var f) params assign body var marks s
 | .rangeMap r body=>iZ F rnd r body var marks s
def V5:LN→Bool
 | .normal | .ret=>true
 | .exit _=>false
def K4 (P:Program) (cf:Ah) (r:Option Ay):Option (AV×AE):=
 r.bind fun r=>bif V5 r.exit then (EV r.st r.marks).bind fun s=>(CK P s r.var cf.results).bind fun l=>some (Bw l,s)else none
def G1 (P:Program) (F:D4) (args:List AV) (s:AE) (cf:Option Ah):Option (AV×AE):=
 cf.bind fun cf=>bif Nat.beq args.length cf.na then K4 P cf (F.code none cf.body (Ql args cf.nv) [] s)else none
def ID (E:CU) (F:D4) (f:FuncId) (args:List AV) (s:AE):Option (AV×AE):=
 match E.nat f args s with
 | some p=>some p
 | none=>G1 E.P F args s (AO E.P f)
def I6:LN→Bool
 | .normal=>true
 | _=>false
def Hr:Option Code→LoopState
 | none=>.ready
 | some _=>.done
def JR(l:Nat)(q:Option Ay):Option (AV×AE):=q.bind fun q=>(Bb q.st l).bind fun r =>
 some (.bool (Dh q.exit).isNone,setObj q.st l (.loop { r with state:=Hr (Dh q.exit),pending:=Dh q.exit }))
def Hn(F:D4)(l:Nat)(cb:Aa)(q:Option Ay):Option (AV×AE):=q.bind fun q=>bif I6 q.exit then
  (Bb q.st l).bind fun r=>bif LE r.state then JR l (F.code (some l) cb q.var q.marks (setObj q.st l (.loop { r with state:=.busy })))else none
 else none
def Km (E:CU) (F:D4) (l:Nat) (args:List AV) (s:AE):Option (AV×AE):=
 (Bb s l).bind fun r=>(DY (De E.P r.fn) r.var r.params.toList args).bind fun var =>
  (EI E.P r.fn r.assign).bind fun ca=>(EI E.P r.fn r.body).bind fun cb=>Hn F l cb (F.code (some l) ca var [] s)
def vJ:D4:=⟨fun _ _ _ _ _=>none,fun _ _ _=>none,fun _ _ _=>none⟩
def vH (E:CU) (F:D4):D4:=⟨DG F,ID E F,Km E F⟩
def ER (E:CU) (n:Nat):D4:=Nat.rec vJ (fun _ F=>vH E F) n
structure RB where
 b:Nat
 off:Nat
 N:Nat
 sz:Nat
abbrev BU:=Nat→Option RB
mutual
inductive Ab (ρ:BU):AV→Value→Prop
 | bool (b:Bool):Ab ρ (.bool b) (.bool b)
 | int (k:IntKind) (n:Int):Ab ρ (.int k n) (.int k n)
 | str {l:List Nat} {s:ByteArray} (h:s.data.toList.map (fun(b:UInt8)=>b.toNat)=l):Ab ρ (.str l) (.string s)
 | ptrNil:Ab ρ (.ptr none) (.pointer none)
 | ptr {i o:Nat} {rb:RB} (h:ρ i=some rb):Ab ρ (.ptr (some (i,o))) (.pointer (some ⟨rb.b,rb.off+o,none⟩))
 | gptr (g o:Nat):Ab ρ (.gptr g o) (.pointer (some ⟨g,o,none⟩))
 | sliceNil:Ab ρ (.slice none 0 (some 0)) (.slice none 0 0)
 | slice {i o len c:Nat} {rb:RB} (h:ρ i=some rb) (hl:len≤c):Ab ρ (.slice (some (i,o)) len (some c)) (.slice (some ⟨rb.b,rb.off+o,none⟩) len c)
 | sliceOpen {i o len c:Nat} {rb:RB} (h:ρ i=some rb) (hs:0<rb.sz) (hl:len≤c) (h1:o+c * rb.sz≤rb.N) (h2:rb.N<o+(c+1) * rb.sz):
   Ab ρ (.slice (some (i,o)) len none) (.slice (some ⟨rb.b,rb.off+o,none⟩) len c)
 | sliceEnd {i o:Nat} {rb:RB} {a:Addr} (h:ρ i=some rb) (hs:0<rb.sz) (h1:o≤rb.N) (h2:rb.N<o+rb.sz):
   Ab ρ (.slice (some (i,o)) 0 none) (.slice (some a) 0 0)
 | mapNil:Ab ρ (.map none) (.map none)
 | map {i:Nat} {rb:RB} (h:ρ i=some rb):Ab ρ (.map (some i)) (.map (some rb.b))
 | func {f:FuncId} {a c:List AV} {a' c':Array Value} (ha:AX ρ a a'.toList) (hc:AX ρ c c'.toList):Ab ρ (.func f a c) (.func (.func f) a' c')
 | yield {i:Nat} {rb:RB} (h:ρ i=some rb):Ab ρ (.yield i) (.func (.yield rb.b) #[] #[])
 | nilFunc:Ab ρ .nilFunc .nilFunc
 | nilIface:Ab ρ .nilIface .nilIface
 | iface {t:TypeId} {v:AV} {v':Value} (h:Ab ρ v v'):Ab ρ (.iface t v) (.iface t v')
 | agg {cs:List AV} {cs':Array Value} (h:AX ρ cs cs'.toList):Ab ρ (.agg cs) (.agg cs')
 | tuple {cs:List AV} {cs':Array Value} (h:AX ρ cs cs'.toList):Ab ρ (.tuple cs) (.tuple cs')
 | any {v':Value} (h:v'.cells.toList=[v']):Ab ρ .junk v'
inductive AX (ρ:BU):List AV→List Value→Prop
 | nil:AX ρ [] []
 | cons {v:AV} {v':Value} {l:List AV} {l':List Value} (h:Ab ρ v v') (hs:AX ρ l l'):AX ρ (v::l) (v'::l')
end
def BU.le(ρ σ:BU):Prop:=∀i rb,ρ i=some rb→σ i=some rb
theorem BU.le_refl(ρ:BU):ρ.le ρ:=fun _ _ h=>h
theorem BU.le_trans{ρ σ τ:BU}(h:ρ.le σ)(k:σ.le τ):ρ.le τ:=fun i rb e=>k i rb (h i rb e)
mutual
theorem Ab.mono{ρ σ:BU}(le:ρ.le σ){v:AV}{v':Value}(h:Ab ρ v v'):Ab σ v v':=by
 cases h with
 | bool b=>exact .bool b
 | int k n=>exact .int k n
 | str h=>exact .str h
 | ptrNil=>exact .ptrNil
 | ptr h=>exact .ptr (le _ _ h)
 | gptr g o=>exact .gptr g o
 | sliceNil=>exact .sliceNil
 | slice h hl=>exact .slice (le _ _ h) hl
 | sliceOpen h hs hl h1 h2=>exact .sliceOpen (le _ _ h) hs hl h1 h2
 | sliceEnd h hs h1 h2=>exact .sliceEnd (le _ _ h) hs h1 h2
 | mapNil=>exact .mapNil
 | map h=>exact .map (le _ _ h)
 | func ha hc=>exact .func (AX.mono le ha) (AX.mono le hc)
 | yield h=>exact .yield (le _ _ h)
 | nilFunc=>exact .nilFunc
 | nilIface=>exact .nilIface
 | iface h=>exact .iface (Ab.mono le h)
 | agg h=>exact .agg (AX.mono le h)
 | tuple h=>exact .tuple (AX.mono le h)
 | any h=>exact .any h
theorem AX.mono{ρ σ:BU}(le:ρ.le σ){v:List AV}{v':List Value}(h:AX ρ v v'):AX σ v v':=by
 cases h with
 | nil=>exact .nil
 | cons h hs=>exact .cons (Ab.mono le h) (AX.mono le hs)
end
section lists
variable{ρ:BU}
theorem AX.length{l:List AV}{l':List Value}(h:AX ρ l l'):l.length=l'.length:=by
 induction l generalizing l' with
 | nil=>cases h;rfl
 | cons a l ih=>cases h with | cons h hs=>simp[ih hs]
theorem AX.get{l:List AV}{l':List Value}(h:AX ρ l l'){k:Nat}{v:AV}(hk:l[k]? = some v):∃v',l'[k]? = some v'∧Ab ρ v v':=by
  induction l generalizing l' k with
  | nil=>simp at hk
  | cons a l ih =>
    cases h with
    | cons h hs =>
      cases k with
      | zero=>simp at hk;subst hk;exact⟨_,rfl,h⟩
      | succ k=>simp at hk;obtain⟨v',h1,h2⟩:=ih hs hk;exact⟨v',by simpa using h1,h2⟩
theorem AX.of_get{l:List AV}{l':List Value}(hl:l.length=l'.length)(h:∀ (k:Nat)(v:AV)(v':Value),l[k]? = some v→l'[k]? = some v'→Ab ρ v v'):AX ρ l l':=by
  induction l generalizing l' with
  | nil=>cases l' with | nil=>exact .nil | cons=>simp at hl
  | cons a l ih =>
    cases l' with
    | nil=>simp at hl
    | cons a' l'=>exact .cons (h 0 a a' rfl rfl) (ih (by simpa using hl) fun k v v' h1 h2=>h (k+1) v v' (by simpa using h1) (by simpa using h2))
theorem AX.append{l m:List AV}{l' m':List Value}(h:AX ρ l l')(k:AX ρ m m'):AX ρ (l++m) (l'++m'):=by
 induction l generalizing l' with
 | nil=>cases h;exact k
 | cons a l ih=>cases h with | cons h hs=>exact .cons h (ih hs)
theorem AX.take{l:List AV}{l':List Value}(h:AX ρ l l')(n:Nat):AX ρ (l.take n) (l'.take n):=by
  induction l generalizing l' n with
  | nil=>cases h;simp;exact .nil
  | cons a l ih =>
    cases h with
    | cons h hs=>cases n with
      | zero=>exact .nil
      | succ n=>exact .cons h (ih hs n)
theorem AX.drop{l:List AV}{l':List Value}(h:AX ρ l l')(n:Nat):AX ρ (l.drop n) (l'.drop n):=by
  induction l generalizing l' n with
  | nil=>cases h;simp;exact .nil
  | cons a l ih =>
    cases h with
    | cons h hs=>cases n with
      | zero=>exact .cons h hs
      | succ n=>exact ih hs n
theorem Ab.cells{v:AV}{v':Value}(h:Ab ρ v v'):AX ρ v.cells v'.cells.toList:=by
 cases h with
 | agg h=>exact h
 | bool b=>exact .cons (.bool b) .nil
 | int k n=>exact .cons (.int k n) .nil
 | str h=>exact .cons (.str h) .nil
 | ptrNil=>exact .cons .ptrNil .nil
 | ptr h=>exact .cons (.ptr h) .nil
 | gptr g o=>exact .cons (.gptr g o) .nil
 | sliceNil=>exact .cons .sliceNil .nil
 | slice h hl=>exact .cons (.slice h hl) .nil
 | sliceOpen h hs hl h1 h2=>exact .cons (.sliceOpen h hs hl h1 h2) .nil
 | sliceEnd h hs h1 h2=>exact .cons (.sliceEnd h hs h1 h2) .nil
 | mapNil=>exact .cons .mapNil .nil
 | map h=>exact .cons (.map h) .nil
 | func ha hc=>exact .cons (.func ha hc) .nil
 | yield h=>exact .cons (.yield h) .nil
 | nilFunc=>exact .cons .nilFunc .nil
 | nilIface=>exact .cons .nilIface .nil
 | iface h=>exact .cons (.iface h) .nil
 | tuple h=>exact .cons (.tuple h) .nil
 | any h=>rw[h];exact .cons (.any h) .nil
theorem Ab.oneCell{v:AV}{v':Value}(h:Ab ρ v v')(hc:v.isCell=true):v'.oneCell'=true:=by
 cases h<;>first | rfl | cases hc
theorem AX.oneCell{l:List AV}{l':List Value}(h:AX ρ l l')(hc:An l=true):∀v∈l',v.oneCell'=true:=by
  induction l generalizing l' with
  | nil=>cases h;simp
  | cons a l ih =>
    cases h with
    | cons h hs =>
      simp only[An,Bool.and_eq_true]at hc
      intro v hv
      rcases List.mem_cons.1 hv with rfl | hv
      · exact h.oneCell hc.1
      · exact ih hs hc.2 v hv
end lists
theorem JI(ρ:BU){v:Value}{a:AV}(h:JH v=some a):Ab ρ a v:=by
 unfold JH at h
 split at h<;>first
  | (injection h with h;subst h;first | exact .bool _ | exact .int _ _ | exact .str rfl | exact .ptrNil | exact .sliceNil | exact .mapNil | exact .nilFunc | exact .nilIface)
  | cases h
theorem Fh(ρ:BU):∀ {l:List Value}{r:List AV},FA l=some r→AX ρ r l
 | [],r,h=>by simp[FA]at h;subst h;exact .nil
 | v::l,r,h=>by
  simp only[FA,xY]at h
  obtain⟨a,ha,r',hr,h⟩:=h
  injection h with h;subst h
  exact .cons (JI ρ ha) (Fh ρ hr)
theorem CT(ρ:BU){v:Value}{a:AV}(h:ofValue v=some a):Ab ρ a v:=by
 unfold ofValue at h
 split at h
 ·simp only[xY]at h
  obtain⟨l,hl,h⟩:=h
  injection h with h;subst h
  exact .agg (Fh ρ hl)
 ·simp only[xY]at h
  obtain⟨l,hl,h⟩:=h
  injection h with h;subst h
  exact .tuple (Fh ρ hl)
 ·exact JI ρ h
theorem D1(ρ:BU):Ab ρ BZ undef:=.tuple .nil
theorem AD{α:Type}{b:Bool}{x:Option α}{a:α}(h:AP b x=some a):b=true∧x=some a:=by
 cases b with
 | true=>exact⟨rfl,h⟩
 | false=>cases h
inductive EZ (ρ:BU):List (AV×AV)→List MapEntry→Prop
 | nil:EZ ρ [] []
 | cons {k v:AV} {e:MapEntry} {l:List (AV×AV)} {l':List MapEntry} (hk:Ab ρ k e.key) (hv:Ab ρ v e.val) (hs:EZ ρ l l'):EZ ρ ((k,v)::l) (e::l')
theorem EZ.mono{ρ σ:BU}(le:ρ.le σ){l:List (AV×AV)}{l':List MapEntry}(h:EZ ρ l l'):EZ σ l l':=by
 induction h with
 | nil=>exact .nil
 | cons hk hv _ ih=>exact .cons (hk.mono le) (hv.mono le) ih
theorem EZ.length{ρ:BU}{l:List (AV×AV)}{l':List MapEntry}(h:EZ ρ l l'):l.length=l'.length:=by
 induction h with
 | nil=>rfl
 | cons _ _ _ ih=>simp[ih]
structure KN(P:Program)(ρ:BU)(w:World)(kt:TypeId)(es:List (AV×AV))(rb:RB):Prop where
 ex:∃ (es':Array MapEntry) (clock:Nat),w.heap[rb.b]? = some (.map es' clock)∧MapKept.Stamped es' clock∧(∃l,l.Perm es'.toList∧EZ ρ es l)∧∀e∈es'.toList,∃l,keyOf P kt e.key=some l
structure Cn(ρ:BU)(w:World)(r:D2)(rb:RB):Prop where
 cells:∀k v,k<r.n→r.c.get k=some v→∃v',w.cell? ⟨rb.b,rb.off+k,none⟩=some v'∧Ab ρ v v'
 le:r.n≤rb.N
 sz:r.sz=rb.sz
 tight:r.spare=false→rb.N=r.n
 own:r.mode≠.ro→∃cs,w.heap[rb.b]? = some (.cells cs r.elem (0,0))∧rb.off+rb.N≤cs.size
 base:r.bytes=true→rb.off=0
 gl:∀g,r.glob=some g→rb.b=g∧rb.off=0
 par:∀p,r.par=some p→∃rp,ρ p=some rp
def EW(ρ:BU)(vars:List Tmp)(var:List AV)(tmps:Array Value):Prop:=
 ∀ (t:Tmp) (k:Nat),BE vars t=some k→t<tmps.size∧∃v:AV,var[k]? = some v∧Ab ρ v (tmps.getD t undef)
end
end Go.Proofs.YtjnkfbpadpmakaaGreatDoor.Am
set_option linter.unusedVariables false
set_option linter.unusedSimpArgs false
namespace Go.Proofs.YtjnkfbpadpmakaaGreatDoor.Am
open Go
noncomputable section
theorem F9{α:Type}{P:Program}{w:World}:∀ {s:Sem α}{a:α},DI P s=some a→s.run P w=.ok a w:=by
 intro s
 induction s with
 | pure b=>intro a h;simp[DI]at h;subst h;rfl
 | program k ih=>intro a h;simp only[DI]at h;simp only[Sem.run];exact ih P h
 | mark m k ih=>intro a h;simp only[DI]at h;simp only[Sem.run];exact ih h
 | load=>intro a h;simp[DI]at h
 | store=>intro a h;simp[DI]at h
 | new=>intro a h;simp[DI]at h
 | shape=>intro a h;simp[DI]at h
 | freeze=>intro a h;simp[DI]at h
 | frozen=>intro a h;simp[DI]at h
 | getObj=>intro a h;simp[DI]at h
 | setObj=>intro a h;simp[DI]at h
 | choose=>intro a h;simp[DI]at h
 | sys=>intro a h;simp[DI]at h
 | halt=>intro a h;simp[DI]at h
section types
variable{P:Program}{w:World}{t:TypeId}
theorem AN{d:TypeDesc}(h:P.underlying t=some d):(underlying t).run P w=.ok d w:=by simp[underlying,h]
theorem Ho{g:Bool}(h:EF P t=some g):(isAgg t).run P w=.ok g w:=by
 unfold EF at h
 split at h
 ·injection h with h;subst h;simp[isAgg,underlying, *]
 ·injection h with h;subst h;simp[isAgg,underlying, *]
 ·rename_i d _ _ hd
  injection h with h;subst h
  simp only[isAgg,Sem.run_bind,AN hd,Result.andThen_ok]
  cases d<;>simp_all
 ·cases h
theorem BF{n:Nat}(h:BG P t=some n):(sizeOf t).run P w=.ok n w:=by
 unfold BG at h
 split at h
 ·injection h with h;subst h;simp[sizeOf,typeInfo, *]
 ·cases h
theorem Xw{n:Nat}(h:DL P t=some n):∃i,(typeInfo t).run P w=.ok i w∧i.bytes=n:=by
 unfold DL at h
 split at h
 ·injection h with h;rename_i i hi;exact⟨i,by simp[typeInfo,hi],h⟩
 ·cases h
theorem JT(ρ:BU){z:AV}(h:EE P t=some z):∃v,(zeroValue t).run P w=.ok v w∧Ab ρ z v:=by
  unfold EE at h
  split at h
  · split at h
    · rename_i i hi _ v hv
      exact⟨v,by simp[zeroValue,typeInfo,hi,hv],CT ρ h⟩
    · cases h
  · cases h
end types
theorem LM{k:IntKind}{n:Int}(h:CB k n=true):k.wrap n=n:=by
 have hb:k.min≤n∧n≤k.max:=by
  unfold CB at h
  cases n with
  | ofNat m=>cases k<;>simp[xo]at h<;>simp[IntKind.min,IntKind.max,IntKind.signed,IntKind.bits]<;>omega
  | negSucc m=>cases k<;>simp[xo]at h<;>simp[IntKind.min,IntKind.max,IntKind.signed,IntKind.bits]<;>omega
 cases k<;>simp[IntKind.min,IntKind.max,IntKind.signed,IntKind.bits]at hb<;>simp only[IntKind.wrap,IntKind.signed,IntKind.bits]<;>simp<;>omega
theorem FS(k:IntKind)(n:Int):DT k n=k.wrap n:=by
 unfold DT
 cases h:CB k n with
 | true=>simp[LM h]
 | false=>rfl
theorem DD(a b:Int):NE a b=decide (a<b):=by
 cases a with
 | ofNat a=>cases b with
  | ofNat b=>rw[Bool.eq_iff_iff];simp only[NE,yI,decide_eq_true_iff,A0E];omega
  | negSucc b=>simp only[NE];rw[eq_comm,decide_eq_false_iff_not];simp only[A0E];omega
 | negSucc a=>cases b with
  | ofNat b=>simp only[NE];rw[eq_comm,decide_eq_true_iff];simp only[A0E];omega
  | negSucc b=>rw[Bool.eq_iff_iff];simp only[NE,yI,decide_eq_true_iff];omega
theorem Em(a b:Int):NF a b=(a == b):=by
 rw[Bool.eq_iff_iff,beq_iff_eq]
 cases a with
 | ofNat a=>cases b with
  | ofNat b=>simp only[NF,zJ,A0E];omega
  | negSucc b=>simp[NF]
 | negSucc a=>cases b with
  | ofNat b=>simp[NF]
  | negSucc b=>simp only[NF,zJ];omega
theorem DQ{k k':IntKind}(h:B7 k k'=true):k=k':=by cases k<;>cases k'<;>first | rfl | cases h
theorem fo{n:Int}{m:Nat}(h:WB n=some m):n=(m:Int):=by cases n<;>simp[WB]at h;subst h;rfl
theorem fT{P:Program}{ρ:BU}{op:BinOp}{k:IntKind}{a b:Int}{v:AV}(h:fS P op k a b=some v)(t:TypeId)(w:World):
  ∃v',(Go.binOp op t (.int k a) (.int k b)).run P w=.ok v' w∧Ab ρ v v':=by
 unfold fS at h
 split at h
 case h_1=>injection h with h;subst h;exact⟨.int k (k.wrap (a+b)),by simp[Go.binOp,Op.intArith],by rw[FS];exact .int _ _⟩
 case h_2=>injection h with h;subst h;exact⟨.int k (k.wrap (a - b)),by simp[Go.binOp,Op.intArith],by rw[FS];exact .int _ _⟩
 case h_3=>injection h with h;subst h;exact⟨.int k (k.wrap (a * b)),by simp[Go.binOp,Op.intArith],by rw[FS];exact .int _ _⟩
 case h_4=>injection h with h;subst h;exact⟨.bool (a == b),by simp[Go.binOp,Op.intCmp],by rw[Em];exact .bool _⟩
 case h_5=>injection h with h;subst h;exact⟨.bool (a != b),by simp[Go.binOp,Op.intCmp],by rw[Em];exact .bool _⟩
 case h_6=>injection h with h;subst h;exact⟨.bool (a<b),by simp[Go.binOp,Op.intCmp],by rw[DD];exact .bool _⟩
 case h_7=>injection h with h;subst h;exact⟨.bool (a≤b),by simp[Go.binOp,Op.intCmp],by rw[DD,show(!decide (b<a))=decide (a≤b)from by rw[Bool.eq_iff_iff];simp];exact .bool _⟩
 case h_8=>injection h with h;subst h;exact⟨.bool (a > b),by simp[Go.binOp,Op.intCmp],by rw[DD];exact .bool _⟩
 case h_9=>injection h with h;subst h;exact⟨.bool (a≥b),by simp[Go.binOp,Op.intCmp],by rw[DD,show(!decide (a<b))=decide (a≥b)from by rw[Bool.eq_iff_iff];simp];exact .bool _⟩
 case h_10 =>
  simp only[xY]at h
  obtain⟨u,hu,h⟩:=h
  exact⟨u,by have:=F9 (w:=w) hu;simpa[Go.binOp]using this,CT ρ h⟩
 case h_11 =>
  simp only[xY]at h
  obtain⟨u,hu,h⟩:=h
  exact⟨u,by have:=F9 (w:=w) hu;simpa[Go.binOp]using this,CT ρ h⟩
 case h_12=>cases h
 case h_13=>cases h
 case h_14 =>
  simp only[xY]at h
  obtain⟨u,hu,h⟩:=h
  refine⟨u,?_,CT ρ h⟩
  have:=F9 (w:=w) hu
  rename_i n1 n2 n3 n4 n5 n6 n7 n8 n9 n10 n11 n12 n13
  cases op<;>first | (exfalso;simp at *;done) | simpa[Go.binOp]using this
abbrev EA(l:List UInt8):List Nat:=l.map (fun(b:UInt8)=>b.toNat)
theorem toNat_inj{a b:UInt8}(h:a.toNat=b.toNat):a=b:=UInt8.toNat_inj.1 h
theorem Ij:∀ (x y:List UInt8),DZ (EA x) (EA y)=(x == y)
 | [],[]=>rfl
 | [],_::_=>rfl
 | _::_,[]=>rfl
 | a::x,b::y=>by
  simp only[EA,yw,DZ]
  by_cases e:a=b
  ·subst e
   have:Nat.beq a.toNat a.toNat=true:=by simp[zJ]
   rw[this]
   have ih:=Ij x y
   simp only[EA]at ih
   simp[ih]
  ·have:Nat.beq a.toNat b.toNat=false:=AZ.beq_no (fun h=>e (toNat_inj h))
   rw[this]
   simp[e]
theorem M7:∀ (x y:List UInt8),HR (EA x) (EA y)=Op.bytesLess x y
 | [],[]=>rfl
 | [],_::_=>rfl
 | _::_,[]=>rfl
 | a::x,b::y=>by
  simp only[EA,yw,HR,Op.bytesLess]
  have ih:=M7 x y
  simp only[EA]at ih
  have h1:Nat.blt a.toNat b.toNat=decide (a<b):=by rw[Bool.eq_iff_iff];simp[yI,UInt8.lt_iff_toNat_lt]
  have h2:Nat.beq a.toNat b.toNat=(a == b):=by
   rw[Bool.eq_iff_iff,beq_iff_eq,zJ]
   exact⟨fun h=>toNat_inj h,fun h=>by rw[h]⟩
  rw[h1,h2,ih]
  cases decide (a<b)<;>cases (a == b)<;>rfl
theorem GA(s:ByteArray):(EA s.data.toList).length=s.size:=by simp[EA]
theorem gZ{P:Program}{ρ:BU}{op:BinOp}{x y:ByteArray}{v:AV}(h:WQ op (EA x.data.toList) (EA y.data.toList)=some v)(w:World):
  ∃v',(Op.stringOp op x y).run P w=.ok v' w∧Ab ρ v v':=by
 unfold WQ at h
 rw[Ij,M7,GA,GA]at h
 unfold Op.stringOp
 rw[ByteArray.toList_eq,ByteArray.toList_eq]
 split at h
 case h_1 =>
  obtain⟨hb,h⟩:=AD h
  injection h with h;subst h
  have hb':x.size+y.size≤1152921504606846976:=by simpa[xo]using hb
  refine⟨.string (x++y),?_,.str (by simp[EA])⟩
  have:¬ ((x.size+y.size:Nat):Int) > IntKind.i64.max:=by simp[IntKind.max,IntKind.signed,IntKind.bits];omega
  simp only[this,if_false]
  rfl
 case h_2=>injection h with h;subst h;exact⟨_,rfl,.bool _⟩
 case h_3=>injection h with h;subst h;exact⟨_,rfl,.bool _⟩
 case h_4=>injection h with h;subst h;exact⟨_,rfl,.bool _⟩
 case h_5=>injection h with h;subst h;exact⟨_,rfl,.bool _⟩
 case h_6=>injection h with h;subst h;exact⟨_,rfl,.bool _⟩
 case h_7=>injection h with h;subst h;exact⟨_,rfl,.bool _⟩
 case h_8=>cases h
section
variable{P:Program}{ρ:BU}{w:World}
theorem KX{t:TypeId}(h:HA P t=true):∃e,P.underlying t=some (.pointer e):=by
 unfold HA at h;split at h
 ·rename_i e he;exact⟨e,he⟩
 ·cases h
theorem H6{t:TypeId}(h:I7 P t=true):∃e,P.underlying t=some (.slice e):=by
 unfold I7 at h;split at h
 ·rename_i e he;exact⟨e,he⟩
 ·cases h
theorem KW{t:TypeId}(h:Jz P t=true):∃k e,P.underlying t=some (.map k e):=by
 unfold Jz at h;split at h
 ·rename_i k e he;exact⟨k,e,he⟩
 ·cases h
theorem GS{t:TypeId}(h:I5 P t=true):∃a b c,P.underlying t=some (.func a b c):=by
 unfold I5 at h;split at h
 ·rename_i a b c he;exact⟨a,b,c,he⟩
 ·cases h
theorem PQ{t:TypeId}(h:PP P t=true):P.underlying t=some .bool:=by
 unfold PP at h;split at h
 ·rename_i he;exact he
 ·cases h
set_option maxHeartbeats 1000000 in
theorem tE{t:TypeId}{x y:AV}{x' y':Value}{b:Bool}(h:jZ P t x y=some b)(hx:Ab ρ x x')(hy:Ab ρ y y')(d:Nat):
  (Op.equalIn (d+1) t x' y').run P w=.ok b w:=by
 unfold jZ at h
 split at h
 all_goals first | (cases h;done) | skip
 ·obtain⟨ht,h⟩:=AD h
  injection h with h;subst h
  cases hx;cases hy
  simp[Op.equalIn,AN (PQ ht)]
 ·obtain⟨ht,h⟩:=AD h
  injection h with h;subst h
  obtain⟨e,ht⟩:=KX ht
  cases hx;cases hy<;>simp[Op.equalIn,AN ht]
 ·obtain⟨ht,h⟩:=AD h
  injection h with h;subst h
  obtain⟨e,ht⟩:=KX ht
  cases hy;cases hx<;>simp[Op.equalIn,AN ht]
 ·obtain⟨ht,h⟩:=AD h
  injection h with h;subst h
  obtain⟨e,ht⟩:=H6 ht
  cases hx;cases hy<;>simp[Op.equalIn,AN ht]
 ·obtain⟨ht,h⟩:=AD h
  injection h with h;subst h
  obtain⟨e,ht⟩:=H6 ht
  cases hy;cases hx<;>simp[Op.equalIn,AN ht]
 ·obtain⟨ht,h⟩:=AD h
  injection h with h;subst h
  obtain⟨k,e,ht⟩:=KW ht
  cases hx;cases hy<;>simp[Op.equalIn,AN ht]
 ·obtain⟨ht,h⟩:=AD h
  injection h with h;subst h
  obtain⟨k,e,ht⟩:=KW ht
  cases hy;cases hx<;>simp[Op.equalIn,AN ht]
 ·obtain⟨ht,h⟩:=AD h
  injection h with h;subst h
  obtain⟨a,b,c,ht⟩:=GS ht
  cases hy;cases hx;simp[Op.equalIn,AN ht]
 ·obtain⟨ht,h⟩:=AD h
  injection h with h;subst h
  obtain⟨a,b,c,ht⟩:=GS ht
  cases hy;cases hx;simp[Op.equalIn,AN ht]
 ·obtain⟨ht,h⟩:=AD h
  injection h with h;subst h
  obtain⟨a,b,c,ht⟩:=GS ht
  cases hy;cases hx;simp[Op.equalIn,AN ht]
theorem fE{t:TypeId}{x y:AV}{x' y':Value}{b:Bool}(h:jZ P t x y=some b)(hx:Ab ρ x x')(hy:Ab ρ y y'):
  (Op.equal t x' y').run P w=.ok b w:=tE h hx hy 9999
def gD:Value→Bool
 | .nilIface | .agg _=>false
 | _=>true
theorem FJ{x':Value}(h:gD x'=true)(op:BinOp)(t:TypeId)(ox oy:Operand)(y':Value):
  (eqGuard op t ox oy x' y').run P w=.ok () w:=by
 cases x'<;>first | (cases h;done) | (cases op<;>rfl)
theorem Nk{t:TypeId}{x y:AV}{x':Value}{b:Bool}(h:jZ P t x y=some b)(hx:Ab ρ x x'):gD x'=true:=by
 unfold jZ at h
 split at h<;>first | (cases h;done) | (cases hx<;>rfl)
theorem VE      {op : BinOp} {t : TypeId} {x y v : AV} {x' y' : Value} (h : AL   P op t x y = some v) (hx : Ab   ρ x x') (hy : Ab   ρ y y') (ox oy : Operand) :
    ∃v',(do eqGuard op t ox oy x' y';Go.binOp op t x' y').run P w=.ok v' w∧Ab ρ v v':=by
  unfold AL at h
  split at h
  · cases hx;cases hy
    rename_i k a k' b
    rw[Sem.run_bind,FJ rfl]
    simp only[Result.andThen_ok]
    split at h
    · simp only[xY]at h
      obtain⟨u,hu,h⟩:=h
      exact⟨u,by have:=F9 (w:=w) hu;simpa[Go.binOp]using this,CT ρ h⟩
    · simp only[xY]at h
      obtain⟨u,hu,h⟩:=h
      exact⟨u,by have:=F9 (w:=w) hu;simpa[Go.binOp]using this,CT ρ h⟩
    · obtain⟨hk,h2⟩:=AD h
      have hkk:=DQ hk
      subst hkk
      exact fT h2 t w
  · cases hx;cases hy
    rename_i a b s1 h1 s2 h2
    subst h1;subst h2
    rw[Sem.run_bind,FJ rfl]
    simp only[Result.andThen_ok]
    obtain⟨v',h1,h2⟩:=gZ (P:=P) (ρ:=ρ) h w
    refine⟨v',?_,h2⟩
    rw[← h1]
    cases op<;>first | rfl | (simp[WQ]at h;done)
  · split at h
    · simp only[xY]at h
      obtain⟨b,hb,h⟩:=h
      injection h with h;subst h
      rw[Sem.run_bind,FJ (Nk hb hx)]
      simp only[Result.andThen_ok]
      refine⟨.bool b,?_,.bool b⟩
      have he:=fE (w:=w) hb hx hy
      have:Go.binOp .eql t x' y'=(do pure (.bool (← Op.equal t x' y')):Sem Value):=by
        unfold jZ at hb
        split at hb<;>first | (cases hb;done) | (cases hx<;>cases hy<;>rfl)
      rw[this,Sem.run_bind,he]
      rfl
    · simp only[xY]at h
      obtain⟨b,hb,h⟩:=h
      injection h with h;subst h
      rw[Sem.run_bind,FJ (Nk hb hx)]
      simp only[Result.andThen_ok]
      refine⟨.bool (!b),?_,.bool _⟩
      have he:=fE (w:=w) hb hx hy
      have:Go.binOp .neq t x' y'=(do pure (.bool (!(← Op.equal t x' y'))):Sem Value):=by
        unfold jZ at hb
        split at hb<;>first | (cases hb;done) | (cases hx<;>cases hy<;>rfl)
      rw[this,Sem.run_bind,he]
      rfl
    · cases h
theorem ti{op:UnOp}{x v:AV}{x':Value}(h:WT P op x=some v)(hx:Ab ρ x x'):
  ∃v',(Op.unary op x').run P w=.ok v' w∧Ab ρ v v':=by
 unfold WT at h
 split at h
 ·cases hx
  rename_i k n
  split at h
  ·injection h with h;subst h
   exact⟨.int k (k.wrap (0 - n)),rfl,by rw[FS];exact .int _ _⟩
  ·simp only[xY]at h
   obtain⟨u,hu,h⟩:=h
   exact⟨u,F9 hu,CT ρ h⟩
  ·cases h
 ·cases hx
  split at h
  ·injection h with h;subst h
   exact⟨_,rfl,.bool _⟩
  ·cases h
 ·cases h
theorem Pe{x v:AV}{x':Value}(h:EP x=some v)(hx:Ab ρ x x')(ev:Operand→Value)(o:Oper)(y:Operand)(ho:o.op=.nilCheck y)(he:ev y=x'):
  ∃v',(execOp ev o).run P w=.ok (.value v') w∧Ab ρ v v':=by
 unfold EP at h
 split at h<;>first | (cases h;done) | skip
 injection h with h;subst h
 refine⟨x',?_,hx⟩
 cases hx<;>first | (simp only[execOp,ho,he];done) | (simp only[execOp,ho,he];rfl) | (exfalso;simp_all;done)
theorem RR{x v:AV}{i:Nat}{x':Value}(h:Zb x i=some v)(hx:Ab ρ x x'):
  ∃v',(Instr.extract x' i).run P w=.ok v' w∧Ab ρ v v':=by
 unfold Zb at h
 split at h<;>first | (cases h;done) | skip
 cases hx with
 | tuple hs =>
  rename_i cs'
  obtain⟨v',h1,h2⟩:=hs.get h
  refine⟨v',?_,h2⟩
  have:cs'[i]? = some v':=by rw[← Array.getElem?_toList];exact h1
  simp[Instr.extract,this]
theorem SQ{t:TypeId}{cs:List AV}{cs':Array Value}{off:Nat}{v:AV}(h:WH P t cs off=some v)(hc:AX ρ cs cs'.toList):
  ∃v',(part t cs' off).run P w=.ok v' w∧Ab ρ v v':=by
 unfold WH at h
 simp only[xY]at h
 obtain⟨g,hg,h⟩:=h
 cases g with
 | true =>
  simp only[xY]at h
  obtain⟨n,hn,h⟩:=h
  injection h with h;subst h
  refine⟨.agg (cs'.extract off (off+n)),by simp[part,Ho hg,BF hn],.agg ?_⟩
  have:(cs'.extract off (off+n)).toList=(cs'.toList.drop off).take n:=by
   rw[Array.toList_extract,List.extract_eq_take_drop]
   congr 1
   omega
  rw[this]
  exact(hc.drop off).take n
 | false =>
  obtain⟨v',h1,h2⟩:=hc.get h
  refine⟨v',?_,h2⟩
  have:cs'[off]? = some v':=by rw[← Array.getElem?_toList];exact h1
  simp[part,Ho hg,this]
theorem MD{x:AV}{x':Value}{k:Nat}(h:Ft x=some k)(hx:Ab ρ x x'):∃kd,x'=.int kd (k:Int):=by
 unfold Ft at h
 split at h<;>first | (cases h;done) | skip
 cases hx
 rename_i kd n
 exact⟨kd,by rw[fo h]⟩
theorem XH{t:TypeId}{x v:AV}{x':Value}{f:Nat}(h:UE P t x f=some v)(hx:Ab ρ x x'):
  ∃v',(Instr.field t x' f).run P w=.ok v' w∧Ab ρ v v':=by
 unfold UE at h
 split at h<;>first | (cases h;done) | skip
 split at h<;>first | (cases h;done) | skip
 rename_i fs hfs
 simp only[xY]at h
 obtain⟨fd,hfd,h⟩:=h
 cases hx with
 | agg hs =>
  obtain⟨v',h1,h2⟩:=SQ (w:=w) h hs
  exact⟨v',by simp[Instr.field,AN hfs,hfd,asAgg,h1],h2⟩
theorem XK        {t : TypeId} {x ix v : AV} {x' ix' : Value} (h : UK     P t x ix = some v) (hx : Ab   ρ x x') (hi : Ab   ρ ix ix') :
    ∃v',(Instr.index t x' ix').run P w=.ok v' w∧Ab ρ v v':=by
  unfold UK at h
  simp only[xY]at h
  obtain⟨k,hk,h⟩:=h
  obtain⟨kd,rfl⟩:=MD hk hi
  split at h<;>first | (cases h;done) | skip
  · split at h<;>first | (cases h;done) | skip
    rename_i len e he
    simp only[xY]at h
    obtain⟨n,hn,h⟩:=h
    obtain⟨hlt,h⟩:=AD h
    have hlt':k<len:=by simpa[yI]using hlt
    cases hx with
    | agg hs =>
      obtain⟨v',h1,h2⟩:=SQ (w:=w) h hs
      refine⟨v',?_,h2⟩
      have:(0:Int)≤(k:Int)∧(k:Int)<(len:Int):=by omega
      simp only[Instr.index,asIntOf,Sem.run_bind,Sem.run_pure,Result.andThen_ok,AN he,this,and_self,if_true,BF hn]
      simpa using h1
  · split at h <;> first | (cases h; done) | skip
    rename_i l _ he
    simp only[xY]at h
    obtain⟨b,hb,h⟩:=h
    injection h with h;subst h
    cases hx with
    | str hs =>
      rename_i s
      subst hs
      rw[yY]at hb
      simp only[Option.map_eq_some_iff]at hb
      obtain⟨u,hu,rfl⟩:=hb
      refine⟨.int .u8 u.toNat,?_,.int _ _⟩
      have h0:(0:Int)≤(k:Int):=by omega
      have:s[k]? = some u:=by
        rw[← hu]
        rcases xf k s.size with hlt | hge
        · rw [getElem?_pos s k hlt, xe                       (by simpa using hlt)]
          rfl
        · rw[getElem?_neg s k (by omega),xr (by simpa using hge)]
      simp[Instr.index,asIntOf,AN he,this]
end
structure Gu(P:Program)(ρ:BU)(w:World)(l:Df)(rb:RB):Prop where
 ex:∃L:Loop,w.heap[rb.b]? = some (.loop L)∧L.state=l.state∧L.pending=l.pending∧L.params=l.params∧L.assign=l.assign∧L.body=l.body ∧
  (∃rd,ρ l.dfr=some rd∧L.defers=rd.b)∧EW ρ (De P l.fn) l.var L.tmps∧(∀fn,P.funcs[l.fn]? = some fn→fn.ntmps≤L.tmps.size)∧l.var.length=(De P l.fn).length
def Fm(P:Program)(ρ:BU)(w:World):BD→RB→Prop
 | .row r,rb=>Cn ρ w r rb
 | .map kt es,rb=>KN P ρ w kt es rb
 | .mapRo kt es,rb=>KN P ρ w kt es rb
 | .loop l,rb=>Gu P ρ w l rb
 | .mark,rb=>w.heap[rb.b]? = some (.deferred (some []))
 | .iter _ _,_=>False
def wr:BD→Bool
 | .row r=>D8 r.mode
 | .mapRo _ _=>false
 | _=>true
def N3:BD→Option Nat
 | .row r=>r.par
 | _=>none
def GR:BD→Option Nat
 | .row r=>r.glob
 | _=>none
structure Ba(P:Program)(ρ:BU)(s:AE)(w:World):Prop where
 obj:∀i o rb,s.heap.get i=some o→ρ i=some rb→Fm P ρ w o rb
 lt:∀i rb,ρ i=some rb→rb.b<w.heap.size
 sep:∀i j oi oj ri rj,i≠j→s.heap.get i=some oi→s.heap.get j=some oj→ρ i=some ri→ρ j=some rj→ri.b=rj.b→wr oj=true→N3 oj=some i∧wr oi=false
 glb:∀i o g,s.heap.get i=some o→GR o=some g→∃rb,ρ i=some rb
def Gi(ρ:BU)(s:AE)(b:Nat):Prop:=∃i o rb,s.heap.get i=some o∧wr o=true∧ρ i=some rb∧rb.b=b
structure Fr(ρ:BU)(s:AE)(w:World)(ρ':BU)(s':AE)(w':World):Prop where
 le:ρ.le ρ'
 fresh:∀i,ρ i=none→(i<s.next∨s'.next≤i)→ρ' i=none
 next:s.next≤s'.next
 size:w.heap.size≤w'.heap.size
 os:w'.os=w.os
 tape:w'.tape=w.tape
 output:w'.output=w.output
 keep:∀b,b<w.heap.size→¬ Gi ρ s b→w'.heap[b]? = w.heap[b]?
 own:∀b,Gi ρ' s' b→Gi ρ s b∨w.heap.size≤b
 unborn:∀i,ρ i=none→(i<s.next∨s'.next≤i)→s'.heap.get i=s.heap.get i
section
variable{P:Program}{ρ ρ1 ρ2:BU}{s s1 s2:AE}{w w1 w2:World}
theorem Fr.refl(ρ:BU)(s:AE)(w:World):Fr ρ s w ρ s w:=
 ⟨BU.le_refl ρ,fun _ h _=>h,xZ _,xZ _,rfl,rfl,rfl,fun _ _ _=>rfl,fun _ h=>.inl h,fun _ _ _=>rfl⟩
theorem Fr.trans(h:Fr ρ s w ρ1 s1 w1)(k:Fr ρ1 s1 w1 ρ2 s2 w2):Fr ρ s w ρ2 s2 w2 where
 le:=BU.le_trans h.le k.le
 fresh:=fun i hi hr=>k.fresh i (h.fresh i hi (hr.imp id (fun h'=>xh k.next h'))) (hr.imp (fun h'=>xi h' h.next) id)
 next:=xh h.next k.next
 size:=xh h.size k.size
 os:=k.os.trans h.os
 tape:=k.tape.trans h.tape
 output:=k.output.trans h.output
 keep:=fun b hb ho=>(k.keep b (xi hb h.size) (fun ho1=>(h.own b ho1).elim ho (fun hge=>by omega))).trans (h.keep b hb ho)
 own:=fun b hb=>(k.own b hb).elim (fun h1=>h.own b h1) (fun hge=>.inr (xh h.size hge))
 unborn:=fun i hi hr=>(k.unborn i (h.fresh i hi (hr.imp id (fun h'=>xh k.next h'))) (hr.imp (fun h'=>xi h' h.next) id)).trans (h.unborn i hi (hr.imp id (fun h'=>xh k.next h')))
theorem I0{a:Addr}(h:w1.heap[a.block]? = w.heap[a.block]?):w1.cell? a=w.cell? a:=by simp[World.cell?,h]
theorem EW.mono{σ:BU}(le:ρ.le σ){vars:List Tmp}{var:List AV}{tmps:Array Value}(h:EW ρ vars var tmps):EW σ vars var tmps:=
 fun t k hk=>let ⟨h1,v,h2,h3⟩:=h t k hk;⟨h1,v,h2,h3.mono le⟩
theorem Fm.mono    {o : BD}   {rb : RB} (h : Fm    P ρ w o rb) (le : ρ.le ρ1) (hk : w1.heap[rb.b]? = w.heap[rb.b]?) : Fm    P ρ1 w1 o rb := by
  cases o with
  | row r =>
    exact⟨fun k v hk' hv=>by
        obtain⟨v',h1,h2⟩:=h.cells k v hk' hv
        exact⟨v',(I0 (a:=⟨rb.b,_,none⟩) hk).trans h1,h2.mono le⟩,
      h.le,h.sz,h.tight,fun hm=>by
        obtain⟨cs,h1,h2⟩:=h.own hm
        exact⟨cs,hk.trans h1,h2⟩,h.base,h.gl,fun p hp=>let ⟨rp,h1⟩:=h.par p hp;⟨rp,le _ _ h1⟩⟩
  | map kt es =>
    obtain⟨es',clock,h1,h2,⟨l,h3,h4⟩,h5⟩:=h.ex
    exact⟨es',clock,hk.trans h1,h2,⟨l,h3,h4.mono le⟩,h5⟩
  | mapRo kt es =>
    obtain⟨es',clock,h1,h2,⟨l,h3,h4⟩,h5⟩:=h.ex
    exact⟨es',clock,hk.trans h1,h2,⟨l,h3,h4.mono le⟩,h5⟩
  | loop l =>
    obtain⟨L,h0,h1,h2,h4,h5,h6,⟨rd,h7,h7'⟩,h8,h9⟩:=h.ex
    exact⟨L,hk.trans h0,h1,h2,h4,h5,h6,⟨rd,le _ _ h7,h7'⟩,h8.mono le,h9⟩
  | mark=>exact hk.trans h
  | iter=>exact h
def B9(ρ:BU)(i:Nat)(rb:RB):BU:=fun j=>if j=i then some rb else ρ j
theorem Ac(i:Nat)(rb:RB):B9 ρ i rb i=some rb:=by simp[B9]
theorem AY{i j:Nat}(rb:RB)(h:j≠i):B9 ρ i rb j=ρ j:=by simp[B9,h]
theorem Bh{i:Nat}{rb:RB}(h:ρ i=none):ρ.le (B9 ρ i rb):=fun j r hj=>by
 have:j≠i:=fun e=>by subst e;rw[h]at hj;cases hj
 rw[AY rb this];exact hj
theorem A7(s:AE)(o:BD)(j:Nat):(newObj s o).heap.get j=if j=s.next then some o else s.heap.get j:=AZ.get_set _ _ _ _
theorem DN(s:AE)(i:Nat)(o:BD)(j:Nat):(setObj s i o).heap.get j=if j=i then some o else s.heap.get j:=AZ.get_set _ _ _ _
theorem Bp(s:AE)(i j:Nat):(Cc s i).heap.get j=if j=i then none else s.heap.get j:=AZ.get_del _ _ _
theorem H5{o:Obj}{b:Nat}(h:b<w.heap.size):(w.alloc o).heap[b]? = w.heap[b]? :=
 Go.RowKit.Below.heap_alloc w o b h
theorem Ba.new  (h : Ba  P ρ s w) {o : BD}   {o' : Obj} {rb : RB} (hf : ρ s.next = none) (hb : rb.b = w.heap.size)
    (ho:Fm P (B9 ρ s.next rb) (w.alloc o') o rb):
    Ba P (B9 ρ s.next rb) (newObj s o) (w.alloc o')∧Fr ρ s w (B9 ρ s.next rb) (newObj s o) (w.alloc o'):=by
  have hle:=Bh (rb:=rb) hf
  have hglb:∀i oi g,(newObj s o).heap.get i=some oi→GR oi=some g→∃r,B9 ρ s.next rb i=some r:=by
    intro i oi g hi hg
    rw[A7]at hi
    by_cases e:i=s.next
    · subst e;exact⟨_,Ac _ _⟩
    · rw[if_neg e]at hi
      obtain⟨r,hr⟩:=h.glb i oi g hi hg
      exact⟨r,hle _ _ hr⟩
  refine⟨⟨?_,?_,?_,hglb⟩,?_⟩
  · intro i oi ri hi hr
    rw[A7]at hi
    by_cases e:i=s.next
    · subst e
      rw[if_pos rfl]at hi
      injection hi with hi
      rw[Ac]at hr
      injection hr with hr
      subst hi;subst hr
      exact ho
    · rw [if_neg e] at hi
      rw[AY rb e]at hr
      exact(h.obj i oi ri hi hr).mono hle (H5 (h.lt i ri hr))
  · intro i ri hr
    by_cases e:i=s.next
    · subst e
      rw[Ac]at hr
      injection hr with hr
      subst hr
      simp[hb]
    · rw[AY rb e]at hr
      have:=h.lt i ri hr
      simp;omega
  · intro i j oi oj ri rj hne hi hj hri hrj hbb hw
    rw[A7]at hi hj
    by_cases ei:i=s.next
    · subst ei
      have ej:j≠s.next:=fun e=>hne e.symm
      rw[Ac]at hri
      rw[AY rb ej]at hrj
      injection hri with hri
      subst hri
      have:=h.lt j rj hrj
      omega
    · by_cases ej : j = s.next
      · subst ej
        rw[AY rb ei]at hri
        rw[Ac]at hrj
        injection hrj with hrj
        subst hrj
        have:=h.lt i ri hri
        omega
      · rw [if_neg ei] at hi
        rw[if_neg ej]at hj
        rw[AY rb ei]at hri
        rw[AY rb ej]at hrj
        exact h.sep i j oi oj ri rj hne hi hj hri hrj hbb hw
  · refine ⟨hle, ?_, by simp [newObj], by simp, rfl, rfl, rfl, fun b hb _ => H5            hb, ?_, ?_⟩
    · intro i hi hr
      have:i≠s.next:=by simp[newObj]at hr;omega
      rw[AY rb this];exact hi
    · rintro b ⟨i, oi, ri, hi, hw, hr, rfl⟩
      rw[A7]at hi
      by_cases e:i=s.next
      · subst e
        rw[Ac]at hr
        injection hr with hr
        subst hr
        exact .inr (by omega)
      · rw [if_neg e] at hi
        rw[AY rb e]at hr
        exact .inl ⟨i,oi,ri,hi,hw,hr,rfl⟩
    · intro i _ hi
      rw[A7,if_neg (by simp[newObj]at hi;omega)]
theorem Ba.set  (h : Ba  P ρ s w) {i : Nat} {o o1 : BD}   {rb : RB} (hg : s.heap.get i = some o) (hr : ρ i = some rb) (hw : wr o = true) (hp : ∀ p, N3    o = some p → p ≠ i → s.heap.get p = none)
    (hp1:N3 o1=none) (hsz:w1.heap.size=w.heap.size) (hkeep:∀b,b≠rb.b→w1.heap[b]? = w.heap[b]?) (hos:w1.os=w.os) (htape:w1.tape=w.tape) (hout:w1.output=w.output)
    (ho:Fm P ρ w1 o1 rb):Ba P ρ (setObj s i o1) w1∧Fr ρ s w ρ (setObj s i o1) w1:=by
  have hsep:∀j oj rj,j≠i→s.heap.get j=some oj→ρ j=some rj→rj.b≠rb.b:=by
    intro j oj rj hne hj hrj e
    have:=hp j (h.sep j i oj o rj rb hne hj hg hrj hr e hw).1 hne
    rw[hj]at this
    cases this
  have hglb:∀j oj g,(setObj s i o1).heap.get j=some oj→GR oj=some g→∃r,ρ j=some r:=by
    intro j oj g hj hg
    rw[DN]at hj
    by_cases e:j=i
    · subst e;exact⟨_,hr⟩
    · rw[if_neg e]at hj
      exact h.glb j oj g hj hg
  refine⟨⟨?_,?_,?_,hglb⟩,?_⟩
  · intro j oj rj hj hrj
    rw[DN]at hj
    by_cases e:j=i
    · subst e
      rw[if_pos rfl]at hj
      injection hj with hj
      subst hj
      rw[hr]at hrj
      injection hrj with hrj
      subst hrj
      exact ho
    · rw[if_neg e]at hj
      exact(h.obj j oj rj hj hrj).mono (BU.le_refl ρ) (hkeep _ (hsep j oj rj e hj hrj))
  · intro j rj hrj
    rw[hsz];exact h.lt j rj hrj
  · intro j k oj ok rj rk hne hj hk hrj hrk hbb hwk
    rw[DN]at hj hk
    by_cases ej:j=i
    · subst ej
      have ek:k≠j:=fun e=>hne e.symm
      rw[if_neg ek]at hk
      rw[hr]at hrj
      injection hrj with hrj
      subst hrj
      exact absurd hbb.symm (hsep k ok rk ek hk hrk)
    · by_cases ek : k = i
      · subst ek
        rw[if_neg ej]at hj
        rw[hr]at hrk
        injection hrk with hrk
        subst hrk
        exact absurd hbb (hsep j oj rj ej hj hrj)
      · rw [if_neg ej] at hj
        rw[if_neg ek]at hk
        exact h.sep j k oj ok rj rk hne hj hk hrj hrk hbb hwk
  · refine ⟨BU.le_refl  ρ, fun _ h _ => h, xZ          _, by omega, hos, htape, hout, ?_, ?_, ?_⟩
    · intro b _ hno
      exact hkeep b (fun e=>hno ⟨i,o,rb,hg,hw,hr,e.symm⟩)
    · rintro b ⟨j, oj, rj, hj, hwj, hrj, rfl⟩
      rw[DN]at hj
      by_cases e:j=i
      · subst e
        rw[hr]at hrj
        injection hrj with hrj
        subst hrj
        exact .inl ⟨j,o,rb,hg,hw,hr,rfl⟩
      · rw[if_neg e]at hj
        exact .inl ⟨j,oj,rj,hj,hwj,hrj,rfl⟩
    · intro j hrj _
      rw[DN,if_neg]
      intro e
      subst e
      rw[hr]at hrj
      cases hrj
theorem Ba.del  (h : Ba  P ρ s w) {i : Nat} {rb : RB} (hr : ρ i = some rb) : Ba  P ρ (Cc     s i) w ∧ Fr ρ s w ρ (Cc     s i) w := by
  have hglb:∀j oj g,(Cc s i).heap.get j=some oj→GR oj=some g→∃r,ρ j=some r:=by
    intro j oj g hj hg
    rw[Bp]at hj
    by_cases e:j=i
    · rw[if_pos e]at hj;cases hj
    · rw[if_neg e]at hj
      exact h.glb j oj g hj hg
  refine⟨⟨?_,h.lt,?_,hglb⟩,⟨BU.le_refl ρ,fun _ h _=>h,xZ _,xZ _,rfl,rfl,rfl,fun _ _ _=>rfl,?_,?_⟩⟩
  · intro j oj rj hj hrj
    rw[Bp]at hj
    by_cases e:j=i
    · rw[if_pos e]at hj;cases hj
    · rw[if_neg e]at hj
      exact h.obj j oj rj hj hrj
  · intro j k oj ok rj rk hne hj hk
    rw[Bp]at hj hk
    by_cases ej:j=i
    · rw[if_pos ej]at hj;cases hj
    · by_cases ek : k = i
      · rw[if_pos ek]at hk;cases hk
      · rw [if_neg ej] at hj
        rw[if_neg ek]at hk
        exact h.sep j k oj ok rj rk hne hj hk
  · rintro b ⟨j, oj, rj, hj, hwj, hrj, rfl⟩
    rw[Bp]at hj
    by_cases e:j=i
    · rw[if_pos e]at hj;cases hj
    · rw[if_neg e]at hj
      exact .inl ⟨j,oj,rj,hj,hwj,hrj,rfl⟩
  · intro j hrj _
    rw[Bp,if_neg]
    intro e
    subst e
    rw[hr]at hrj
    cases hrj
theorem Bg{i:Nat}{r:D2}(h:rowAt s i=some r):s.heap.get i=some (.row r):=by
 unfold rowAt at h
 split at h
 ·injection h with h;subst h;assumption
 ·cases h
theorem Ch(b o k:Nat):(⟨b,o,none⟩:Addr).add k=⟨b,o+k,none⟩:=by unfold Addr.add;split<;>simp_all
theorem Dj(h:Ba P ρ s w){i off n:Nat}{l:List AV}{rb:RB}(hr:ρ i=some rb)(hl:CI s i off n=some l):
  ∃l':List Value,AX ρ l l'∧l'.length=n∧∀w1:World,w1.heap=w.heap→(loadCells ⟨rb.b,rb.off+off,none⟩ n).run P w1=.ok l'.toArray w1:=by
 unfold CI at hl
 simp only[xY]at hl
 obtain⟨r,hrow,hl⟩:=hl
 obtain⟨hb,hl⟩:=AD hl
 have hb:off+n≤r.n:=by simpa[xo]using hb
 have hok:Cn ρ w r rb:=h.obj i _ rb (Bg hrow) hr
 have hlen:=AZ.take_length hl
 have hc:∀k,k<n→∃v v',l[k]? = some v∧w.cell? ⟨rb.b,rb.off+off+k,none⟩=some v'∧Ab ρ v v':=by
  intro k hk
  have hv:l[k]? = some l[k]:=xe (by omega)
  have hg:=AZ.take_get hl k hk
  rw[hv]at hg
  obtain⟨v',h1,h2⟩:=hok.cells (off+k) _ (by omega) hg
  exact⟨l[k],v',hv,by rw[show rb.off+off+k=rb.off+(off+k)from by omega];exact h1,h2⟩
 let f:Nat→Value:=fun k=>(w.cell? ⟨rb.b,rb.off+off+k,none⟩).getD undef
 have hf:∀k,k<n→w.cell? ⟨rb.b,rb.off+off+k,none⟩=some (f k):=by
  intro k hk
  obtain⟨v,v',_,h2,_⟩:=hc k hk
  simp[f,h2]
 refine⟨(List.range n).map f,?_,by simp,?_⟩
 ·refine AX.of_get (by simp[hlen]) ?_
  intro k v v' hv hv'
  have hk:k<n:=by
   rcases xf k n with h' | h'
   ·exact h'
   ·rw[xr (by omega)]at hv;cases hv
  obtain⟨u,u',h1,h2,h3⟩:=hc k hk
  rw[h1]at hv
  injection hv with hv
  subst hv
  rw[yY,A0F hk]at hv'
  simp only[zK]at hv'
  injection hv' with hv'
  rw[← hv']
  have:f k=u':=by simp[f,h2]
  rw[this];exact h3
 ·intro w1 he
  exact run_loadCells w1 _ n f (fun j hj=>by rw[Ch];exact(I0 (by rw[he])).trans (hf j hj))
theorem MK(h:Ba P ρ s w){i off:Nat}{v:AV}{rb:RB}(hr:ρ i=some rb)(hl:DA s i off=some v):
  ∃v',Ab ρ v v'∧w.cell? ⟨rb.b,rb.off+off,none⟩=some v':=by
 unfold DA at hl
 simp only[xY]at hl
 obtain⟨r,hrow,hl⟩:=hl
 obtain⟨hb,hl⟩:=AD hl
 have hb:off<r.n:=by simpa[yI]using hb
 have hok:Cn ρ w r rb:=h.obj i _ rb (Bg hrow) hr
 obtain⟨v',h1,h2⟩:=hok.cells off v hb hl
 exact⟨v',h2,h1⟩
theorem MM       (h : Ba  P ρ s w) {t : TypeId} {a v : AV} {a' : Value} (hl : AC    P s t a = some v) (ha : Ab   ρ a a') :
    ∃v',(Instr.loadAt t a').run P w=.ok v' w∧Ab ρ v v'∧∃ad,a'=.pointer (some ad)∧(loadVar t ad).run P w=.ok v' w:=by
  unfold AC at hl
  split at hl<;>first | (cases hl;done) | skip
  · rename_i i o
    cases ha
    simp only[xY]at hl
    obtain⟨r,hgr,g,hg,hl⟩:=hl
    have hrow:rowAt s i=some r∧r.glob=some i:=by
      unfold PO at hgr
      simp only[xY]at hgr
      obtain⟨r',h1,h2⟩:=hgr
      split at h2<;>first | (cases h2;done) | skip
      rename_i g' hg'
      obtain⟨h3,h4⟩:=AD h2
      injection h4 with h4
      subst h4
      exact⟨h1,by rw[hg',yD h3]⟩
    obtain⟨rb,hr⟩:=h.glb i _ i (Bg hrow.1) hrow.2
    have hok:Cn ρ w r rb:=h.obj i _ rb (Bg hrow.1) hr
    obtain⟨hb,ho⟩:=hok.gl i hrow.2
    cases g with
    | true =>
      simp only[xY]at hl
      obtain⟨n,hn,l,hl,hv⟩:=hl
      injection hv with hv;subst hv
      obtain⟨l',h1,h2,h3⟩:=Dj h hr hl
      rw[hb,ho,xu]at h3
      have hrun:(loadVar t ⟨i,o,none⟩).run P w=.ok (.agg l'.toArray) w:=by
        simp[loadVar,Ho hg,BF hn,h3 w rfl]
      exact⟨.agg l'.toArray,by simp[Instr.loadAt,Instr.sureAddr,hrun],.agg (by simpa using h1),_,rfl,hrun⟩
    | false =>
      obtain⟨v',h1,h2⟩:=MK h hr hl
      rw[hb,ho,xu]at h2
      have hrun:(loadVar t ⟨i,o,none⟩).run P w=.ok v' w:=by
        simp[loadVar,Ho hg,h2]
      exact⟨v',by simp[Instr.loadAt,Instr.sureAddr,hrun],h1,_,rfl,hrun⟩
  rename_i i o
  cases ha with
  | ptr hr =>
    rename_i rb
    simp only[xY]at hl
    obtain⟨g,hg,hl⟩:=hl
    cases g with
    | true =>
      simp only[xY]at hl
      obtain⟨n,hn,l,hl,hv⟩:=hl
      injection hv with hv;subst hv
      obtain⟨l',h1,h2,h3⟩:=Dj h hr hl
      have hrun:(loadVar t ⟨rb.b,rb.off+o,none⟩).run P w=.ok (.agg l'.toArray) w:=by
        simp[loadVar,Ho hg,BF hn,h3 w rfl]
      exact⟨.agg l'.toArray,by simp[Instr.loadAt,Instr.sureAddr,hrun],.agg (by simpa using h1),_,rfl,hrun⟩
    | false =>
      obtain⟨v',h1,h2⟩:=MK h hr hl
      have hrun:(loadVar t ⟨rb.b,rb.off+o,none⟩).run P w=.ok v' w:=by
        simp[loadVar,Ho hg,h2]
      exact⟨v',by simp[Instr.loadAt,Instr.sureAddr,hrun],h1,_,rfl,hrun⟩
end
section
variable{P:Program}{ρ ρ1 ρ2:BU}{s s1 s2:AE}{w w1 w2:World}
theorem fe{e:TypeId}{sz:Nat}{l:List AV}{cs:Array Value}(hl:AX ρ l cs.toList)(b:Nat)(hb:w.heap[b]? = some (.cells cs e (0,0))):
  Fm P ρ w (F2 e sz l) ⟨b,0,l.length,sz⟩:=by
 have hlen:=hl.length
 refine⟨?_,xZ _,rfl,fun _=>rfl,fun _=>⟨cs,hb,by simp[hlen]⟩,fun _=>rfl,(fun g hg=>by cases hg),fun p hp=>by cases hp⟩
 intro k v hk hv
 simp only[AZ.get_fill,xg,xu,true_and,Nat.sub_zero]at hv
 rw[if_pos hk]at hv
 obtain⟨v',h1,h2⟩:=hl.get hv
 refine⟨v',?_,h2⟩
 simp only[World.cell?,hb,xu]
 rw[← Array.getElem?_toList]
 simpa using h1
theorem Hl(h:Ba P ρ s w)(hf:ρ s.next=none){e:TypeId}{sz:Nat}{l:List AV}{cs:Array Value}(hl:AX ρ l cs.toList):
  ∃ρ',ρ' s.next=some ⟨w.heap.size,0,l.length,sz⟩∧Ba P ρ' (newObj s (F2 e sz l)) (w.alloc (.cells cs e))∧Fr ρ s w ρ' (newObj s (F2 e sz l)) (w.alloc (.cells cs e)):=by
 have hle:=Bh (rb:=⟨w.heap.size,0,l.length,sz⟩) hf
 obtain⟨h1,h2⟩:=h.new (o:=F2 e sz l) (o':=.cells cs e) (rb:=⟨w.heap.size,0,l.length,sz⟩) hf rfl
  (fe (hl.mono hle) _ (World.alloc_heap_new w _))
 exact⟨_,Ac _ _,h1,h2⟩
theorem Hs        (h : Ba  P ρ s w) {i off : Nat} {vs : List AV} {vs' : List Value} {rb : RB} (hr : ρ i = some rb) (hs : Cv     s i off vs = some s1) (hv : AX    ρ vs vs') :
    ∃w1,(storeCells ⟨rb.b,rb.off+off,none⟩ vs').run P w=.ok () w1∧Ba P ρ s1 w1∧Fr ρ s w ρ s1 w1:=by
  cases vs with
  | nil =>
    cases hv
    simp only[Cv]at hs
    injection hs with hs
    subst hs
    exact⟨w,rfl,h,Fr.refl _ _ _⟩
  | cons v0 vs0 =>
    have hsv:Cv s i off (v0::vs0)=(rowAt s i).bind fun r =>
      AP (D8 r.mode && Nat.ble (off+(v0::vs0).length) r.n && An (v0::vs0))
        (some (setObj (BS s i r) i (.row { r with c:=r.c.fill off (v0::vs0),par:=none }))):=rfl
    rw[hsv]at hs
    generalize v0::vs0=vs at hs hv
    simp only[xY]at hs
    obtain⟨r,hrow,hs⟩:=hs
    obtain⟨hb,hs⟩:=AD hs
    injection hs with hs
    subst hs
    simp only[Bool.and_eq_true,xo]at hb
    obtain⟨⟨hown,hle⟩,hall⟩:=hb
    have hg:=Bg hrow
    have hok:Cn ρ w r rb:=h.obj i _ rb hg hr
    have hmode:r.mode≠.ro:=fun e=>by rw[e]at hown;cases hown
    obtain⟨cs,hblk,hsz⟩:=hok.own hmode
    obtain⟨e,he0⟩:∃e,r.elem=e:=⟨_,rfl⟩
    rw[he0]at hblk
    have hlen:=hv.length
    have hfit:rb.off+off+vs'.length≤cs.size:=by have:=hok.le;omega
    have hrun:=run_storeCells_at P rb.b (rb.off+off) e vs' 0 cs w hblk (by simpa using hfit) (hv.oneCell hall)
    refine⟨_,hrun,?_⟩
    simp only[yF]
    generalize hnew:(cs.toList.take (rb.off+off)++vs'++cs.toList.drop (rb.off+off+vs'.length)).toArray=cs1
    have hblk1:(w.setRow rb.b cs1).heap[rb.b]? = some (.cells cs1 e (0,0)):=setRow_heap w rb.b cs cs1 e (0,0) hblk
    have hsize1:cs1.size=cs.size:=by rw[← hnew];simp;omega
    have hget:∀k,cs1[k]? = if rb.off+off≤k∧k<rb.off+off+vs'.length then vs'[k - (rb.off+off)]? else cs[k]? := by
      intro k
      rw[← hnew,List.getElem?_toArray]
      by_cases h1:k<rb.off+off
      · rw[if_neg (by omega),yW,yf (by simp;omega),yy h1,Array.getElem?_toList]
      · rw[yW,yi (by simp;omega)]
        have hmin:(cs.toList.take (rb.off+off)).length=rb.off+off:=by simp;omega
        rw[hmin]
        by_cases h2:k<rb.off+off+vs'.length
        · rw[if_pos (by omega),yf (by omega)]
        · rw[if_neg (by omega),yi (by omega),yn,← Array.getElem?_toList]
          congr 1
          omega
    have key:∀sx:AE,Ba P ρ sx w→Fr ρ s w ρ sx w→sx.heap.get i=some (.row r)→(∀p,r.par=some p→p≠i→sx.heap.get p=none) →
        Ba P ρ (setObj sx i (.row { r with c:=r.c.fill off vs,par:=none })) (w.setRow rb.b cs1) ∧
        Fr ρ s w ρ (setObj sx i (.row { r with c:=r.c.fill off vs,par:=none })) (w.setRow rb.b cs1):=by
      intro sx hx hfx hgx hpx
      obtain⟨h1,h2⟩:=hx.set (o1:=.row { r with c:=r.c.fill off vs,par:=none }) (w1:=w.setRow rb.b cs1) hgx hr (by simpa[wr]using hown) hpx rfl (by simp)
        (fun b hb=>setRow_other w rb.b b cs1 hb) rfl rfl rfl (by
          refine⟨?_,hok.le,hok.sz,hok.tight,fun _=>⟨cs1,by show _=some (Obj.cells cs1 r.elem (0,0));rw[he0];exact hblk1,by rw[hsize1];exact hsz⟩,hok.base,hok.gl,fun p hp=>by cases hp⟩
          intro k v hk hkv
          simp only[AZ.get_fill]at hkv
          have hcell:(w.setRow rb.b cs1).cell? ⟨rb.b,rb.off+k,none⟩=cs1[rb.off+k]? := by simp[World.cell?,hblk1]
          rw[hcell,hget]
          by_cases hin:off≤k∧k<off+vs.length
          · rw [if_pos hin] at hkv
            rw[if_pos (by omega),show rb.off+k - (rb.off+off)=k - off from by omega]
            exact hv.get hkv
          · rw [if_neg hin] at hkv
            rw[if_neg (by omega)]
            obtain⟨v',h1,h2⟩:=hok.cells k v hk hkv
            refine⟨v',?_,h2⟩
            simpa[World.cell?,hblk]using h1)
      exact⟨h1,hfx.trans h2⟩
    unfold BS
    split
    · rename_i hp
      exact key s h (Fr.refl _ _ _) hg (fun p hp' _=>by rw[hp]at hp';cases hp')
    · rename_i p hp
      by_cases hpi:p=i
      · have:Nat.beq p i=true:=by rw[hpi];simp[zJ]
        rw[this]
        exact key s h (Fr.refl _ _ _) hg (fun q hq hqi=>by rw[hp]at hq;injection hq with hq;exact absurd (hq.symm.trans hpi) hqi)
      · rw[AZ.beq_no hpi]
        obtain⟨rp,hrp⟩:=hok.par p hp
        obtain⟨hd,hfd⟩:=h.del hrp
        exact key (Cc s p) hd hfd (by rw[Bp,if_neg (fun e=>hpi e.symm)];exact hg) (fun q hq _=>by
          rw[hp]at hq
          injection hq with hq
          subst hq
          rw[Bp,if_pos rfl])
theorem Ap{a b:Nat}(h:Nat.beq a b=true):a=b:=yD h
theorem X3(h:Ba P ρ s w){t:TypeId}{a v:AV}{a' v':Value}(hs:AS P s t a v=some s1)(ha:Ab ρ a a')(hv:Ab ρ v v'):
  ∃w1,(Instr.storeAt t a' v').run P w=.ok () w1∧Ba P ρ s1 w1∧Fr ρ s w ρ s1 w1:=by
 unfold AS at hs
 split at hs<;>first | (cases hs;done) | skip
 rename_i i o
 cases ha with
 | ptr hr =>
  rename_i rb
  simp only[xY]at hs
  obtain⟨n,hn,hs⟩:=hs
  obtain⟨hb,hs⟩:=AD hs
  have hb:=Ap hb
  obtain⟨w1,h1,h2⟩:=Hs h hr hs hv.cells
  refine⟨w1,?_,h2⟩
  have hc:v'.cells.size=n:=by have:=hv.cells.length;simp at this;omega
  simp[Instr.storeAt,Instr.sureAddr,storeVar,BF hn,hc,h1]
def NQ(P:Program)(ρ:BU)(s:AE)(w:World)(sem:Sem Value)(o:BD)(m:Made):Prop:=
 ∃v' w' ρ',sem.run P w=.ok v' w'∧Ab ρ' (m.val s.next) v'∧Ba P ρ' (newObj s o) w'∧Fr ρ s w ρ' (newObj s o) w'
theorem Wy(h:Ba P ρ s w)(hf:ρ s.next=none){e:TypeId}{o:BD}{m:Made}(hs:Ag P e=some (o,m)):
  NQ P ρ s w (Instr.alloc e true (.tuple #[])) o m:=by
 unfold Ag at hs
 simp only[xY]at hs
 obtain⟨z,hz,hs⟩:=hs
 injection hs with hs
 injection hs with h1 h2
 subst h1;subst h2
 obtain⟨z',hz',hzr⟩:=JT (w:=w) ρ hz
 obtain⟨ρ',h1,h2,h3⟩:=Hl h hf (e:=e) (sz:=0) hzr.cells
 exact⟨.pointer (some ⟨w.heap.size,0,none⟩),_,ρ',by simp[Instr.alloc,hz',newVar,newRow],Ab.ptr h1,h2,h3⟩
theorem iT(h:Ba P ρ s w)(hf:ρ s.next=none){e:TypeId}{v:AV}{v':Value}{o:BD}{m:Made}(hs:Bf e v=some (o,m))(hv:Ab ρ v v'):
  NQ P ρ s w (Instr.box e v') o m:=by
 unfold Bf at hs
 injection hs with hs
 injection hs with h1 h2
 subst h1;subst h2
 obtain⟨ρ',h1,h2,h3⟩:=Hl h hf (e:=e) (sz:=0) hv.cells
 exact⟨.pointer (some ⟨w.heap.size,0,none⟩),_,ρ',by simp[Instr.box,newVar,newRow],Ab.ptr h1,h2,h3⟩
theorem UV(h:Ba P ρ s w)(hf:ρ s.next=none)(t kt:TypeId):NQ P ρ s w (Instr.makeMap t none) (.map kt []) .map:=by
 have hle:=Bh (rb:=⟨w.heap.size,0,0,0⟩) hf
 obtain⟨h1,h2⟩:=h.new (o:=.map kt []) (o':=.map #[] 0) (rb:=⟨w.heap.size,0,0,0⟩) hf rfl ⟨#[],0,World.alloc_heap_new w _,MapKept.stamped_empty 0,⟨[],.refl _,.nil⟩,by simp⟩
 exact⟨.map (some w.heap.size),_,_,by simp[Instr.makeMap],Ab.map (Ac _ _),h1,h2⟩
theorem L8       {place : Nat → Option (Nat × Nat)} {place' : Nat → Option (Nat × Nat)} (hp : ∀ i p, place i = some p → place' i = some p) :
    ∀ {parts:List (Nat×AV)} {parts':List (Nat×Value)} {cs l:List AV} {cs':Array Value},L7 place cs parts=some l→AX ρ cs cs'.toList →
      (parts.map (·.1)=parts'.map (·.1))→AX ρ (parts.map (·.2)) (parts'.map (·.2))→∃l',Instr.fill place' cs' parts'=some l'∧AX ρ l l'.toList:=by
  intro parts
  induction parts with
  | nil =>
    intro parts' cs l cs' h hc hm hv
    cases parts' with
    | nil=>simp[L7]at h;subst h;exact⟨cs',rfl,hc⟩
    | cons=>simp at hm
  | cons p rest ih =>
    intro parts' cs l cs' h hc hm hv
    cases parts' with
    | nil=>simp at hm
    | cons p' rest' =>
      obtain⟨i,v⟩:=p
      obtain⟨i',v'⟩:=p'
      simp only[yw,List.cons.injEq]at hm
      obtain⟨hi,hm⟩:=hm
      skip
      subst hi
      simp only[yw]at hv
      cases hv with
      | cons hv hvs =>
        simp only[L7,xY]at h
        obtain⟨q,hq,h⟩:=h
        obtain⟨hb,h⟩:=AD h
        simp only[Bool.and_eq_true,xo]at hb
        obtain⟨hb1,hb2⟩:=hb
        have hb1:=Ap hb1
        have hvc:=hv.cells
        have hvl:=hvc.length
        have hcl:=hc.length
        simp only[Array.length_toList]at hvl hcl
        have hnew:AX ρ (cs.take q.1++(v.cells++cs.drop (q.1+v.cells.length)))
            (v'.cells.zipIdx.foldl (fun cs (c,j)=>cs.setIfInBounds (q.1+j) c) cs').toList:=by
          have e:(v'.cells.zipIdx.foldl (fun cs (c,j)=>cs.setIfInBounds (q.1+j) c) cs').toList=cs'.toList.take q.1++(v'.cells.toList++cs'.toList.drop (q.1+v.cells.length)):=by
            have key:∀ (l:List Value) (k:Nat) (a:Array Value),q.1+k+l.length≤a.size →
                ((l.zipIdx k).foldl (fun cs (x:Value×Nat)=>cs.setIfInBounds (q.1+x.2) x.1) a).toList=a.toList.take (q.1+k)++(l++a.toList.drop (q.1+k+l.length)):=by
              intro l
              induction l with
              | nil=>intro k a _;simp
              | cons x l ihl =>
                intro k a hk
                simp only[yU]at hk
                rw[List.zipIdx_cons,List.foldl_cons,ihl (k+1) _ (by simp;omega)]
                simp only[Array.toList_setIfInBounds,yU]
                have e:=list_seg_step a.toList (q.1+k) x l (by simp;omega)
                simpa[yR,yW]using e
            have:=key v'.cells.toList 0 cs' (by simp;omega)
            simp only[yF]at this
            rw[← Array.foldl_toList,Array.toList_zipIdx]
            rw[hvl]
            simpa using this
          rw[e]
          exact(hc.take _).append (hvc.append (hc.drop _))
        obtain⟨l',h1,h2⟩:=ih h hnew hm hvs
        refine⟨l',?_,h2⟩
        have hpq:=hp i q hq
        obtain⟨o,n⟩:=q
        simp only[Instr.fill,hpq]
        have c1:¬ (v'.cells.size≠n∨o+v'.cells.size > cs'.size):=by simp only at hb1 hb2;omega
        have:(decide (v'.cells.size≠n) || decide (o+v'.cells.size > cs'.size))=false:=by
          rw[Bool.eq_false_iff];intro hh;apply c1;simpa using hh
        simp only[this]
        exact h1
theorem H0:∀ {fs:List Field}{l:List (Nat×Nat)},FL P fs=some l →
  ∀w:World,((fs.mapM fun f=>do pure (f.offset,← sizeOf f.type):Sem (List (Nat×Nat)))).run P w=.ok l w
 | [],l,h,w=>by simp[FL]at h;subst h;rfl
 | f::fs,l,h,w=>by
  simp only[FL,xY]at h
  obtain⟨n,hn,r,hr,h⟩:=h
  injection h with h
  subst h
  have ih:=H0 hr w
  simp only[zw,Sem.run_bind,BF hn,Sem.run_pure,Result.andThen_ok,ih]
theorem W3{t:TypeId}{parts:List (Nat×AV)}{parts':Array (Nat×Value)}{v:AV}(h:BT P t parts=some v)
  (hm:parts.map (·.1)=parts'.toList.map (·.1)) (hv:AX ρ (parts.map (·.2)) (parts'.toList.map (·.2))) (w:World):
  ∃v',(Instr.build t parts').run P w=.ok v' w∧Ab ρ v v':=by
 unfold BT at h
 simp only[xY]at h
 obtain⟨z,hz,h⟩:=h
 obtain⟨z',hz',hzr⟩:=JT (w:=w) ρ hz
 split at h<;>first | (cases h;done) | skip
 ·rename_i fields hf
  simp only[xY]at h
  obtain⟨places,hpl,l,hl,h⟩:=h
  injection h with h
  subst h
  have hpl':=H0 hpl w
  obtain⟨l',h1,h2⟩:=L8 (place':=fun i=>(places.toArray)[i]?) (fun i p hp=>by simpa using hp) hl hzr.cells hm hv
  refine⟨.agg l',?_,.agg h2⟩
  have hma:(fields.mapM fun f=>do pure (f.offset,← sizeOf f.type):Sem (Array (Nat×Nat))).run P w=.ok places.toArray w:=by
   rw[Array.mapM_eq_mapM_toList,Sem.run_map,hpl']
   rfl
  simp only[Instr.build,Sem.run_bind,hz',Result.andThen_ok,AN hf,hma,h1,Sem.run_pure]
 ·rename_i len e hf
  simp only[xY]at h
  obtain⟨n,hn,l,hl,h⟩:=h
  injection h with h
  subst h
  obtain⟨l',h1,h2⟩:=L8 (place':=fun i=>some (i * n,n)) (fun i p hp=>hp) hl hzr.cells hm hv
  refine⟨.agg l',?_,.agg h2⟩
  simp only[Instr.build,Sem.run_bind,hz',Result.andThen_ok,AN hf,BF hn,h1,Sem.run_pure]
theorem Po      {z : AV} {z' : Value} {n c : Nat} (hz : Ab   ρ z z') (hl : z.cells.length = n) :
    AX ρ (NL z.cells c) (((Array.range (c * n)).map (z'.cells[· % z'.cells.size]!)).toList):=by
  have hc:=hz.cells
  have hlen:z'.cells.size=n:=by have:=hc.length;simp at this;omega
  have hrl:∀c,(NL z.cells c).length=c * n:=by
    intro c
    induction c with
    | zero=>simp[NL]
    | succ c ih=>simp[NL,ih,hl,yN];omega
  have hrg:∀ (c k:Nat),k<c * n→(NL z.cells c)[k]? = z.cells[k % n]? := by
    intro c
    induction c with
    | zero=>intro k hk;omega
    | succ c ih =>
      intro k hk
      simp only[NL]
      by_cases h1:k<n
      · rw[yf (by omega),yS h1]
      · rw [yi                         (by omega), hl, ih (k - n) (by rw [yN]           at hk; omega)]
        rw[← Nat.mod_eq_sub_mod (by omega)]
  refine AX.of_get (by simp[hrl]) ?_
  intro k v v' hv hv'
  have hk:k<c * n:=by
    rcases xf k (c * n)with h | h
    · exact h
    · rw[xr (by rw[hrl];omega)]at hv;cases hv
  have hn:0<n:=by
    rcases yX n with h | h
    · subst h;simp at hk
    · exact h
  rw[hrg c k hk]at hv
  obtain⟨u,h1,h2⟩:=hc.get hv
  have:v'=u:=by
    rw[Array.getElem?_toList,Array.getElem?_map,Array.getElem?_range]at hv'
    rw[if_pos hk]at hv'
    simp only[zK]at hv'
    injection hv' with hv'
    rw[← hv',hlen]
    rw[Array.getElem?_toList]at h1
    rw[getElem!_def,h1]
  rw[this]
  exact h2
theorem Py(h:Ba P ρ s w)(hf:ρ s.next=none){t:TypeId}{len:Nat}{parts:List (Nat×AV)}{parts':Array (Nat×Value)}{o:BD}(hs:Ad P t len parts=some o)
  (hm:parts.map (·.1)=parts'.toList.map (·.1)) (hv:AX ρ (parts.map (·.2)) (parts'.toList.map (·.2))):
  NQ P ρ s w (Instr.buildSlice t len parts') o (.slice len):=by
 unfold Ad at hs
 split at hs<;>first | (cases hs;done) | skip
 rename_i e he
 simp only[xY]at hs
 obtain⟨n,hn,hs⟩:=hs
 obtain⟨hb,hs⟩:=AD hs
 have hb:len * n≤16777216:=by simpa[xo]using hb
 simp only[xY]at hs
 obtain⟨z,hz,hs⟩:=hs
 obtain⟨hc,hs⟩:=AD hs
 simp only[xY]at hs
 obtain⟨l,hl,hs⟩:=hs
 injection hs with hs
 subst hs
 obtain⟨z',hz',hzr⟩:=JT (w:=w) ρ hz
 have hz2:=Po (c:=len) hzr (Ap hc)
 obtain⟨l',h1,h2⟩:=L8 (place':=fun i=>some (i * n,n)) (fun i p hp=>hp) hl hz2 hm hv
 obtain⟨ρ',g1,g2,g3⟩:=Hl h hf (e:=e) (sz:=n) h2
 refine⟨.slice (some ⟨w.heap.size,0,none⟩) len len,_,ρ',?_,Ab.slice g1 (xZ _),g2,g3⟩
 have hbig:¬ len * n > 2 ^ 24:=by omega
 by_cases h0:len * n=0
 ·have hr0:Array.range 0=#[]:=by simp
  rw[h0,hr0]at h1
  simp only[Array.map_empty]at h1
  simp[Instr.buildSlice,AN he,BF hn,h0,hr0,h1,newRow]
 ·simp[Instr.buildSlice,AN he,BF hn,hbig,h0,hz',h1,newRow]
theorem NJ(h:Ba P ρ s w)(hf:ρ s.next=none){t:TypeId}{l c:AV}{l' c':Value}{o:BD}{m:Made}(hs:BV P t l c=some (o,m))
  (hl:Ab ρ l l') (hc:Ab ρ c c'):NQ P ρ s w (Instr.makeSlice t l' c') o m:=by
 unfold BV at hs
 split at hs<;>first | (cases hs;done) | skip
 rename_i e l0 c0 he
 cases hl;cases hc
 simp only[xY]at hs
 obtain⟨by_,hby,n,hn,hs⟩:=hs
 obtain⟨hb,hs⟩:=AD hs
 simp only[Bool.and_eq_true,xo]at hb
 obtain⟨⟨hlc,hb1⟩,hb2⟩:=hb
 have hlc:=Ap hlc
 subst hlc
 simp only[xY]at hs
 obtain⟨z,hz,hs⟩:=hs
 obtain⟨hc,hs⟩:=AD hs
 injection hs with hs
 injection hs with hs1 hs2
 subst hs1;subst hs2
 obtain⟨z',hz',hzr⟩:=JT (w:=w) ρ hz
 have hz2:=Po (c:=l0) hzr (Ap hc)
 obtain⟨i,hi,hi2⟩:=Xw (w:=w) hby
 obtain⟨ρ',g1,g2,g3⟩:=Hl h hf (e:=e) (sz:=n) hz2
 refine⟨.slice (some ⟨w.heap.size,0,none⟩) l0 l0,_,ρ',?_,Ab.slice g1 (xZ _),g2,g3⟩
 have hw:IntKind.i64.wrap (l0:Int)=(l0:Int):=LM (k:=.i64) (n:=Int.ofNat l0) (by simp[CB,xo];omega)
 have hmul:((by_:Int) * (l0:Int))≤1099511627776:=by
  have:((by_ * l0:Nat):Int)≤1099511627776:=by omega
  simpa using this
 have h1:¬ ((l0:Int)<0):=by omega
 have h2:¬ ((i.bytes:Int) * (l0:Int) > 2 ^ 48):=by rw[hi2];omega
 have h3:¬ ((281474976710656:Int)<(i.bytes:Int) * (l0:Int)):=by omega
 by_cases h0:l0 * n=0
 ·have hr0:Array.range 0=#[]:=by simp
  simp[Instr.makeSlice,AN he,asInt,asIntOf,hi,hw,h1,h3,BF hn,h0,newRow,hr0]
 ·simp[Instr.makeSlice,AN he,asInt,asIntOf,hi,hw,h1,h3,BF hn,h0,hz',newRow]
end
end
end Go.Proofs.YtjnkfbpadpmakaaGreatDoor.Am
