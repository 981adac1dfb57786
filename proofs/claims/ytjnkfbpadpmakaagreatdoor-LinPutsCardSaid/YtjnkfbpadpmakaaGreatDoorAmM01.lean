/- Binary tries over Nat keys, made for evaluation by the kernel: get, set, and their laws; conditions: none. -/
import GoSem.Dispatch
import GoSem.ClaimKeys
import Derived.DeepKeys2
import Derived.CallsIn
import Derived.Laws.Sem
import Derived.MapKept
import Derived.Laws.Entries
import Derived.Laws.Slices
import Derived.Laws.Strings
import Derived.Lib.Hide
import Derived.Laws.CopyRow
import Derived.Laws.Cells
import Derived.RangeFuncRecord
import Derived.Below
namespace Go.Proofs.YtjnkfbpadpmakaaGreatDoor.Am
noncomputable section
abbrev zU := @Nat.le_refl
abbrev zV := @Option.bind_eq_some_iff
abbrev zW := @List.getElem?_eq_getElem
abbrev zX := @Nat.lt_or_ge
abbrev zY := @Nat.le_trans
abbrev zZ := @Nat.lt_of_lt_of_le
abbrev ze := @Nat.zero_le
abbrev zf := @Nat.mul_one
abbrev zg := @List.length_append
abbrev zh := @Nat.ble_eq
abbrev zi := @List.length_map
abbrev zj := @List.getElem?_eq_none
abbrev zk := @Nat.zero_add
abbrev zo := @List.length_take
abbrev zp := @Nat.mul_add
abbrev zq := @Nat.mul_le_mul_right
abbrev zr := @Nat.eq_of_beq_eq_true
abbrev zs := @List.mem_cons_self
abbrev zt := @Nat.mul_comm
abbrev zu := @Nat.mul_assoc
abbrev zv := @Nat.add_zero
abbrev zw := @List.mem_of_getElem?
abbrev zx := @Nat.blt_eq
abbrev zy := @Nat.pow_succ
abbrev zz := @Nat.succ_mul
abbrev A0A := @Nat.add_mul
abbrev A0B := @List.mem_cons_of_mem
abbrev A0C := @List.length_drop
abbrev A0D := @List.drop_eq_nil_of_le
abbrev A0E := @Nat.mod_lt
abbrev A0F := @Nat.mul_zero
abbrev A0G := @List.length_cons
abbrev A0H := @Nat.add_assoc
abbrev A0I := @Nat.mod_eq_of_lt
abbrev A0J := @Nat.lt_of_le_of_lt
abbrev A0K := @Nat.pow_le_pow_right
abbrev A0L := @Nat.le_of_eq
abbrev A0M := @List.drop_eq_getElem_cons
abbrev A0N := @List.getElem?_map
abbrev A0O := @List.append_assoc
abbrev A0P := @Nat.mul_le_mul_left
abbrev A0Q := @List.getElem?_append_left
abbrev A0R := @Nat.eq_zero_or_pos
abbrev A0S := @Nat.one_mul
abbrev A0T := @Nat.lt_succ_self
abbrev A0U := @List.getElem?_append_right
abbrev A0V := @List.take_of_length_le
abbrev A0W := @Nat.mul_le_mul
abbrev A0X := @Nat.le_succ
abbrev A0Y := @Nat.div_le_self
abbrev A0Z := @List.getElem?_drop
abbrev A0a := @Nat.div_lt_iff_lt_mul
abbrev A0b := @Nat.zero_mul
abbrev A0c := @Nat.min_eq_left
abbrev A0d := @List.drop_zero
abbrev A0e := @List.map_cons
abbrev A0f := @Nat.pow_pos
abbrev A0g := @List.take_append_drop
abbrev A0h := @List.drop_drop
abbrev A0i := @Nat.le_mul_of_pos_left
abbrev A0j := @List.length_set
abbrev A0k := @List.getD_eq_getElem?_getD
abbrev A0l := @List.take_zero
abbrev A0m := @List.getElem?_take_of_lt
abbrev A0n := @Nat.div_eq_of_lt
abbrev A0o := @List.map_append
abbrev A0p := @List.set_cons_zero
abbrev A0q := @List.map_map
abbrev A0r := @Nat.add_sub_cancel
abbrev A0s := @Nat.add_comm
abbrev A0t := @Nat.beq_eq
abbrev A0u := @Option.map_some
abbrev A0v := @Nat.mul_ne_zero
abbrev A0w := @List.eq_nil_of_length_eq_zero
abbrev A0x := @List.getElem_mem
abbrev A0y := @List.nil_append
abbrev A0z := @List.map_take
abbrev A1A := @List.getElem?_set_ne
abbrev A1B := @Nat.mul_pos
abbrev A1C := @List.append_nil
abbrev A1D := @Nat.div_lt_self
abbrev A1E := @Nat.lt_of_mul_lt_mul_right
abbrev A1F := @List.length_zip
abbrev A1G := @Nat.pow_add
abbrev A1H := @List.mem_append_left
abbrev A1I := @List.zip_cons_cons
abbrev A1J := @List.take_length
abbrev A1K := @Nat.mod_mod
abbrev A1L := @Int.natAbs_natCast
abbrev A1M := @Nat.sub_self
abbrev A1N := @Nat.lt_succ_of_lt
abbrev A1O := @Nat.lt_trichotomy
abbrev A1P := @List.getElem?_take
abbrev A1Q := @Nat.mod_add_div
abbrev A1R := @List.length_nil
abbrev A1S := @Nat.gcd_comm
abbrev A1T := @Int.natAbs_mul
abbrev A1U := @List.mapM_cons
abbrev A1V := @List.mem_append
abbrev A1W := @Nat.not_lt_zero
abbrev A1X := @List.drop_left'
abbrev A1Y := @List.mem_of_mem_drop
abbrev A1Z := @List.drop_length
abbrev A1a := @Int.ofNat_eq_natCast
abbrev A1b := @List.getElem?_range
abbrev A1c := @Nat.mul_lt_mul_of_pos_right
abbrev A1d := @List.mem_singleton
abbrev A1e := @List.drop_append_of_le_length
abbrev A1f := @List.getElem?_set_self
abbrev A1g := @List.mem_of_mem_take
abbrev A1h := @List.take_succ_cons
abbrev A1i := @Nat.le_mul_of_pos_right
abbrev A1j := @List.take_succ_eq_append_getElem
abbrev A1k := @List.take_append_of_le_length
abbrev A1l := @Nat.eq_zero_of_gcd_eq_zero_right
inductive Ab (α:Type) where
 | leaf
 | node (v:Option α) (l r:Ab α)
namespace Ab
variable{α:Type}
def get:Ab α→Nat→Option α
 | .leaf,_=>none
 | .node v l r,k=>match k with
  | 0=>v
  | k+1=>bif Nat.beq (k % 2) 0 then l.get (k / 2)else r.get (k / 2)
def val:Ab α→Option α
 | .leaf=>none
 | .node v _ _=>v
def left:Ab α→Ab α
 | .leaf=>.leaf
 | .node _ l _=>l
def right:Ab α→Ab α
 | .leaf=>.leaf
 | .node _ _ r=>r
def sK(v:Option α)(l r:Ab α):Ab α:=
 match l with
 | .leaf=>.node v .leaf r
 | .node x a b=>.node v (.node x a b) r
def sL(v:Option α)(l r:Ab α):Ab α:=
 match r with
 | .leaf=>.node v l .leaf
 | .node x a b=>.node v l (.node x a b)
def setF(v:Option α):Nat→Ab α→Nat→Ab α
 | 0,t,_=>t
 | f+1,t,k=>match k with
  | 0=>.node v t.left t.right
  | k+1=>bif Nat.beq (k % 2) 0 then sK t.val (setF v f t.left (k / 2)) t.right
   else sL t.val t.left (setF v f t.right (k / 2))
def put(t:Ab α)(k:Nat)(v:Option α):Ab α:=setF v (k+1) t k
def set(t:Ab α)(k:Nat)(v:α):Ab α:=t.put k (some v)
def del(t:Ab α)(k:Nat):Ab α:=t.put k none
theorem beq_no{a b:Nat}(h:¬ a=b):Nat.beq a b=false:=by
 cases e:Nat.beq a b with
 | false=>rfl
 | true=>exact absurd (zr e) h
theorem nodeL_eq(v:Option α)(l r:Ab α):sK v l r=.node v l r:=by cases l<;>rfl
theorem nodeR_eq(v:Option α)(l r:Ab α):sL v l r=.node v l r:=by cases r<;>rfl
theorem MN(t:Ab α):t.get 0=t.val:=by cases t<;>rfl
theorem EF(t:Ab α)(k:Nat):t.get (k+1)=if k % 2=0 then t.left.get (k / 2)else t.right.get (k / 2):=by
 cases t with
 | leaf=>simp[get,left,right]
 | node v l r =>
  by_cases h:k % 2=0
  ·simp[get,left,h]
  ·have:Nat.beq (k % 2) 0=false:=beq_no h
   simp[get,right,h,this]
def mapO{β:Type}(f:α→Option β):Ab α→Ab β
 | .leaf=>.leaf
 | .node v l r=>.node (v.bind f) (mapO f l) (mapO f r)
theorem get_mapO{β:Type}(f:α→Option β):∀ (t:Ab α)(k:Nat),(t.mapO f).get k=(t.get k).bind f
 | .leaf,_=>rfl
 | .node v l r,0=>rfl
 | .node v l r,k+1=>by
  show(bif Nat.beq (k % 2) 0 then (mapO f l).get (k / 2)else (mapO f r).get (k / 2))=(bif Nat.beq (k % 2) 0 then l.get (k / 2)else r.get (k / 2)).bind f
  cases Nat.beq (k % 2) 0 with
  | true=>exact get_mapO f l (k / 2)
  | false=>exact get_mapO f r (k / 2)
theorem fY       (v : Option α) : ∀ (f : Nat) (t : Ab   α) (k j : Nat), k < f → (setF v f t k).get j = if j = k then v else t.get j := by
  intro f
  induction f with
  | zero=>intro t k j h;omega
  | succ f ih =>
    intro t k j h
    cases k with
    | zero =>
      cases j with
      | zero=>simp[setF,MN,val]
      | succ j=>simp[setF,EF,left,right]
    | succ k =>
      by_cases hk:k % 2=0
      · have hb:Nat.beq (k % 2) 0=true:=by rw[hk];rfl
        simp only[setF,hb,cond_true,nodeL_eq]
        cases j with
        | zero=>simp[MN,val]
        | succ j =>
          by_cases hj:j % 2=0
          · rw[EF,EF,if_pos hj,if_pos hj]
            simp only[left]
            rw[ih _ _ _ (by omega)]
            by_cases e:j=k
            · subst e;simp
            · rw[if_neg (by omega),if_neg (by omega)]
          · rw[EF,EF,if_neg hj,if_neg hj,if_neg (by omega)]
            simp only[right]
      · have hb:Nat.beq (k % 2) 0=false:=beq_no hk
        simp only[setF,hb,cond_false,nodeR_eq]
        cases j with
        | zero=>simp[MN,val]
        | succ j =>
          by_cases hj:j % 2=0
          · rw[EF,EF,if_pos hj,if_pos hj,if_neg (by omega)]
            simp only[left]
          · rw[EF,EF,if_neg hj,if_neg hj]
            simp only[right]
            rw[ih _ _ _ (by omega)]
            by_cases e:j=k
            · subst e;simp
            · rw[if_neg (by omega),if_neg (by omega)]
theorem V5(t:Ab α)(k j:Nat)(v:Option α):(t.put k v).get j=if j=k then v else t.get j:=fY v _ t k j (by omega)
theorem get_set(t:Ab α)(k j:Nat)(v:α):(t.set k v).get j=if j=k then some v else t.get j:=V5 t k j _
theorem get_del(t:Ab α)(k j:Nat):(t.del k).get j=if j=k then none else t.get j:=V5 t k j _
def fill(t:Ab α)(k:Nat):List α→Ab α
 | []=>t
 | v::l=>fill (t.set k v) (k+1) l
theorem get_fill(l:List α):∀ (t:Ab α)(k j:Nat),(t.fill k l).get j=if k≤j∧j<k+l.length then l[j - k]? else t.get j:=by
  induction l with
  | nil=>intro t k j;simp[fill];omega
  | cons v l ih =>
    intro t k j
    simp only[fill,ih,get_set,A0G]
    by_cases h1:k+1≤j∧j<k+1+l.length
    · rw [if_pos h1, if_pos (by omega), show j - k = (j - (k + 1)) + 1 from by omega]
      rfl
    · rw[if_neg h1]
      by_cases h2:j=k
      · subst h2;simp
      · rw[if_neg h2,if_neg (by omega)]
def take(t:Ab α)(k:Nat):Nat→Option (List α)
 | 0=>some []
 | n+1=>match t.get k with
  | none=>none
  | some v=>match take t (k+1) n with
   | none=>none
   | some l=>some (v::l)
theorem take_length{t:Ab α}{k n:Nat}{l:List α}(h:t.take k n=some l):l.length=n:=by
  induction n generalizing k l with
  | zero=>simp[take]at h;subst h;rfl
  | succ n ih =>
    simp only[take]at h
    split at h
    · cases h
    · split at h
      · cases h
      · rename_i h2;injection h with h;subst h;simp[ih h2]
theorem take_get {t : Ab   α} {k n : Nat} {l : List α} (h : t.take k n = some l) (j : Nat) (hj : j < n) : t.get (k + j) = l[j]? := by
  induction n generalizing k l j with
  | zero=>omega
  | succ n ih =>
    simp only[take]at h
    split at h
    · cases h
    · rename_i v hv
      split at h
      · cases h
      · rename_i l' h2
        injection h with h
        subst h
        cases j with
        | zero=>simpa using hv
        | succ j=>rw[show k+(j+1)=k+1+j from by omega,ih h2 j (by omega)];rfl
end Ab
end
end Go.Proofs.YtjnkfbpadpmakaaGreatDoor.Am
namespace Go.Proofs.YtjnkfbpadpmakaaGreatDoor.Am
open Go
noncomputable section
inductive AV where
 | bool (b:Bool)
 | int (k:IntKind) (n:Int)
 | str (s:List Nat)
 | ptr (a:Option (Nat×Nat))
 | gptr (g o:Nat)
 | slice (a:Option (Nat×Nat)) (len:Nat) (cap:Option Nat)
 | map (r:Option Nat)
 | func (f:FuncId) (first cap:List AV)
 | yield (l:Nat)
 | nilFunc
 | iface (t:TypeId) (v:AV)
 | nilIface
 | agg (cs:List AV)
 | tuple (vs:List AV)
 | junk
def Bc:AV:=.tuple []
def AV.cells:AV→List AV
 | .agg cs=>cs
 | v=>[v]
def AV.isCell:AV→Bool
 | .agg _ | .tuple _ | .junk=>false
 | _=>true
def Aq:List AV→Bool
 | []=>true
 | v::l=>v.isCell && Aq l
inductive lF where
 | ro | own | sealed
structure D5 where
 elem:TypeId
 sz:Nat
 n:Nat
 c:Ab AV
 spare:Bool
 mode:lF
 par:Option Nat
 bytes:Bool
 glob:Option Nat:=none
inductive CX where
 | loc (i:Nat)
 | var (j:Nat)
 | const (v:AV)
inductive Made where
 | ptr | slice (n:Nat) | map
structure Di where
 state:LoopState
 pending:Option Code
 fn:FuncId
 var:List AV
 params:Array Tmp
 assign:Code
 body:Code
 dfr:Nat
inductive BF where
 | row (r:D5)
 | map (kt:TypeId) (es:List (AV×AV))
 | mapRo (kt:TypeId) (es:List (AV×AV))
 | loop (l:Di)
 | mark
 | iter (s:List Nat) (pos:Nat)
structure AE where
 next:Nat
 heap:Ab BF
def JR:Value→Option AV
 | .bool b=>some (.bool b)
 | .int k n=>some (.int k n)
 | .string s=>some (.str (s.data.toList.map (fun(b:UInt8)=>b.toNat)))
 | .pointer none=>some (.ptr none)
 | .slice none 0 0=>some (.slice none 0 (some 0))
 | .map none=>some (.map none)
 | .nilFunc=>some .nilFunc
 | .nilIface=>some .nilIface
 | _=>none
def FJ:List Value→Option (List AV)
 | []=>some []
 | v::l=>(JR v).bind fun a=>(FJ l).bind fun r=>some (a::r)
def ofValue:Value→Option AV
 | .agg cs=>(FJ cs.toList).bind fun l=>some (.agg l)
 | .tuple vs=>(FJ vs.toList).bind fun l=>some (.tuple l)
 | v=>JR v
def AQ{α:Type}(b:Bool)(x:Option α):Option α:=bif b then x else none
def DM{α:Type}(P:Program):Sem α→Option α
 | .pure a=>some a
 | .program k=>DM P (k P)
 | .mark _ k=>DM P k
 | _=>none
def CG(k:IntKind):Int→Bool
 | .ofNat m=>match k with
  | .i64=>Nat.ble m 9223372036854775807
  | .u64=>Nat.ble m 18446744073709551615
  | .i32=>Nat.ble m 2147483647
  | .u32=>Nat.ble m 4294967295
  | .u8=>Nat.ble m 255
  | .i8=>Nat.ble m 127
  | .u16=>Nat.ble m 65535
  | .i16=>Nat.ble m 32767
 | .negSucc m=>match k with
  | .i64=>Nat.ble m 9223372036854775807
  | .i32=>Nat.ble m 2147483647
  | .i8=>Nat.ble m 127
  | .i16=>Nat.ble m 32767
  | _=>false
def De(k:IntKind)(n:Int):Int:=bif CG k n then n else k.wrap n
def NV:Int→Int→Bool
 | .ofNat a,.ofNat b=>Nat.blt a b
 | .ofNat _,.negSucc _=>false
 | .negSucc _,.ofNat _=>true
 | .negSucc a,.negSucc b=>Nat.blt b a
def NX:Int→Int→Bool
 | .ofNat a,.ofNat b=>Nat.beq a b
 | .negSucc a,.negSucc b=>Nat.beq a b
 | _,_=>false
def WJ:Int→Option Nat
 | .ofNat m=>some m
 | .negSucc _=>none
def Dd:List Nat→List Nat→Bool
 | [],[]=>true
 | a::x,b::y=>bif Nat.beq a b then Dd x y else false
 | _,_=>false
def Hg:List Nat→List Nat→Bool
 | _,[]=>false
 | [],_::_=>true
 | a::x,b::y=>bif Nat.blt a b then true else bif Nat.beq a b then Hg x y else false
def WV(op:BinOp)(x y:List Nat):Option AV:=
 match op with
 | .add=>AQ (Nat.ble (x.length+y.length) 1152921504606846976) (some (.str (x++y)))
 | .eql=>some (.bool (Dd x y))
 | .neq=>some (.bool (!Dd x y))
 | .lss=>some (.bool (Hg x y))
 | .leq=>some (.bool (Hg x y || Dd x y))
 | .gtr=>some (.bool (!(Hg x y || Dd x y)))
 | .geq=>some (.bool (!Hg x y))
 | _=>none
def EO(P:Program)(t:TypeId):Option Bool:=
 match P.underlying t with
 | some (.struct _) | some (.array _ _)=>some true
 | some _=>some false
 | none=>none
def BJ(P:Program)(t:TypeId):Option Nat:=match P.info? t with
 | some i=>some i.size
 | none=>none
def EM(P:Program)(t:TypeId):Option AV:=match P.info? t with
 | some i=>match i.zero with
  | some v=>ofValue v
  | none=>none
 | none=>none
def DP(P:Program)(t:TypeId):Option Nat:=match P.info? t with
 | some i=>some i.bytes
 | none=>none
def rowAt(s:AE)(i:Nat):Option D5:=match s.heap.get i with
 | some (.row r)=>some r
 | _=>none
def newObj(s:AE)(o:BF):AE:={ next:=s.next+1,heap:=s.heap.set s.next o }
def GH(elem:TypeId)(sz:Nat)(cells:List AV):BF:=
 .row { elem,sz,n:=cells.length,c:=Ab.fill .leaf 0 cells,spare:=false,mode:=.own,par:=none,bytes:=true }
def setObj(s:AE)(i:Nat)(o:BF):AE:={ s with heap:=s.heap.set i o }
def Cg(s:AE)(i:Nat):AE:={ s with heap:=s.heap.del i }
def CL(s:AE)(i off n:Nat):Option (List AV):=
 (rowAt s i).bind fun r=>AQ (Nat.ble (off+n) r.n) (r.c.take off n)
def DB(s:AE)(i off:Nat):Option AV:=
 (rowAt s i).bind fun r=>AQ (Nat.blt off r.n) (r.c.get off)
def BT(s:AE)(i:Nat)(r:D5):AE:=match r.par with
 | none=>s
 | some p=>bif Nat.beq p i then s else Cg s p
def EG:lF→Bool
 | .own=>true
 | _=>false
def C3(s:AE)(i off:Nat)(vs:List AV):Option AE:=
 match vs with
 | []=>some s
 | _::_=>(rowAt s i).bind fun r =>
  AQ (EG r.mode && Nat.ble (off+vs.length) r.n && Aq vs)
   (some (setObj (BT s i r) i (.row { r with c:=r.c.fill off vs,par:=none })))
def PZ(s:AE)(g:Nat):Option D5:=(rowAt s g).bind fun r=>match r.glob with
 | some g'=>AQ (Nat.beq g' g) (some r)
 | none=>none
def AB(P:Program)(s:AE)(t:TypeId):AV→Option AV
 | .gptr i o=>(PZ s i).bind fun _=>(EO P t).bind fun g=>match g with
  | true=>(BJ P t).bind fun n=>(CL s i o n).bind fun l=>some (.agg l)
  | false=>DB s i o
 | .ptr (some (i,o))=>(EO P t).bind fun g=>match g with
  | true=>(BJ P t).bind fun n=>(CL s i o n).bind fun l=>some (.agg l)
  | false=>DB s i o
 | _=>none
def AO(P:Program)(s:AE)(t:TypeId)(a v:AV):Option AE:=
 match a with
 | .ptr (some (i,o))=>(BJ P t).bind fun n=>AQ (Nat.beq v.cells.length n) (C3 s i o v.cells)
 | _=>none
def HM(P:Program)(t:TypeId):Bool:=match P.underlying t with
 | some (.pointer _)=>true
 | _=>false
def JJ(P:Program)(t:TypeId):Bool:=match P.underlying t with
 | some (.slice _)=>true
 | _=>false
def KB(P:Program)(t:TypeId):Bool:=match P.underlying t with
 | some (.map ..)=>true
 | _=>false
def JH(P:Program)(t:TypeId):Bool:=match P.underlying t with
 | some (.func ..)=>true
 | _=>false
def Pa(P:Program)(t:TypeId):Bool:=match P.underlying t with
 | some .bool=>true
 | _=>false
def jv(P:Program)(t:TypeId):AV→AV→Option Bool
 | .bool a,.bool b=>AQ (Pa P t) (some (a == b))
 | .ptr none,.ptr b=>AQ (HM P t) (some b.isNone)
 | .ptr a,.ptr none=>AQ (HM P t) (some a.isNone)
 | .slice none _ _,.slice b _ _=>AQ (JJ P t) (some b.isNone)
 | .slice a _ _,.slice none _ _=>AQ (JJ P t) (some a.isNone)
 | .map none,.map b=>AQ (KB P t) (some b.isNone)
 | .map a,.map none=>AQ (KB P t) (some a.isNone)
 | .nilFunc,.nilFunc=>AQ (JH P t) (some true)
 | .func ..,.nilFunc=>AQ (JH P t) (some false)
 | .nilFunc,.func ..=>AQ (JH P t) (some false)
 | _,_=>none
def CC:IntKind→IntKind→Bool
 | .i8,.i8 | .i16,.i16 | .i32,.i32 | .i64,.i64 | .u8,.u8 | .u16,.u16 | .u32,.u32 | .u64,.u64=>true
 | _,_=>false
def fc(P:Program)(op:BinOp)(k:IntKind)(a b:Int):Option AV:=
 match op with
 | .add=>some (.int k (De k (a+b)))
 | .sub=>some (.int k (De k (a - b)))
 | .mul=>some (.int k (De k (a * b)))
 | .eql=>some (.bool (NX a b))
 | .neq=>some (.bool (!NX a b))
 | .lss=>some (.bool (NV a b))
 | .leq=>some (.bool (!NV b a))
 | .gtr=>some (.bool (NV b a))
 | .geq=>some (.bool (!NV a b))
 | .quo | .rem=>(DM P (Op.intDiv op k a b)).bind ofValue
 | .shl | .shr=>none
 | _=>(DM P (Op.intBits op k a b)).bind ofValue
def AN(P:Program)(op:BinOp)(t:TypeId)(x y:AV):Option AV:=
 match x,y with
 | .int k a,.int k' b=>match op with
  | .shl | .shr=>(DM P (Op.shift op k a k' b)).bind ofValue
  | _=>AQ (CC k k') (fc P op k a b)
 | .str a,.str b=>WV op a b
 | x,y=>match op with
  | .eql=>(jv P t x y).bind fun b=>some (.bool b)
  | .neq=>(jv P t x y).bind fun b=>some (.bool (!b))
  | _=>none
def fg(P:Program)(t:TypeId):Bool:=match P.underlying t with
 | some (.pointer e)=>(match P.info? e with | some j=>!Nat.beq j.size 0 | none=>false)
 | _=>false
def Im(s:AE)(i:Nat):Bool:=match rowAt s i with
 | some r=>EG r.mode && r.par.isNone
 | none=>false
def KL(P:Program)(s:AE)(neg:Bool)(t:TypeId)(x y:AV):Option AV:=
 match x,y with
 | .ptr (some (i,o)),.ptr (some (j,q))=>AQ (fg P t && Im s i && Im s j) (some (.bool ((Nat.beq i j && Nat.beq o q) != neg)))
 | x,y=>AN P (bif neg then .neq else .eql) t x y
def Sy(P:Program)(op:UnOp):AV→Option AV
 | .int k n=>match op with
  | .neg=>some (.int k (De k (0 - n)))
  | .xor=>(DM P (Op.unary .xor (.int k n))).bind ofValue
  | _=>none
 | .bool b=>match op with
  | .not=>some (.bool (!b))
  | _=>none
 | _=>none
def MJ(place:Nat→Option (Nat×Nat))(cells:List AV):List (Nat×AV)→Option (List AV)
 | []=>some cells
 | (i,v)::rest=>(place i).bind fun p =>
  AQ (Nat.beq v.cells.length p.2 && Nat.ble (p.1+v.cells.length) cells.length)
   (MJ place (cells.take p.1++(v.cells++cells.drop (p.1+v.cells.length))) rest)
def FV(P:Program):List Field→Option (List (Nat×Nat))
 | []=>some []
 | f::l=>(BJ P f.type).bind fun n=>(FV P l).bind fun r=>some ((f.offset,n)::r)
def Be(P:Program)(t:TypeId)(parts:List (Nat×AV)):Option AV:=
 (EM P t).bind fun z=>match P.underlying t with
  | some (.struct fields)=>(FV P fields.toList).bind fun places =>
   (MJ (fun i=>places[i]?) z.cells parts).bind fun l=>some (.agg l)
  | some (.array _ e)=>(BJ P e).bind fun n =>
   (MJ (fun i=>some (i * n,n)) z.cells parts).bind fun l=>some (.agg l)
  | _=>none
def Nd(l:List AV):Nat→List AV
 | 0=>[]
 | n+1=>l++Nd l n
def Ad(P:Program)(t:TypeId)(len:Nat)(parts:List (Nat×AV)):Option BF:=
 match P.underlying t with
 | some (.slice e)=>(BJ P e).bind fun n=>AQ (Nat.ble (len * n) 16777216) <|
  (EM P e).bind fun z=>AQ (Nat.beq z.cells.length n) <|
   (MJ (fun i=>some (i * n,n)) (Nd z.cells len) parts).bind fun l=>some (GH e n l)
 | _=>none
def A7(P:Program)(s:AE)(src dst:TypeId)(x:AV):Option AV:=
 match P.underlying src,P.underlying dst,x with
 | some _,some (.int k),.int _ n=>some (.int k (De k n))
 | some _,some .string,.str l=>some (.str l)
 | some (.slice e),some .string,.slice a len _=>match P.underlying e with
  | some (.int .u8)=>match a with
   | none=>some (.str [])
   | some (i,o)=>(CL s i o len).bind fun l=>(bytesOf l).bind fun b=>some (.str b)
  | _=>none
 | some (.pointer u),some .unsafePointer,x=>seenPtr u x
 | some .unsafePointer,some (.pointer u),x=>seenPtr u x
 | _,_,_=>none
where
 seenPtr (u:TypeId):AV→Option AV
  | .ptr none=>some (.ptr none)
  | .ptr (some (i,o))=>(rowAt s i).bind fun r=>(BJ P u).bind fun n =>
   AQ (EG r.mode && r.bytes && Nat.beq o 0 && Nat.beq r.elem u && Nat.ble n r.n && !Nat.beq n 0) (some (.ptr (some (i,o))))
  | _=>none
 bytesOf:List AV→Option (List Nat)
  | []=>some []
  | .int .u8 (.ofNat n)::l=>AQ (Nat.blt n 256) ((bytesOf l).bind fun r=>some (n::r))
  | _::_=>none
def F8:AV→Option Nat
 | .int _ n=>WJ n
 | _=>none
def Bn(x:AV)(y:Nat):Option Nat:=(F8 x).bind fun i=>AQ (Nat.ble i y) (some i)
def Bo(P:Program)(s:AE)(t:TypeId)(x:AV)(lo hi mx:Option AV):Option AV:=
 match x with
 | .str l=>(match mx with | some _=>none | none=>some ()).bind fun _ =>
  (match hi with | some h=>Bn h l.length | none=>some l.length).bind fun h =>
  (match lo with | some v=>Bn v h | none=>some 0).bind fun o =>
  (match P.underlying t with | some .string=>some () | _=>none).bind fun _=>some (.str ((l.drop o).take (h - o)))
 | .slice a len cap=>match P.underlying t with
  | some (.slice e)=>(BJ P e).bind fun n =>
   (match cap with
    | some c=>some c
    | none=>match a with
     | none=>none
     | some (i,o)=>(rowAt s i).bind fun r=>AQ (Nat.ble o r.n && Nat.beq n r.sz && !Nat.beq n 0) (some ((r.n - o) / n))).bind fun far =>
   (match mx with | some m=>(Bn m far).bind fun c=>AQ (cap.isSome || Nat.blt 0 far) (some (some c)) | none=>some cap).bind fun m =>
   (match hi,m with
    | some h,some c=>Bn h c
    | some h,none=>Bn h far
    | none,some c=>(match mx with | none=>some len | some _=>(fun(_:Nat)=>none) c)
    | none,none=>some len).bind fun h =>
   (match lo with | some v=>Bn v h | none=>some 0).bind fun l =>
   some (.slice
    (match a with
     | none=>none
     | some (i,o)=>match m with
      | some c=>bif Nat.beq c l then some (i,o)else some (i,o+l * n)
      | none=>some (i,o+l * n))
    (h - l) (match m with | some c=>some (c - l) | none=>none))
  | _=>none
 | .ptr (some (i,o))=>match P.underlying t with
  | some (.array len e)=>arr len e i o
  | some (.pointer u)=>match P.underlying u with
   | some (.array len e)=>arr len e i o
   | _=>none
  | _=>none
 | _=>none
where
 arr (len:Nat) (e:TypeId) (i o:Nat):Option AV:=(BJ P e).bind fun n =>
  (match mx with | some m=>Bn m len | none=>some len).bind fun m =>
  (match hi with | some h=>Bn h m | none=>match mx with | none=>some len | some _=>none).bind fun h =>
  (match lo with | some v=>Bn v h | none=>some 0).bind fun l =>
  some (.slice (some (i,bif Nat.beq m l then o else o+l * n)) (h - l) (some (m - l)))
def AC(P:Program)(t:TypeId)(x:AV)(f:Nat):Option AV:=
 match x with
 | .ptr (some (i,o))=>match P.underlying t with
  | some (.struct fs)=>(fs[f]?).bind fun fd=>(BJ P fd.type).bind fun n =>
   AQ (!Nat.beq n 0) (some (.ptr (some (i,o+fd.offset))))
  | _=>none
 | _=>none
def WN(P:Program)(t:TypeId)(cs:List AV)(off:Nat):Option AV:=
 (EO P t).bind fun g=>match g with
  | true=>(BJ P t).bind fun n=>some (.agg ((cs.drop off).take n))
  | false=>cs[off]?
def UD(P:Program)(t:TypeId)(x:AV)(f:Nat):Option AV:=
 match x with
 | .agg cs=>match P.underlying t with
  | some (.struct fs)=>(fs[f]?).bind fun fd=>WN P fd.type cs fd.offset
  | _=>none
 | _=>none
def AJ(P:Program)(t:TypeId)(x ix:AV):Option AV:=
 (F8 ix).bind fun k=>match x with
  | .ptr (some (i,o))=>match P.underlying t with
   | some (.array len e)=>(BJ P e).bind fun n=>AQ (Nat.blt k len) (some (.ptr (some (i,o+k * n))))
   | _=>none
  | .gptr g o=>match P.underlying t with
   | some (.array len e)=>(BJ P e).bind fun n=>AQ (Nat.blt k len) (some (.gptr g (o+k * n)))
   | _=>none
  | .slice (some (i,o)) len _=>match P.underlying t with
   | some (.slice e)=>(BJ P e).bind fun n=>AQ (Nat.blt k len) (some (.ptr (some (i,o+k * n))))
   | _=>none
  | _=>none
def UI(P:Program)(t:TypeId)(x ix:AV):Option AV:=
 (F8 ix).bind fun k=>match x with
  | .agg cs=>match P.underlying t with
   | some (.array len e)=>(BJ P e).bind fun n=>AQ (Nat.blt k len) (WN P e cs (k * n))
   | _=>none
  | .str l=>match P.underlying t with
   | some .string=>(l[k]?).bind fun b=>some (.int .u8 (.ofNat b))
   | _=>none
  | _=>none
def EY:AV→Option AV
 | .ptr none | .nilIface | .nilFunc | .junk=>none
 | v=>some v
def Zb(x:AV)(i:Nat):Option AV:=
 match x with
 | .tuple vs=>vs[i]?
 | _=>none
def Rw(c a b:AV):Option AV:=
 match c with
 | .bool true=>some a
 | .bool false=>some b
 | _=>none
def Ch(mx:Bool):AV→List AV→Option AV
 | v,[]=>some v
 | .int k a,.int k' b::l=>AQ (CC k k') (Ch mx (.int k (bif (bif mx then NV a b else NV b a)then b else a)) l)
 | _,_=>none
def HQ:AV→AV→Option Bool
 | .int k a,.int k' b=>AQ (CC k k') (some (NX a b))
 | .str a,.str b=>some (Dd a b)
 | .agg a,.agg b=>keysEq a b
 | _,_=>none
where
 keysEq:List AV→List AV→Option Bool
 | [],[]=>some true
 | .int k a::x,.int k' b::y=>AQ (CC k k') ((keysEq x y).bind fun r=>some (NX a b && r))
 | .str a::x,.str b::y=>(keysEq x y).bind fun r=>some (Dd a b && r)
 | _,_=>none
def G2(k:AV):List (AV×AV)→Nat→Option (Option (Nat×AV))
 | [],_=>some none
 | (k',v)::l,i=>(HQ k k').bind fun e=>match e with
  | true=>some (some (i,v))
  | false=>G2 k l (i+1)
def IM(P:Program):Nat→TypeId→List AV→Bool
 | 0,_,_=>false
 | d+1,t,cs=>match P.underlying t with
  | some (.int q)=>match cs with
   | [.int q' n]=>CC q' q && CG q n
   | _=>false
  | some .string=>match cs with
   | [.str l]=>Nat.ble l.length 1099511627776
   | _=>false
  | some (.array n e)=>Nat.beq cs.length (P.cellsOf t) && (List.range n).all fun i=>IM P d e ((cs.drop (i * P.cellsOf e)).take (P.cellsOf e))
  | some (.struct fs)=>Nat.beq cs.length (P.cellsOf t) && fs.toList.all fun f=>IM P d f.type ((cs.drop f.offset).take (P.cellsOf f.type))
  | _=>false
def FL(P:Program)(t:TypeId)(k:AV):Bool:=match P.underlying t with
 | some (.array _ _) | some (.struct _)=>match k with
  | .agg cs=>IM P 4 t cs
  | _=>false
 | _=>IM P 1 t [k]
def Gi(P:Program)(t:TypeId):Bool:=match P.underlying t with
 | some (.int _) | some .string=>true
 | some (.array _ _) | some (.struct _)=>P.keyType t && (P.tiled (P.types.size+1) t && (Nat.ble 4 P.types.size && Nat.ble P.types.size 9990))
 | _=>false
def IN(P:Program)(t:TypeId):Bool:=match P.underlying t with
 | some (.map kt _)=>Gi P kt
 | _=>false
def KC(P:Program)(t:TypeId):Option TypeId:=match P.underlying t with
 | some (.map kt _)=>some kt
 | _=>none
def HT(s:AE)(kt:TypeId)(i:Nat):Option (List (AV×AV)):=match s.heap.get i with
 | some (.map kt' es)=>AQ (Nat.beq kt' kt) (some es)
 | _=>none
def Kp(s:AE)(kt:TypeId)(i:Nat):Option (List (AV×AV)):=match s.heap.get i with
 | some (.map kt' es)=>AQ (Nat.beq kt' kt) (some es)
 | some (.mapRo kt' es)=>AQ (Nat.beq kt' kt) (some es)
 | _=>none
def Da(P:Program)(s:AE)(t:TypeId)(m k:AV)(ok:Bool):Option AV:=
 match P.underlying t with
 | some (.map kt et)=>AQ (FL P kt k) <|
  (match m with
   | .map none=>some []
   | .map (some i)=>Kp s kt i
   | _=>none).bind fun es=>(G2 k es 0).bind fun r =>
   (match r with
    | some (_,v)=>some (v,true)
    | none=>(EM P et).bind fun z=>some (z,false)).bind fun p=>some (bif ok then .tuple [p.1,.bool p.2]else p.1)
 | _=>none
def setNth(es:List (AV×AV))(i:Nat)(v:AV):List (AV×AV):=
 match es,i with
 | [],_=>[]
 | (k,_)::l,0=>(k,v)::l
 | e::l,i+1=>e::setNth l i v
def un(k v:AV)(es:List (AV×AV)):Option (List (AV×AV)):=(G2 k es 0).bind fun r=>match r with
 | some (j,_)=>some (setNth es j v)
 | none=>some (es++[(k,v)])
def IB(P:Program)(s:AE)(t:TypeId)(m k v:AV):Option AE:=
 match P.underlying t,m with
 | some (.map kt _),.map (some i)=>AQ (FL P kt k) <|
  (HT s kt i).bind fun es=>(un k v es).bind fun es'=>some (setObj s i (.map kt es'))
 | _,_=>none
def delNth(es:List (AV×AV))(i:Nat):List (AV×AV):=
 match es,i with
 | [],_=>[]
 | _::l,0=>l
 | e::l,i+1=>e::delNth l i
def Ge(P:Program)(s:AE)(t:TypeId)(m k:AV):Option AE:=
 match P.underlying t with
 | some (.map kt _)=>AQ (FL P kt k) <| match m with
  | .map none=>some s
  | .map (some i)=>(HT s kt i).bind fun es=>(G2 k es 0).bind fun r=>match r with
    | some (j,_)=>some (setObj s i (.map kt (delNth es j)))
    | none=>some s
  | _=>none
 | _=>none
def Ay(P:Program)(s:AE)(t:TypeId):AV→Option AV
 | .str l=>match P.underlying t with
  | some .string=>some (.int .i64 (.ofNat l.length))
  | _=>none
 | .slice _ n _=>match P.underlying t with
  | some (.slice _)=>some (.int .i64 (.ofNat n))
  | _=>none
 | .map none=>match P.underlying t with
  | some (.map ..)=>some (.int .i64 (.ofNat 0))
  | _=>none
 | .map (some i)=>match P.underlying t with
  | some (.map ..)=>match s.heap.get i with
   | some (.map _ es)=>some (.int .i64 (.ofNat es.length))
   | some (.mapRo _ es)=>some (.int .i64 (.ofNat es.length))
   | _=>none
  | _=>none
 | _=>none
def W9(P:Program)(s:AE)(t:TypeId):AV→Option AV
 | .slice a _ cap=>match P.underlying t with
  | some (.slice e)=>match cap with
   | some c=>some (.int .i64 (.ofNat c))
   | none=>match a with
    | some (i,o)=>(BJ P e).bind fun n=>(rowAt s i).bind fun r=>AQ (!r.spare && Nat.ble o r.n && Nat.beq n r.sz && !Nat.beq n 0) (some (.int .i64 (.ofNat ((r.n - o) / n))))
    | none=>none
  | _=>none
 | _=>none
def eu:AV→Option AV
 | .slice none _ _=>some (.ptr none)
 | .slice (some (i,o)) (_+1) _=>some (.ptr (some (i,o)))
 | _=>none
def Made.val(i:Nat):Made→AV
 | .ptr=>.ptr (some (i,0))
 | .slice n=>.slice (some (i,0)) n (some n)
 | .map=>.map (some i)
def Ag(P:Program)(e:TypeId):Option (BF×Made):=(EM P e).bind fun z=>some (GH e 0 z.cells,.ptr)
def BV(e:TypeId)(v:AV):Option (BF×Made):=some (GH e 0 v.cells,.ptr)
def Bb(P:Program)(t:TypeId)(l c:AV):Option (BF×Made):=
 match P.underlying t,l,c with
  | some (.slice e),.int .i64 (.ofNat l),.int .i64 (.ofNat c)=>(DP P e).bind fun by_=>(BJ P e).bind fun n =>
   AQ (Nat.beq l c && Nat.ble (by_ * c) 1099511627776 && Nat.ble c 1099511627776) <|
   (EM P e).bind fun z=>AQ (Nat.beq z.cells.length n) (some (GH e n (Nd z.cells c),.slice c))
  | _,_,_=>none
def UL(P:Program)(t:TypeId):Bool:=match P.underlying t with
 | some (.int _)=>true
 | _=>false
def Nh(s:AE)(i o n size:Nat):Option (List AV):=bif Nat.beq n 0 then some []else CL s i o (n * size)
def Co(P:Program)(s:AE)(e:TypeId)(size:Nat):AV→Option (Nat×List AV)
 | .int _ (.ofNat n)=>AQ (Nat.ble n 1099511627776 && Nat.blt 0 n) ((EM P e).bind fun z=>AQ (Nat.beq z.cells.length size) (some (n,Nd z.cells n)))
 | .slice none _ _=>some (0,[])
 | .slice (some (i,o)) n _=>(Nh s i o n size).bind fun l=>some (n,l)
 | .str l=>AQ (Nat.beq size 1) (some (l.length,l.map fun b=>.int .u8 (.ofNat b)))
 | _=>none
def B0(P:Program)(t:TypeId):Bool:=match P.underlying t with
 | some (.slice _) | some .string=>true
 | _=>false
def Cy(e:TypeId)(sz:Nat)(c:Ab AV)(n:Nat)(par:Option Nat)(base:Bool):BF:=
 .row { elem:=e,sz,n,c,spare:=true,mode:=.own,par,bytes:=base }
def DH(P:Program)(e:TypeId)(size:Nat):Bool:=match EM P e with
 | some z=>Nat.beq z.cells.length size
 | none=>false
def DA(P:Program)(s:AE)(e:TypeId)(size n:Nat)(cells:List AV):Option (AV×AE):=
 AQ (DH P e size) (some (.slice (some (s.next,0)) n none,newObj s (Cy e size (Ab.fill .leaf 0 cells) cells.length none true)))
def Dt(s:AE)(i:Nat)(r:D5)(ends:Bool):AE:=
 bif ends then setObj (BT s i r) i (.row { r with mode:=.sealed,par:=none })else Cg (BT s i r) i
def FQ(P:Program)(s:AE)(e:TypeId)(size i o len:Nat)(src:Nat×List AV)(r:D5)(old:List AV):Option (AV×AE):=
 AQ (EG r.mode && Nat.beq r.elem e && DH P e size) <|
  let ends:=Nat.beq (o+len * size) r.n
  let s2:=Dt s i r ends
  some (.slice (some (s.next,0)) (len+src.1) none,
   newObj s2 (Cy e size (bif Nat.beq o 0 then r.c.fill (len * size) src.2 else Ab.fill .leaf 0 (old++src.2)) (old++src.2).length (bif ends then some i else none) (r.bytes && Nat.beq o 0)))
def LD(P:Program)(s:AE)(e:TypeId)(size i o len:Nat)(src:Nat×List AV)(r:D5):Option (AV×AE):=
 AQ (Nat.beq size r.sz) <|
 bif Nat.ble (o+(len+src.1) * size) r.n then
  (C3 s i (o+len * size) src.2).bind fun s'=>some (.slice (some (i,o)) (len+src.1) none,s')
 else (CL s i o (len * size)).bind fun old =>
  bif r.spare then FQ P s e size i o len src r old else DA P s e size (len+src.1) (old++src.2)
def HB(P:Program)(s:AE)(e:TypeId)(size i o len c:Nat)(src:Nat×List AV):Option (AV×AE):=
 bif Nat.ble (len+src.1) c then
  (C3 s i (o+len * size) src.2).bind fun s'=>some (.slice (some (i,o)) (len+src.1) (some c),s')
 else (CL s i o (len * size)).bind fun old=>DA P s e size (len+src.1) (old++src.2)
def appTo(P:Program)(s:AE)(e:TypeId)(size:Nat)(a:Option (Nat×Nat))(len:Nat)(cap:Option Nat)(src:Nat×List AV):Option (AV×AE):=
 match a with
 | none=>bif Nat.beq src.1 0 then some (.slice none 0 (some 0),s)else DA P s e size src.1 src.2
 | some (i,o)=>match cap with
  | some c=>HB P s e size i o len c src
  | none=>(rowAt s i).bind fun r=>LD P s e size i o len src r
def Aj(P:Program)(s:AE)(argTypes:List TypeId)(args:List AV):Option (AV×AE):=
 match argTypes,args with
 | [st,xt],[.slice a len cap,x]=>match P.underlying st with
  | some (.slice e)=>(BJ P e).bind fun size=>(DP P e).bind fun by_ =>
   AQ (!Nat.beq size 0 && (match x with | .int ..=>UL P xt | _=>B0 P xt)) <|
   (Co P s e size x).bind fun src =>
   AQ (Aq src.2 && Nat.ble ((len+src.1) * by_) 1099511627776 && Nat.ble (len+src.1) 1099511627776) <|
   appTo P s e size a len cap src
  | _=>none
 | _,_=>none
def en(P:Program)(s:AE)(argTypes:List TypeId)(args:List AV):Option (AV×AE):=
 match argTypes,args with
 | dt::_,[.slice a dl _,x]=>match P.underlying dt with
  | some (.slice e)=>(BJ P e).bind fun size =>
   (match x with | .slice _ n _=>some n | .str l=>some l.length | _=>none).bind fun sl =>
   let n:=bif Nat.ble sl dl then sl else dl
   (match x with
    | .slice none _ _=>some []
    | .slice (some (i,o)) _ _=>CL s i o (n * size)
    | .str l=>AQ (Nat.beq size 1) (some ((l.take n).map fun b=>.int .u8 (.ofNat b)))
    | _=>none).bind fun cells =>
   (match a with
    | none=>some s
    | some (i,o)=>C3 s i o cells).bind fun s'=>some (.int .i64 (.ofNat n),s')
  | _=>none
 | _,_=>none
def Vt(r:D5):BF:=.row { r with n:=0,spare:=true,mode:=.ro,par:=none,bytes:=false,glob:=none }
def WZ(P:Program)(s:AE)(t:TypeId)(n:Nat):Option (Nat×Nat)→Option (AV×AE)
 | none=>none
 | some (i,o)=>match P.underlying t with
  | some (.pointer e)=>(rowAt s i).bind fun r=>AQ (EG r.mode && r.bytes && Nat.beq o 0 && Nat.beq r.elem e && Nat.ble n 1099511627776) <| (BJ P e).bind fun z=>AQ (Nat.beq z 1) <|
   (CL s i o n).bind fun l=>(A7.bytesOf l).bind fun b=>some (.str b,setObj (BT s i r) i (Vt r))
  | _=>none
def iK(P:Program)(s:AE)(argTypes:List TypeId)(args:List AV):Option (AV×AE):=
 match argTypes,args with
 | [t,_],[.ptr a,.int .i64 (.ofNat n)]=>match n with
  | 0=>some (.str [],s)
  | n+1=>WZ P s t (n+1) a
 | _,_=>none
def gI(s:AE):List AV→Option (AV×AE)
 | [x]=>some (x,s)
 | _=>none
def Pm(e:TypeId)(s:AE):List AV→Option (AV×AE)
 | [.int .i64 (.ofNat n)]=>AQ (Nat.ble n 1099511627776) (some (.slice (some (s.next,0)) n none,newObj s (Cy e 1 .leaf n none true)))
 | _=>none
def Vm(s:AE):List AV→Option (AV×AE)
 | [.str a,.str b]=>some (.int .i64 (bif Hg a b then -1 else bif Dd a b then 0 else 1),s)
 | _=>none
def RV(P:Program)(name:String)(rt:Array TypeId):Option (AE→List AV→Option (AV×AE)):=
  bif name == "internal/abi.NoEscape" then some gI else
  bif name == "internal/bytealg.abigen_runtime_cmpstring" then some Vm else
  bif name == "internal/bytealg.MakeNoZero" then (match rt.toList with
    | [t]=>match P.underlying t with
      | some (.slice e)=>match BJ P e with
        | some 1=>some (Pm e)
        | _=>none
      | _=>none
    | _=>none)
  else none
def fO(P:Program)(f:FuncId):Option (AE→List AV→Option (AV×AE)):=match P.funcs[f]? with
  | some fn=>match fn.body with
    | some _=>none
    | none => bif fn.origin == "" then RV P fn.name fn.resultTypes else none
  | none=>none
def T3(P:Program)(s:AE)(argTypes:List TypeId)(args:List AV):Option (AV×AE):=
 match argTypes,args with
 | t::_,[x]=>match P.underlying t,x with
  | some (.slice _),.slice none _ _=>some (Bc,s)
  | some (.slice _),.slice _ 0 _=>some (Bc,s)
  | some (.slice e),.slice (some (i,o)) n _=>(EM P e).bind fun z=>(C3 s i o (Nd z.cells n)).bind fun s'=>some (Bc,s')
  | _,_=>none
 | _,_=>none
inductive Sh where
 | p1 (f:AV→Option AV)
 | p2 (f:AV→AV→Option AV)
 | p (f:List AV→Option AV)
 | r1 (f:AE→AV→Option AV)
 | r (f:AE→List AV→Option AV)
 | mk (f:List AV→Option (BF×Made))
 | e (f:AE→List AV→Option (AV×AE))
 | call (f:FuncId)
 | callv
def Sh.isEff:Sh→Bool
 | .e _ | .call _ | .callv=>true
 | _=>false
def Sh.isRead:Sh→Bool
 | .r1 _ | .r _=>true
 | _=>false
def Ru:List AV→Option AV
 | [c,a,b]=>Rw c a b
 | _=>none
def Xy{α:Type}(f:AV→AV→Option α):List AV→Option α
 | [a,b]=>f a b
 | _=>none
def Xz{α:Type}(f:AV→AV→AV→Option α):List AV→Option α
 | [a,b,c]=>f a b c
 | _=>none
def Za(x:Option AE):Option (AV×AE):=match x with
 | some s=>some (Bc,s)
 | none=>none
def At(P:Program)(t:TypeId)(lo hi mx:Bool)(s:AE):List AV→Option AV
 | [x]=>match lo,hi,mx with
  | false,false,false=>Bo P s t x none none none
  | _,_,_=>none
 | [x,a]=>match lo,hi,mx with
  | true,false,false=>Bo P s t x (some a) none none
  | false,true,false=>Bo P s t x none (some a) none
  | _,_,_=>none
 | [x,a,b]=>match lo,hi,mx with
  | true,true,false=>Bo P s t x (some a) (some b) none
  | false,true,true=>Bo P s t x none (some a) (some b)
  | _,_,_=>none
 | [x,a,b,c]=>match lo,hi,mx with
  | true,true,true=>Bo P s t x (some a) (some b) (some c)
  | _,_,_=>none
 | _=>none
def zipIdx(is:List Nat)(l:List AV):List (Nat×AV):=is.zip l
def HN:Operand→Bool
 | .tmp _=>true
 | _=>false
def gV(P:Program)(op:BinOp)(t:TypeId)(x y:Operand):Option Bool:=match op with
 | .eql=>bif HN x && HN y && HM P t then some false else none
 | .neq=>bif HN x && HN y && HM P t then some true else none
 | _=>none
def BS(P:Program)(o:Op):Option (Sh×List Operand):=
 match o with
 | .move x | .assign x=>some (.p1 some,[x])
 | .pick c a b=>some (.p Ru,[c,a,b])
 | .build t ps=>some (.p (fun l=>Be P t (zipIdx (ps.toList.map (·.1)) l)),ps.toList.map (·.2))
 | .nilCheck x=>some (.p1 EY,[x])
 | .binOp op t x y _=>match gV P op t x y with
  | some neg=>some (.r (fun s=>Xy (KL P s neg t)),[x,y])
  | none=>some (.p2 (AN P op t),[x,y])
 | .unOp op _ x=>some (.p1 (Sy P op),[x])
 | .makeFunc fn first captured=>match fn with
  | .func f=>some (.p (fun l=>some (.func f (l.take first.size) (l.drop first.size))),first.toList++captured.toList)
  | _=>none
 | .fieldAddr t x f=>some (.p1 (fun x=>AC P t x f),[x])
 | .field t x f=>some (.p1 (fun x=>UD P t x f),[x])
 | .indexAddr t x i=>some (.p2 (AJ P t),[x,i])
 | .index t x i=>some (.p2 (UI P t),[x,i])
 | .extract t i=>some (.p1 (fun x=>Zb x i),[t])
 | .load t a=>some (.r1 (fun s a=>AB P s t a),[a])
 | .lookup t m k ok=>AQ (IN P t) (some (.r (fun s=>Xy (fun m k=>Da P s t m k ok)),[m,k]))
 | .convert src dst x=>some (.r1 (fun s x=>A7 P s src dst x),[x])
 | .slice t x lo hi mx=>some (.r (At P t lo.isSome hi.isSome mx.isSome),[x]++lo.toList++hi.toList++mx.toList)
 | .alloc e=>some (.mk (fun l=>match l with | []=>Ag P e | _=>none),[])
 | .box e x=>some (.mk (fun l=>match l with | [v]=>BV e v | _=>none),[x])
 | .buildSlice t len ps=>some (.mk (fun l=>(Ad P t len (zipIdx (ps.toList.map (·.1)) l)).bind fun r=>some (r,.slice len)),ps.toList.map (·.2))
 | .makeMap t none=>AQ (IN P t) (some (.mk (fun l=>match l with | []=>(KC P t).bind fun kt=>some (.map kt [],.map) | _=>none),[]))
 | .makeSlice t l c=>some (.mk (Xy (Bb P t)),[l,c])
 | .store t a x=>some (.e (fun s=>Xy (fun a x=>Za (AO P s t a x))),[a,x])
 | .mapUpdate t m k x | .insert t m k x=>AQ (IN P t) (some (.e (fun s=>Xz (fun m k x=>Za (IB P s t m k x))),[m,k,x]))
 | .call { callee,args,argTypes }=>match callee with
  | .value (.func f)=>match fO P f with
   | some e=>some (.e e,args.toList)
   | none=>some (.call f,args.toList)
  | .value x=>some (.callv,x::args.toList)
  | .invoke ..=>none
  | .builtin b=>match b with
   | .len=>match argTypes[0]? with
    | some t=>some (.r (fun s l=>match l with | [x]=>Ay P s t x | _=>none),args.toList)
    | none=>none
   | .cap=>match argTypes[0]? with
    | some t=>some (.r (fun s l=>match l with | [x]=>W9 P s t x | _=>none),args.toList)
    | none=>none
   | .min=>some (.p (fun l=>match l with | v::l=>Ch false v l | []=>none),args.toList)
   | .max=>some (.p (fun l=>match l with | v::l=>Ch true v l | []=>none),args.toList)
   | .append=>some (.e (fun s l=>Aj P s argTypes.toList l),args.toList)
   | .copy=>some (.e (fun s l=>en P s argTypes.toList l),args.toList)
   | .unsafeSliceData=>some (.p (fun l=>match l with | [x]=>eu x | _=>none),args.toList)
   | .unsafeString=>some (.e (fun s l=>iK P s argTypes.toList l),args.toList)
   | .clear=>some (.e (fun s l=>T3 P s argTypes.toList l),args.toList)
   | .delete=>match argTypes[0]? with
    | some t=>AQ (IN P t) (some (.e (fun s=>Xy (fun m k=>Za (Ge P s t m k))),args.toList))
    | none=>none
   | _=>none
 | _=>none
def xP(t:Nat):Nat:=Nat.shiftLeft 1 t
def GJ:List Operand→Nat
 | []=>0
 | .tmp t::l=>Nat.lor (xP t) (GJ l)
 | _::l=>GJ l
def MG(P:Program):List Oper→Nat→Nat→Nat
 | [],_,e=>e
 | o::l,wr,e =>
  let rd:=match BS P o.op with
   | some (_,xs)=>GJ xs
   | none=>match o.op with
    | .range _ x | .next x _ | .entry x=>GJ [x]
    | _=>0
  MG P l (match o.dst with | some d=>Nat.lor wr (xP d) | none=>wr) (Nat.lor e (Nat.sub rd (Nat.land rd wr)))
def E7(P:Program):Code→Nat
 | .region _ ops _=>MG P ops.toList 0 0
 | .seq a b=>Nat.lor (E7 P a) (E7 P b)
 | .cond c a b=>Nat.lor (GJ [c]) (Nat.lor (E7 P a) (E7 P b))
 | .block _ b | .loop b | .scope b=>E7 P b
 | .rangeFunc f ps a b=>Nat.lor (GJ [f]) (Nat.lor (ps.toList.foldl (fun m t=>Nat.lor m (xP t)) 0) (Nat.lor (E7 P a) (E7 P b)))
 | _=>0
def Io:List ResultVar→Nat
 | []=>0
 | .tmp t::l | .cell t _::l=>Nat.lor (xP t) (Io l)
def F3(m:Nat):Nat→Nat→List Nat
 | 0,_=>[]
 | n+1,k=>bif m.testBit k then k::F3 m n (k+1)else F3 m n (k+1)
def Du(fn:Func):Nat:=fn.params.size+fn.nfree
def Ar(P:Program)(fn:Func):List Tmp:=
 List.range (Du fn)++match fn.body with
 | none=>[]
 | some c=>F3 (Nat.lor (E7 P c) (Io fn.results.toList)) (fn.ntmps - Du fn) (Du fn)
def BG:List Tmp→Tmp→Option Nat
 | [],_=>none
 | a::l,t=>bif Nat.beq a t then some 0 else (BG l t).bind fun j=>some (j+1)
def RS(P:Program)(o:Oper):Bool:=match BS P o.op with
 | some (s,_)=>s.isEff
 | none=>true
def WS(b:Array Nat)(done:Nat)(i:Nat):Bool:=Nat.beq (Nat.land (b.getD i 0) done) (b.getD i 0)
def Uc(P:Program)(ops:Array Oper)(b:Array Nat):Nat→Nat→List Nat→List Nat→List Nat
 | 0,_,_,acc=>acc.reverse
 | f+1,done,todo,acc =>
  match todo.find? fun i=>WS b done i && !RS P (ops.getD i default)with
  | some i=>Uc P ops b f (done+2 ^ i) (todo.filter fun j=>!Nat.beq j i) (i::acc)
  | none=>match todo.find? fun i=>WS b done i with
   | some i=>Uc P ops b f (done+2 ^ i) (todo.filter fun j=>!Nat.beq j i) (i::acc)
   | none=>acc.reverse
def kG(P:Program)(ops:Array Oper):List Nat:=Uc P ops (Region.before ops) ops.size 0 (List.range ops.size) []
def Gm(P:Program)(o:Oper):List Tmp:=o.dst.toList++((match BS P o.op with
 | some (_,xs)=>xs
 | none=>[]).filterMap fun x:Operand=>match x with
  | .tmp t=>some t
  | _=>none)
def V6(o:Oper):List Nat:=match o.guard with
 | some (j,_)=>[j]
 | none=>[]
def P6(P:Program)(ops:Array Oper)(b:Array Nat)(before:List Nat)(i:Nat):Bool:=
 let o:=ops.getD i default
 let anc:=b.getD i 0
 Nat.blt i ops.size && !before.contains i &&
 (List.range ops.size).all (fun j=>!anc.testBit j || before.contains j) &&
 o.after.all (fun e=>!Region.binds .any e || before.contains e.on) &&
 before.all (fun j=>!RS P (ops.getD j default) || anc.testBit j) &&
 (V6 o).all (fun j=>anc.testBit j) &&
 before.all (fun j=>let p:=ops.getD j default
  (match o.dst with
   | none=>true
   | some d=>p.dst != some d && (!(Gm P p).contains d || anc.testBit j)) &&
  (match p.dst with
   | none=>true
   | some d=>!(Gm P o).contains d || anc.testBit j))
def FY(P:Program)(ops:Array Oper)(b:Array Nat):List Nat→List Nat→Bool
 | before,[]=>Nat.beq before.length ops.size
 | before,i::l=>P6 P ops b before i && FY P ops b (before++[i]) l
inductive K5 where
 | push | set (j:Nat)
structure G6 where
 guard:Option (CX×Bool)
 sh:Sh
 xs:List CX
 ans:CX
structure AA where
 guard:Option (CX×Bool)
 sh:Sh
 xs:List CX
 dst:K5
 again:List G6
structure iO where
 map:List (Tmp×CX)
 cnt:Nat
def Ey:List (Tmp×CX)→Tmp→Option CX
 | [],_=>none
 | (a,x)::l,t=>bif Nat.beq a t then some x else Ey l t
def C4(cnt:Nat):CX→CX
 | .loc p=>.loc (cnt - 1 - p)
 | x=>x
def E1(vars:List Tmp)(c:iO)(t:Tmp):Option CX:=
 match Ey c.map t with
 | some x=>some x
 | none=>(BG vars t).bind fun j=>some (.var j)
def Ez(vars:List Tmp)(c:iO):Operand→Option CX
 | .tmp t=>E1 vars c t
 | .const v=>(ofValue v).bind fun a=>some (.const a)
 | .global g=>some (.const (.gptr g 0))
 | .func f=>some (.const (.func f [] []))
def Ik(vars:List Tmp)(c:iO):List Operand→Option (List CX)
 | []=>some []
 | x::l=>(Ez vars c x).bind fun a=>(Ik vars c l).bind fun r=>some (a::r)
def isVar(j:Nat):CX→Bool
 | .var i=>Nat.beq i j
 | _=>false
def JP(j:Nat):List (Tmp×CX)→Bool
 | []=>true
 | (_,x)::l=>!isVar j x && JP j l
def K9(vars:List Tmp)(later:List (Option Tmp))(o:Oper)(x:CX):Bool:=
 (match o.op with | .move _=>true | _=>false) && o.guard.isNone &&
 (match o.dst with | some d=>(BG vars d).isNone | none=>false) &&
 (match x with
  | .var j=>!(later.any fun d=>match d with
   | some t=>match BG vars t with
    | some i=>Nat.beq i j
    | none=>false
   | none=>false)
  | _=>true)
def GK(cnt:Nat):Option (CX×Bool)→Option (CX×Bool)
 | none=>none
 | some (x,b)=>some (C4 cnt x,b)
def JW(cnt:Nat)(r:G6):G6:={ guard:=GK cnt r.guard,sh:=r.sh,xs:=r.xs.map (C4 cnt),ans:=C4 cnt r.ans }
def Ps(j:Nat)(r:G6):Bool:=(match r.guard with | none=>true | some (x,_)=>!isVar j x) && r.xs.all fun x=>!isVar j x
def E6(P:Program)(nt:Nat)(vars:List Tmp)(ops:Array Oper)(b:Array Nat)(draw:Bool):List Nat→iO→List (Nat×G6)→Option (List AA)
  | [],_,_=>some []
  | i::l,c,rs=>(ops[i]?).bind fun o=>(BS P o.op).bind fun sh=>(Ik vars c sh.2).bind fun xs =>
    match (match xs with | [x]=>bif K9 vars (l.map fun j=>(ops.getD j default).dst) o x then some x else none | _=>none),o.dst with
    | some x,some d=>AQ (Nat.blt d nt) (E6 P nt vars ops b draw l { c with map:=(d,x)::c.map } rs)
    | _,_ =>
      (match o.guard with
        | none=>some none
        | some (j,want)=>(ops[j]?).bind fun p=>p.dst.bind fun d=>(E1 vars c d).bind fun x=>some (some (x,want))).bind fun g =>
      (match o.dst with
        | none=>some (K5.push,{ c with cnt:=c.cnt+1 })
        | some d=>AQ (Nat.blt d nt) <| match BG vars d with
          | some j=>AQ (JP j c.map && rs.all fun r=>Ps j r.2) (some (K5.set j,c))
          | none=>some (K5.push,{ map:=(d,.loc c.cnt)::c.map,cnt:=c.cnt+1 })).bind fun q =>
      let ag:=match draw,sh.1.isEff with
        | true,true=>rs.filter fun(r:Nat×G6)=>!(b.getD i 0).testBit r.1
        | _,_=>[]
      let rd:=draw && sh.1.isRead
      AQ (!rd || (match q.1 with | .push=>true | .set _=>false)) <|
      (E6 P nt vars ops b draw l q.2 (bif rd then (i,{ guard:=g,sh:=sh.1,xs,ans:=.loc c.cnt })::rs else rs)).bind fun r =>
        some ({ guard:=GK c.cnt g,sh:=sh.1,xs:=xs.map (C4 c.cnt),dst:=q.1,again:=ag.map fun(r:Nat×G6)=>JW q.2.cnt r.2 }::r)
structure Jn where
 ad:CX
 rd:AE→AV→Option AV
 jt:Nat
 jok:Nat
 jk:Nat
 id2:Nat
inductive Ac where
 | skip
 | ops (l:List AA)
 | seq (a b:Ac)
 | cond (x:CX) (a b:Ac)
 | block (id:Nat) (c:Ac)
 | loop (c:Ac)
 | rangeFunc (fn:FuncId) (f:CX) (params:Array Tmp) (assign body:Code)
 | exit (id:Nat)
 | ret
 | never
 | rangeMap (r:Jn) (body:Ac)
structure vH where
 ty:TypeId
 ad:Operand
 tm:Tmp
 it:Tmp
 tn:Tmp
 ok:Tmp
 te:Tmp
 tk:Tmp
 key:Tmp
 id2:Nat
def FB(o:Oper):Option (Op×Tmp):=match o.guard,o.dst with
 | none,some d=>some (o.op,d)
 | _,_=>none
def TH:Op→Option (TypeId×Operand)
 | .load t a=>some (t,a)
 | _=>none
def On:Op→Option (TypeId×Tmp)
 | .range t (.tmp m)=>some (t,m)
 | _=>none
def TI:Op→Option Tmp
 | .next (.tmp i) false=>some i
 | _=>none
def Ol:Op→Option Tmp
 | .entry (.tmp i)=>some i
 | _=>none
def VA:Op→Option Tmp
 | .extract (.tmp n) 0=>some n
 | _=>none
def YO:Op→Option Tmp
 | .assign (.tmp n)=>some n
 | _=>none
def Pw:List Oper→Option (TypeId×Operand×Tmp×Tmp)
 | [o0,o1]=>(FB o0).bind fun p0=>(FB o1).bind fun p1=>(TH p0.1).bind fun l=>(On p1.1).bind fun r =>
  AQ (Nat.beq l.1 r.1 && Nat.beq p0.2 r.2) (some (l.1,l.2,p0.2,p1.2))
 | _=>none
def Py(it:Tmp):List Oper→Option (Tmp×Tmp)
 | [o0,o1]=>(FB o0).bind fun p0=>(FB o1).bind fun p1=>(TI p0.1).bind fun i=>(VA p1.1).bind fun n =>
  AQ (Nat.beq i it && Nat.beq n p0.2) (some (p0.2,p1.2))
 | _=>none
def M4(it:Tmp):List Oper→Option (Tmp×Tmp×Tmp)
 | [o0,o1,o2]=>(FB o0).bind fun p0=>(FB o1).bind fun p1=>(FB o2).bind fun p2=>(Ol p0.1).bind fun i=>(VA p1.1).bind fun n=>(YO p2.1).bind fun k =>
  AQ (Nat.beq i it && (Nat.beq n p0.2 && Nat.beq k p1.2)) (some (p0.2,p1.2,p2.2))
 | _=>none
def gk(ops1:Array Oper)(d1:Bool):Code→Option vH
 | .block id (.loop (.seq (.region _ ops2 false) (.seq (.cond (.tmp c) .skip (.exit id')) (.block id2 (.seq (.region _ ops3 false) _))))) =>
  AQ (!d1) <| (Pw ops1.toList).bind fun h=>(Py h.2.2.2 ops2.toList).bind fun n=>(M4 h.2.2.2 ops3.toList).bind fun e =>
   AQ (Nat.beq id' id && Nat.beq c n.2) (some ⟨h.1,h.2.1,h.2.2.1,h.2.2.2,n.1,n.2,e.1,e.2.1,e.2.2,id2⟩)
 | _=>none
def Vp(P:Program)(nt:Nat)(vars:List Tmp)(p:vH):Option Jn:=
 (Ez vars ⟨[],0⟩ p.ad).bind fun ad=>(BG vars p.it).bind fun jt=>(BG vars p.ok).bind fun jok=>(BG vars p.key).bind fun jk =>
  AQ ((BG vars p.tm).isNone && ((BG vars p.tn).isNone && ((BG vars p.te).isNone && (BG vars p.tk).isNone))) <|
  AQ (Nat.blt p.tm nt && (Nat.blt p.tn nt && (Nat.blt p.te nt && (Nat.blt p.tk nt && (Nat.blt p.it nt && (Nat.blt p.ok nt && Nat.blt p.key nt)))))) <|
  AQ (KB P p.ty && (!Nat.beq jt jok && (!Nat.beq jt jk && !Nat.beq jok jk))) (some ⟨ad,fun s a=>AB P s p.ty a,jt,jok,jk,p.id2⟩)
def Hz:Ac→Option Ac
 | .block _ (.loop (.seq _ (.seq _ (.block _ (.seq _ b)))))=>some b
 | _=>none
def ND(r:Option Jn)(a b:Ac):Ac:=match r with
 | none=>.seq a b
 | some r=>match Hz b with
  | some c=>.rangeMap r c
  | none=>.seq a b
def IQ(P:Program)(nt:Nat)(vars:List Tmp):Code→Code→Option Jn
 | .region _ ops d,b=>(gk ops d b).bind (Vp P nt vars)
 | _,_=>none
def sO:Option (List AA)→Ac
 | some l=>.ops l
 | none=>.never
def Ap(P:Program)(fn:FuncId)(nt:Nat)(vars:List Tmp):Code→Ac
 | .skip | .label _=>.skip
 | .ret=>.ret
 | .exit id=>.exit id
 | .goto _ | .refuse _=>.never
 | .region _ ops draw=>match draw with
  | false=>sO (E6 P nt vars ops #[] false (List.range ops.size) ⟨[],0⟩ [])
  | true=>sO (AQ (FY P ops (Region.before ops) [] (kG P ops)) (E6 P nt vars ops (Region.before ops) true (kG P ops) ⟨[],0⟩ []))
 | .seq a b=>ND (IQ P nt vars a b) (Ap P fn nt vars a) (Ap P fn nt vars b)
 | .cond c a b=>match Ez vars ⟨[],0⟩ c with
  | some z=>.cond z (Ap P fn nt vars a) (Ap P fn nt vars b)
  | none=>.never
 | .block id c=>.block id (Ap P fn nt vars c)
 | .loop c=>.loop (Ap P fn nt vars c)
 | .scope c=>Ap P fn nt vars c
 | .rangeFunc f ps a b=>match Ez vars ⟨[],0⟩ f with
  | some x=>.rangeFunc fn x ps a b
  | none=>.never
structure Ah where
 na:Nat
 nv:Nat
 body:Ac
 results:List (CX×Option TypeId)
def DQ(vars:List Tmp):List ResultVar→Option (List (CX×Option TypeId))
 | []=>some []
 | .tmp t::l=>(BG vars t).bind fun j=>(DQ vars l).bind fun r=>some ((.var j,none)::r)
 | .cell t ty::l=>(BG vars t).bind fun j=>(DQ vars l).bind fun r=>some ((.var j,some ty)::r)
def AL(P:Program)(f:FuncId):Option Ah:=(P.funcs[f]?).bind fun fn=>fn.body.bind fun c =>
 AQ (Nat.ble (Du fn) fn.ntmps) <|
 let vars:=Ar P fn
 (DQ vars fn.results.toList).bind fun r =>
  some { na:=Du fn,nv:=vars.length,body:=Ap P f fn.ntmps vars c,results:=r }
def Mk (l:List AV):Nat→AV:=
 List.rec (fun _=>Bc) (fun a _ ih i=>Nat.rec a (fun i _=>ih i) i) l
def Gu (v:AV) (l:List AV):Nat→List AV:=
 List.rec (fun _=>[]) (fun a l ih i=>Nat.rec (v::l) (fun i _=>a::ih i) i) l
def C9 (loc var:List AV) (x:CX):AV:=
 match x with
 | .loc i=>Mk loc i
 | .var j=>Mk var j
 | .const v=>v
def D8 (loc var:List AV) (l:List CX):List AV:=
 List.rec [] (fun x _ ih=>C9 loc var x::ih) l
inductive KY where
 | normal | exit (id:Nat) | ret
structure Az where
 exit:KY
 var:List AV
 marks:List Nat
 st:AE
def Fs:AV→AV→Bool
 | .bool a,.bool b=>a == b
 | .int k a,.int k' b=>CC k k' && NX a b
 | .str a,.str b=>Dd a b
 | .ptr none,.ptr none=>true
 | .gptr a b,.gptr c d=>Nat.beq a c && Nat.beq b d
 | .ptr (some (i,o)),.ptr (some (j,p))=>Nat.beq i j && Nat.beq o p
 | .slice none n (some c),.slice none n' (some c')=>Nat.beq n n' && Nat.beq c c'
 | .slice none n none,.slice none n' none=>Nat.beq n n'
 | .slice (some (i,o)) n none,.slice (some (j,p)) n' none=>Nat.beq i j && Nat.beq o p && Nat.beq n n'
 | .slice (some (i,o)) n (some c),.slice (some (j,p)) n' (some c')=>Nat.beq i j && Nat.beq o p && Nat.beq n n' && Nat.beq c c'
 | .map none,.map none=>true
 | .map (some i),.map (some j)=>Nat.beq i j
 | .func f a c,.func g b d=>Nat.beq f g && eqAs a b && eqAs c d
 | .nilFunc,.nilFunc=>true
 | .nilIface,.nilIface=>true
 | .yield i,.yield j=>Nat.beq i j
 | .agg a,.agg b=>eqAs a b
 | .tuple a,.tuple b=>eqAs a b
 | _,_=>false
where
 eqAs:List AV→List AV→Bool
 | [],[]=>true
 | a::x,b::y=>Fs a b && eqAs x y
 | _,_=>false
abbrev QJ:=FuncId→List AV→AE→Option (AV×AE)
structure CR where
 P:Program
 nat:QJ
structure EA where
 code:Option Nat→Ac→List AV→List Nat→AE→Option Az
 call:FuncId→List AV→AE→Option (AV×AE)
 round:Nat→List AV→AE→Option (AV×AE)
def HH(F:EA)(f:AV)(args:List AV)(s:AE):Option (AV×AE):=
 match f with
 | .func f first cap=>F.call f (first++(args++cap)) s
 | .yield l=>F.round l args s
 | _=>none
def EL(s:AE)(x:Option AV):Option (AV×AE):=match x with
 | some v=>some (v,s)
 | none=>none
def one{α:Type}(f:AV→Option α):List AV→Option α
 | [a]=>f a
 | _=>none
def E0(sh:Sh)(xs:List AV)(s:AE):Option AV:=
 match sh with
 | .r1 f=>one (f s) xs
 | .r f=>f s xs
 | _=>none
def SF(s:AE)(r:Option (BF×Made)):Option (AV×AE):=match r with
 | some p=>some (p.2.val s.next,newObj s p.1)
 | none=>none
def IJ {α:Type} (f:CX→Option α) (xs:List CX):Option α:=List.rec none (fun x _ _=>f x) xs
def Kh {α:Type} (f:CX→CX→Option α) (xs:List CX):Option α:=IJ (fun x=>IJ (f x) xs.tail) xs
def xz (f:AV→Option AV) (xs:List CX) (loc var:List AV) (s:AE):Option (AV×AE):=IJ (fun x=>EL s (f (C9 loc var x))) xs
def yA (f:AV→AV→Option AV) (xs:List CX) (loc var:List AV) (s:AE):Option (AV×AE):=Kh (fun x y=>EL s (f (C9 loc var x) (C9 loc var y))) xs
def yB (f:AE→AV→Option AV) (xs:List CX) (loc var:List AV) (s:AE):Option (AV×AE):=IJ (fun x=>EL s (f s (C9 loc var x))) xs
def shV (F:EA) (xs:List CX) (loc var:List AV) (s:AE):Option (AV×AE):=IJ (fun x=>HH F (C9 loc var x) (D8 loc var xs.tail) s) xs
def ux (F:EA) (sh:Sh) (xs:List CX) (loc var:List AV) (s:AE):Option (AV×AE):=
 match sh with
 | .p1 f=>xz f xs loc var s
 | .p2 f=>yA f xs loc var s
 | .p f=>EL s (f (D8 loc var xs))
 | .r1 f=>yB f xs loc var s
 | .r f=>EL s (f s (D8 loc var xs))
 | .mk f=>SF s (f (D8 loc var xs))
 | .e f=>f s (D8 loc var xs)
 | .call f=>F.call f (D8 loc var xs) s
 | .callv=>shV F xs loc var s
def vA(want:Bool):AV→Bool
 | .bool b=>b == want
 | _=>false
def Bv (loc var:List AV) (g:Option (CX×Bool)):Bool:=
 match g with
 | none=>true
 | some p=>vA p.2 (C9 loc var p.1)
def uc:AV→Bool
 | .junk=>true
 | _=>false
def YC (loc var:List AV) (g:Option (CX×Bool)):Bool:=
 match g with
 | none=>false
 | some p=>uc (C9 loc var p.1)
def M9(x:Option AV)(v:AV):Bool:=match x with
 | some u=>Fs u v
 | none=>false
def Et (s:AE) (loc var:List AV) (r:G6):Bool:=
 !Bv loc var r.guard || M9 (E0 r.sh (D8 loc var r.xs) s) (C9 loc var r.ans)
def Eu (s:AE) (loc var:List AV) (l:List G6):Bool:=
 List.rec true (fun r _ ih=>Et s loc var r && ih) l
abbrev YD:=List AV→List AV→AE→Option (List AV×AE)
def DZ (ag:List G6) (d:K5) (k:YD) (loc var:List AV) (v:AV) (s:AE):Option (List AV×AE):=
 match d with
 | .push=>bif Eu s (v::loc) var ag then k (v::loc) var s else none
 | .set j=>bif Eu s loc (Gu v var j) ag then k loc (Gu v var j) s else none
def LS (it:AA) (k:YD) (loc var:List AV) (r:Option (AV×AE)):Option (List AV×AE):=
 match r with
 | none=>none
 | some p=>DZ it.again it.dst k loc var p.1 p.2
def Km (F:EA) (it:AA) (k:YD) (loc var:List AV) (s:AE):Option (List AV×AE):=
 match YC loc var it.guard with
 | true=>none
 | false=>match Bv loc var it.guard with
  | true=>LS it k loc var (ux F it.sh it.xs loc var s)
  | false=>DZ [] it.dst k loc var Bc s
def Ew (F:EA) (l:List AA):YD:=
 List.rec (fun _ var s=>some (var,s)) (fun it _ ih loc var s=>Km F it ih loc var s) l
def Ql(l:List AV):Nat→List AV
 | 0=>[]
 | n+1=>match l with
  | []=>Bc::Ql [] n
  | a::l=>a::Ql l n
def CB (P:Program) (s:AE) (var:List AV):List (CX×Option TypeId)→Option (List AV)
 | []=>some []
 | (x,none)::l=>(CB P s var l).bind fun r=>some (C9 [] var x::r)
 | (x,some t)::l=>(AB P s t (C9 [] var x)).bind fun v=>(CB P s var l).bind fun r=>some (v::r)
def Bu:List AV→AV
 | [v]=>v
 | l=>.tuple l
def EJ(s:AE):List Nat→Option AE
 | []=>some s
 | i::l=>match s.heap.get i with
  | some .mark=>EJ (Cg s i) l
  | _=>none
def Dj:KY→Option Code
 | .normal=>none
 | .ret=>some .ret
 | .exit id=>some (.exit id)
def Db (vars:List Tmp) (var:List AV):List Tmp→List AV→Option (List AV)
 | [],[]=>some var
 | t::ts,v::vs=>(BG vars t).bind fun j=>Db vars (Gu v var j) ts vs
 | _,_=>none
def Ba(s:AE)(l:Nat):Option Di:=match s.heap.get l with
 | some (.loop r)=>some r
 | _=>none
def ER(P:Program)(f:FuncId)(c:Code):Option Ac:=(P.funcs[f]?).bind fun fn=>some (Ap P f fn.ntmps (Ar P fn) c)
def Dh(P:Program)(f:FuncId):List Tmp:=match P.funcs[f]? with
 | some fn=>Ar P fn
 | none=>[]
def iw(marks:List Nat)(r:Option (List AV×AE)):Option Az:=match r with
 | some p=>some ⟨.normal,p.1,marks,p.2⟩
 | none=>none
def IH(F:EA)(rnd:Option Nat)(b:Ac)(r:Az):Option Az:=match r.exit with
 | .normal=>F.code rnd b r.var r.marks r.st
 | _=>some r
def JA(F:EA)(rnd:Option Nat)(b:Ac)(r:Option Az):Option Az:=match r with
 | some r=>IH F rnd b r
 | none=>none
def RM(F:EA)(rnd:Option Nat)(a b:Ac)(var:List AV)(marks:List Nat)(s:AE)(v:AV):Option Az:=match v with
 | .bool t=>match t with
  | true=>F.code rnd a var marks s
  | false=>F.code rnd b var marks s
 | _=>none
def LH(id:Nat)(r:Az):Option Az:=match r.exit with
 | .exit id'=>bif Nat.beq id' id then some ⟨.normal,r.var,r.marks,r.st⟩else some r
 | _=>some r
def L6(id:Nat)(r:Option Az):Option Az:=match r with
 | some r=>LH id r
 | none=>none
def HE(var:List AV)(marks:List Nat)(s:AE)(c:Option Code):Option Az:=match c with
 | none=>some ⟨.normal,var,marks,s⟩
 | some .ret=>some ⟨.ret,var,marks,s⟩
 | some (.exit id)=>some ⟨.exit id,var,marks,s⟩
 | some _=>none
def UK:LoopState→Bool
 | .busy=>true
 | _=>false
def LQ:LoopState→Bool
 | .ready=>true
 | _=>false
def Hm(var:List AV)(marks:List Nat)(l:Nat)(q:Option (AV×AE)):Option Az:=
 q.bind fun q=>(Ba q.2 l).bind fun r=>bif UK r.state then none else
  HE var marks (setObj q.2 l (.loop { r with state:=.exhausted })) r.pending
def Fg(F:EA)(var:List AV)(f:AV)(params:Array Tmp)(assign body:Code)(fn:FuncId)(dfr:Nat)(marks:List Nat)(s:AE):Option Az:=
 Hm var marks s.next (HH { F with round:=fun _ _ _=>none } f [.yield s.next] (newObj s (.loop { state:=.ready,pending:=none,fn,var,params,assign,body,dfr })))
def L7(F:EA)(rnd:Option Nat)(fn:FuncId)(f:AV)(params:Array Tmp)(assign body:Code)(var:List AV)(marks:List Nat)(s:AE):Option Az:=
 match rnd with
 | some l=>(Ba s l).bind fun r=>Fg F var f params assign body fn r.dfr marks s
 | none=>Fg F var f params assign body fn s.next (s.next::marks) (newObj s .mark)
def ua:BF→Option BF
 | .row r=>some (.row { r with mode:=.ro,par:=none })
 | .map kt es=>some (.mapRo kt es)
 | .mapRo kt es=>some (.mapRo kt es)
 | _=>none
def frz(n:Nat)(h:Ab BF):AE:=⟨n,h.mapO ua⟩
def Is:AV→Bool
 | .agg _=>false
 | _=>true
def OO(a b:AV):Bool:=match a,b with
 | .junk,.junk=>true
 | _,_=>Fs a b
def Ph:List AV→List AV→Option (List AV)
 | [],[]=>some []
 | a::l,b::m=>(bif OO a b then some a else AQ (Is a && Is b) (some .junk)).bind fun c=>(Ph l m).bind fun r=>some (c::r)
 | _,_=>none
def xE(x b:AV):Bool:=OO x b || (Is x && OO .junk b)
def T7:List AV→List AV→Bool
 | [],[]=>true
 | x::l,b::m=>xE x b && T7 l m
 | _,_=>false
def H5:List Nat→List Nat→Bool
 | [],[]=>true
 | a::l,b::m=>Nat.beq a b && H5 l m
 | _,_=>false
def Nu(id2:Nat):KY→Bool
 | .normal=>true
 | .exit i=>Nat.beq i id2
 | .ret=>false
def C0 (F:EA) (rnd:Option Nat) (r:Jn) (body:Ac) (A:List AV) (marks:List Nat) (s:AE) (k:AV):Option (List AV):=
 (F.code rnd body (Gu k (Gu (.bool true) A r.jok) r.jk) marks s).bind fun q=>AQ (Nu r.id2 q.exit && H5 q.marks marks) (some q.var)
def Ip (f:AV→Option (List AV)) (B:List AV):List (AV×AV)→Option (List AV)
 | []=>some B
 | e::l=>(f e.1).bind fun X=>(Ph B X).bind fun B'=>Ip f B' l
def FC (f:AV→Option (List AV)) (B:List AV):List (AV×AV)→Bool
 | []=>true
 | e::l=>(match f e.1 with | some X=>T7 X B | none=>false) && FC f B l
def M5 (F:EA) (rnd:Option Nat) (r:Jn) (body:Ac) (it:AV) (marks:List Nat) (s:AE) (A0:List AV) (l:List (AV×AV)):Option (List AV):=
 (Ip (C0 F rnd r body A0 marks s) A0 l).bind fun A1=>AQ (FC (C0 F rnd r body A1 marks s) A1 l && (Fs (Mk A1 r.jt) it && T7 A0 A1)) (some A1)
def PO (r:Jn) (marks:List Nat) (s:AE) (A:Option (List AV)):Option Az:=
 A.bind fun A=>some ⟨.normal,Gu (.bool false) A r.jok,marks,s⟩
def WG(s:AE):AV→Option (List (AV×AV))
 | .map (some i)=>match s.heap.get i with
  | some (.map _ es)=>some es
  | some (.mapRo _ es)=>some es
  | _=>none
 | _=>none
def iy (F:EA) (rnd:Option Nat) (r:Jn) (body:Ac) (var:List AV) (marks:List Nat) (s:AE):Option Az:=
 (r.rd s (C9 [] var r.ad)).bind fun m=>(WG s m).bind fun es =>
  PO r marks ⟨s.next+1,s.heap⟩ (M5 F rnd r body (.ptr (some (s.next,0))) marks (frz (s.next+1) s.heap) (Gu (.ptr (some (s.next,0))) var r.jt) es)
def DK (F:EA) (rnd:Option Nat) (c:Ac) (var:List AV) (marks:List Nat) (s:AE):Option Az:=
 match c with
 | .skip=>some ⟨.normal,var,marks,s⟩
 | .ret=>some ⟨.ret,var,marks,s⟩
 | .exit id=>some ⟨.exit id,var,marks,s⟩
 | .never=>none
 | .ops l=>iw marks (Ew F l [] var s)
 | .seq a b=>JA F rnd b (F.code rnd a var marks s)
 | .cond x a b=>RM F rnd a b var marks s (C9 [] var x)
 | .block id body=>L6 id (F.code rnd body var marks s)
 | .loop body=>JA F rnd (.loop body) (F.code rnd body var marks s)
 | .rangeFunc fn f params assign body=>L7 F rnd fn (C9 [] var f) params assign body var marks s
 | .rangeMap r body=>iy F rnd r body var marks s
def V8:KY→Bool
 | .normal | .ret=>true
 | .exit _=>false
def LJ (P:Program) (cf:Ah) (r:Option Az):Option (AV×AE):=
 r.bind fun r=>bif V8 r.exit then (EJ r.st r.marks).bind fun s=>(CB P s r.var cf.results).bind fun l=>some (Bu l,s)else none
def HF (P:Program) (F:EA) (args:List AV) (s:AE) (cf:Option Ah):Option (AV×AE):=
 cf.bind fun cf=>bif Nat.beq args.length cf.na then LJ P cf (F.code none cf.body (Ql args cf.nv) [] s)else none
def IT (E:CR) (F:EA) (f:FuncId) (args:List AV) (s:AE):Option (AV×AE):=
 match E.nat f args s with
 | some p=>some p
 | none=>HF E.P F args s (AL E.P f)
def JI:KY→Bool
 | .normal=>true
 | _=>false
def H8:Option Code→LoopState
 | none=>.ready
 | some _=>.done
def Ja(l:Nat)(q:Option Az):Option (AV×AE):=q.bind fun q=>(Ba q.st l).bind fun r =>
 some (.bool (Dj q.exit).isNone,setObj q.st l (.loop { r with state:=H8 (Dj q.exit),pending:=Dj q.exit }))
def H0(F:EA)(l:Nat)(cb:Ac)(q:Option Az):Option (AV×AE):=q.bind fun q=>bif JI q.exit then
  (Ba q.st l).bind fun r=>bif LQ r.state then Ja l (F.code (some l) cb q.var q.marks (setObj q.st l (.loop { r with state:=.busy })))else none
 else none
def Kz (E:CR) (F:EA) (l:Nat) (args:List AV) (s:AE):Option (AV×AE):=
 (Ba s l).bind fun r=>(Db (Dh E.P r.fn) r.var r.params.toList args).bind fun var =>
  (ER E.P r.fn r.assign).bind fun ca=>(ER E.P r.fn r.body).bind fun cb=>H0 F l cb (F.code (some l) ca var [] s)
def xI:EA:=⟨fun _ _ _ _ _=>none,fun _ _ _=>none,fun _ _ _=>none⟩
def xH (E:CR) (F:EA):EA:=⟨DK F,IT E F,Kz E F⟩
def Ea (E:CR) (n:Nat):EA:=Nat.rec xI (fun _ F=>xH E F) n
structure RB where
 b:Nat
 off:Nat
 N:Nat
 sz:Nat
abbrev BU:=Nat→Option RB
mutual
inductive Ae (ρ:BU):AV→Value→Prop
 | bool (b:Bool):Ae ρ (.bool b) (.bool b)
 | int (k:IntKind) (n:Int):Ae ρ (.int k n) (.int k n)
 | str {l:List Nat} {s:ByteArray} (h:s.data.toList.map (fun(b:UInt8)=>b.toNat)=l):Ae ρ (.str l) (.string s)
 | ptrNil:Ae ρ (.ptr none) (.pointer none)
 | ptr {i o:Nat} {rb:RB} (h:ρ i=some rb):Ae ρ (.ptr (some (i,o))) (.pointer (some ⟨rb.b,rb.off+o,none⟩))
 | gptr (g o:Nat):Ae ρ (.gptr g o) (.pointer (some ⟨g,o,none⟩))
 | sliceNil:Ae ρ (.slice none 0 (some 0)) (.slice none 0 0)
 | slice {i o len c:Nat} {rb:RB} (h:ρ i=some rb) (hl:len≤c):Ae ρ (.slice (some (i,o)) len (some c)) (.slice (some ⟨rb.b,rb.off+o,none⟩) len c)
 | sliceOpen {i o len c:Nat} {rb:RB} (h:ρ i=some rb) (hs:0<rb.sz) (hl:len≤c) (h1:o+c * rb.sz≤rb.N) (h2:rb.N<o+(c+1) * rb.sz):
   Ae ρ (.slice (some (i,o)) len none) (.slice (some ⟨rb.b,rb.off+o,none⟩) len c)
 | sliceEnd {i o:Nat} {rb:RB} {a:Addr} (h:ρ i=some rb) (hs:0<rb.sz) (h1:o≤rb.N) (h2:rb.N<o+rb.sz):
   Ae ρ (.slice (some (i,o)) 0 none) (.slice (some a) 0 0)
 | mapNil:Ae ρ (.map none) (.map none)
 | map {i:Nat} {rb:RB} (h:ρ i=some rb):Ae ρ (.map (some i)) (.map (some rb.b))
 | func {f:FuncId} {a c:List AV} {a' c':Array Value} (ha:AW ρ a a'.toList) (hc:AW ρ c c'.toList):Ae ρ (.func f a c) (.func (.func f) a' c')
 | yield {i:Nat} {rb:RB} (h:ρ i=some rb):Ae ρ (.yield i) (.func (.yield rb.b) #[] #[])
 | nilFunc:Ae ρ .nilFunc .nilFunc
 | nilIface:Ae ρ .nilIface .nilIface
 | iface {t:TypeId} {v:AV} {v':Value} (h:Ae ρ v v'):Ae ρ (.iface t v) (.iface t v')
 | agg {cs:List AV} {cs':Array Value} (h:AW ρ cs cs'.toList):Ae ρ (.agg cs) (.agg cs')
 | tuple {cs:List AV} {cs':Array Value} (h:AW ρ cs cs'.toList):Ae ρ (.tuple cs) (.tuple cs')
 | any {v':Value} (h:v'.cells.toList=[v']):Ae ρ .junk v'
inductive AW (ρ:BU):List AV→List Value→Prop
 | nil:AW ρ [] []
 | cons {v:AV} {v':Value} {l:List AV} {l':List Value} (h:Ae ρ v v') (hs:AW ρ l l'):AW ρ (v::l) (v'::l')
end
def BU.le(ρ σ:BU):Prop:=∀i rb,ρ i=some rb→σ i=some rb
theorem BU.le_refl(ρ:BU):ρ.le ρ:=fun _ _ h=>h
theorem BU.le_trans{ρ σ τ:BU}(h:ρ.le σ)(k:σ.le τ):ρ.le τ:=fun i rb e=>k i rb (h i rb e)
mutual
theorem Ae.mono{ρ σ:BU}(le:ρ.le σ){v:AV}{v':Value}(h:Ae ρ v v'):Ae σ v v':=by
 cases h with
 | bool b=>exact .bool b
 | int k n=>exact .int k n
 | str h=>exact .str h
 | ptrNil=>exact .ptrNil
 | ptr h=>exact .ptr (le _ _ h)
 | gptr g o=>exact .gptr g o
 | sliceNil=>exact .sliceNil
 | slice h hl=>exact .slice (le _ _ h) hl
 | sliceOpen h hs hl h1 h2=>exact .sliceOpen (le _ _ h) hs hl h1 h2
 | sliceEnd h hs h1 h2=>exact .sliceEnd (le _ _ h) hs h1 h2
 | mapNil=>exact .mapNil
 | map h=>exact .map (le _ _ h)
 | func ha hc=>exact .func (AW.mono le ha) (AW.mono le hc)
 | yield h=>exact .yield (le _ _ h)
 | nilFunc=>exact .nilFunc
 | nilIface=>exact .nilIface
 | iface h=>exact .iface (Ae.mono le h)
 | agg h=>exact .agg (AW.mono le h)
 | tuple h=>exact .tuple (AW.mono le h)
 | any h=>exact .any h
theorem AW.mono{ρ σ:BU}(le:ρ.le σ){v:List AV}{v':List Value}(h:AW ρ v v'):AW σ v v':=by
 cases h with
 | nil=>exact .nil
 | cons h hs=>exact .cons (Ae.mono le h) (AW.mono le hs)
end
section lists
variable{ρ:BU}
theorem AW.length{l:List AV}{l':List Value}(h:AW ρ l l'):l.length=l'.length:=by
 induction l generalizing l' with
 | nil=>cases h;rfl
 | cons a l ih=>cases h with | cons h hs=>simp[ih hs]
theorem AW.get{l:List AV}{l':List Value}(h:AW ρ l l'){k:Nat}{v:AV}(hk:l[k]? = some v):∃v',l'[k]? = some v'∧Ae ρ v v':=by
  induction l generalizing l' k with
  | nil=>simp at hk
  | cons a l ih =>
    cases h with
    | cons h hs =>
      cases k with
      | zero=>simp at hk;subst hk;exact⟨_,rfl,h⟩
      | succ k=>simp at hk;obtain⟨v',h1,h2⟩:=ih hs hk;exact⟨v',by simpa using h1,h2⟩
theorem AW.of_get{l:List AV}{l':List Value}(hl:l.length=l'.length)(h:∀ (k:Nat)(v:AV)(v':Value),l[k]? = some v→l'[k]? = some v'→Ae ρ v v'):AW ρ l l':=by
  induction l generalizing l' with
  | nil=>cases l' with | nil=>exact .nil | cons=>simp at hl
  | cons a l ih =>
    cases l' with
    | nil=>simp at hl
    | cons a' l'=>exact .cons (h 0 a a' rfl rfl) (ih (by simpa using hl) fun k v v' h1 h2=>h (k+1) v v' (by simpa using h1) (by simpa using h2))
theorem AW.append{l m:List AV}{l' m':List Value}(h:AW ρ l l')(k:AW ρ m m'):AW ρ (l++m) (l'++m'):=by
 induction l generalizing l' with
 | nil=>cases h;exact k
 | cons a l ih=>cases h with | cons h hs=>exact .cons h (ih hs)
theorem AW.take{l:List AV}{l':List Value}(h:AW ρ l l')(n:Nat):AW ρ (l.take n) (l'.take n):=by
  induction l generalizing l' n with
  | nil=>cases h;simp;exact .nil
  | cons a l ih =>
    cases h with
    | cons h hs=>cases n with
      | zero=>exact .nil
      | succ n=>exact .cons h (ih hs n)
theorem AW.drop{l:List AV}{l':List Value}(h:AW ρ l l')(n:Nat):AW ρ (l.drop n) (l'.drop n):=by
  induction l generalizing l' n with
  | nil=>cases h;simp;exact .nil
  | cons a l ih =>
    cases h with
    | cons h hs=>cases n with
      | zero=>exact .cons h hs
      | succ n=>exact ih hs n
theorem Ae.cells{v:AV}{v':Value}(h:Ae ρ v v'):AW ρ v.cells v'.cells.toList:=by
 cases h with
 | agg h=>exact h
 | bool b=>exact .cons (.bool b) .nil
 | int k n=>exact .cons (.int k n) .nil
 | str h=>exact .cons (.str h) .nil
 | ptrNil=>exact .cons .ptrNil .nil
 | ptr h=>exact .cons (.ptr h) .nil
 | gptr g o=>exact .cons (.gptr g o) .nil
 | sliceNil=>exact .cons .sliceNil .nil
 | slice h hl=>exact .cons (.slice h hl) .nil
 | sliceOpen h hs hl h1 h2=>exact .cons (.sliceOpen h hs hl h1 h2) .nil
 | sliceEnd h hs h1 h2=>exact .cons (.sliceEnd h hs h1 h2) .nil
 | mapNil=>exact .cons .mapNil .nil
 | map h=>exact .cons (.map h) .nil
 | func ha hc=>exact .cons (.func ha hc) .nil
 | yield h=>exact .cons (.yield h) .nil
 | nilFunc=>exact .cons .nilFunc .nil
 | nilIface=>exact .cons .nilIface .nil
 | iface h=>exact .cons (.iface h) .nil
 | tuple h=>exact .cons (.tuple h) .nil
 | any h=>rw[h];exact .cons (.any h) .nil
theorem Ae.oneCell{v:AV}{v':Value}(h:Ae ρ v v')(hc:v.isCell=true):v'.oneCell'=true:=by
 cases h<;>first | rfl | cases hc
theorem AW.oneCell{l:List AV}{l':List Value}(h:AW ρ l l')(hc:Aq l=true):∀v∈l',v.oneCell'=true:=by
  induction l generalizing l' with
  | nil=>cases h;simp
  | cons a l ih =>
    cases h with
    | cons h hs =>
      simp only[Aq,Bool.and_eq_true]at hc
      intro v hv
      rcases List.mem_cons.1 hv with rfl | hv
      · exact h.oneCell hc.1
      · exact ih hs hc.2 v hv
end lists
theorem JS(ρ:BU){v:Value}{a:AV}(h:JR v=some a):Ae ρ a v:=by
 unfold JR at h
 split at h<;>first
  | (injection h with h;subst h;first | exact .bool _ | exact .int _ _ | exact .str rfl | exact .ptrNil | exact .sliceNil | exact .mapNil | exact .nilFunc | exact .nilIface)
  | cases h
theorem Fv(ρ:BU):∀ {l:List Value}{r:List AV},FJ l=some r→AW ρ r l
 | [],r,h=>by simp[FJ]at h;subst h;exact .nil
 | v::l,r,h=>by
  simp only[FJ,zV]at h
  obtain⟨a,ha,r',hr,h⟩:=h
  injection h with h;subst h
  exact .cons (JS ρ ha) (Fv ρ hr)
theorem CV(ρ:BU){v:Value}{a:AV}(h:ofValue v=some a):Ae ρ a v:=by
 unfold ofValue at h
 split at h
 ·simp only[zV]at h
  obtain⟨l,hl,h⟩:=h
  injection h with h;subst h
  exact .agg (Fv ρ hl)
 ·simp only[zV]at h
  obtain⟨l,hl,h⟩:=h
  injection h with h;subst h
  exact .tuple (Fv ρ hl)
 ·exact JS ρ h
theorem D4(ρ:BU):Ae ρ Bc undef:=.tuple .nil
theorem AD{α:Type}{b:Bool}{x:Option α}{a:α}(h:AQ b x=some a):b=true∧x=some a:=by
 cases b with
 | true=>exact⟨rfl,h⟩
 | false=>cases h
inductive Eh (ρ:BU):List (AV×AV)→List MapEntry→Prop
 | nil:Eh ρ [] []
 | cons {k v:AV} {e:MapEntry} {l:List (AV×AV)} {l':List MapEntry} (hk:Ae ρ k e.key) (hv:Ae ρ v e.val) (hs:Eh ρ l l'):Eh ρ ((k,v)::l) (e::l')
theorem Eh.mono{ρ σ:BU}(le:ρ.le σ){l:List (AV×AV)}{l':List MapEntry}(h:Eh ρ l l'):Eh σ l l':=by
 induction h with
 | nil=>exact .nil
 | cons hk hv _ ih=>exact .cons (hk.mono le) (hv.mono le) ih
theorem Eh.length{ρ:BU}{l:List (AV×AV)}{l':List MapEntry}(h:Eh ρ l l'):l.length=l'.length:=by
 induction h with
 | nil=>rfl
 | cons _ _ _ ih=>simp[ih]
structure Ka(P:Program)(ρ:BU)(w:World)(kt:TypeId)(es:List (AV×AV))(rb:RB):Prop where
 ex:∃ (es':Array MapEntry) (clock:Nat),w.heap[rb.b]? = some (.map es' clock)∧MapKept.Stamped es' clock∧(∃l,l.Perm es'.toList∧Eh ρ es l)∧∀e∈es'.toList,∃l,keyOf P kt e.key=some l
structure Ct(ρ:BU)(w:World)(r:D5)(rb:RB):Prop where
 cells:∀k v,k<r.n→r.c.get k=some v→∃v',w.cell? ⟨rb.b,rb.off+k,none⟩=some v'∧Ae ρ v v'
 le:r.n≤rb.N
 sz:r.sz=rb.sz
 tight:r.spare=false→rb.N=r.n
 own:r.mode≠.ro→∃cs,w.heap[rb.b]? = some (.cells cs r.elem (0,0))∧rb.off+rb.N≤cs.size
 base:r.bytes=true→rb.off=0
 gl:∀g,r.glob=some g→rb.b=g∧rb.off=0
 par:∀p,r.par=some p→∃rp,ρ p=some rp
def Ee(ρ:BU)(vars:List Tmp)(var:List AV)(tmps:Array Value):Prop:=
 ∀ (t:Tmp) (k:Nat),BG vars t=some k→t<tmps.size∧∃v:AV,var[k]? = some v∧Ae ρ v (tmps.getD t undef)
end
end Go.Proofs.YtjnkfbpadpmakaaGreatDoor.Am
set_option linter.unusedVariables false
set_option linter.unusedSimpArgs false
namespace Go.Proofs.YtjnkfbpadpmakaaGreatDoor.Am
open Go
noncomputable section
theorem GN{α:Type}{P:Program}{w:World}:∀ {s:Sem α}{a:α},DM P s=some a→s.run P w=.ok a w:=by
 intro s
 induction s with
 | pure b=>intro a h;simp[DM]at h;subst h;rfl
 | program k ih=>intro a h;simp only[DM]at h;simp only[Sem.run];exact ih P h
 | mark m k ih=>intro a h;simp only[DM]at h;simp only[Sem.run];exact ih h
 | load=>intro a h;simp[DM]at h
 | store=>intro a h;simp[DM]at h
 | new=>intro a h;simp[DM]at h
 | shape=>intro a h;simp[DM]at h
 | freeze=>intro a h;simp[DM]at h
 | frozen=>intro a h;simp[DM]at h
 | getObj=>intro a h;simp[DM]at h
 | setObj=>intro a h;simp[DM]at h
 | choose=>intro a h;simp[DM]at h
 | sys=>intro a h;simp[DM]at h
 | halt=>intro a h;simp[DM]at h
section types
variable{P:Program}{w:World}{t:TypeId}
theorem AP{d:TypeDesc}(h:P.underlying t=some d):(underlying t).run P w=.ok d w:=by simp[underlying,h]
theorem H4{g:Bool}(h:EO P t=some g):(isAgg t).run P w=.ok g w:=by
 unfold EO at h
 split at h
 ·injection h with h;subst h;simp[isAgg,underlying, *]
 ·injection h with h;subst h;simp[isAgg,underlying, *]
 ·rename_i d _ _ hd
  injection h with h;subst h
  simp only[isAgg,Sem.run_bind,AP hd,Result.andThen_ok]
  cases d<;>simp_all
 ·cases h
theorem BH{n:Nat}(h:BJ P t=some n):(sizeOf t).run P w=.ok n w:=by
 unfold BJ at h
 split at h
 ·injection h with h;subst h;simp[sizeOf,typeInfo, *]
 ·cases h
theorem Xw{n:Nat}(h:DP P t=some n):∃i,(typeInfo t).run P w=.ok i w∧i.bytes=n:=by
 unfold DP at h
 split at h
 ·injection h with h;rename_i i hi;exact⟨i,by simp[typeInfo,hi],h⟩
 ·cases h
theorem Jb(ρ:BU){z:AV}(h:EM P t=some z):∃v,(zeroValue t).run P w=.ok v w∧Ae ρ z v:=by
  unfold EM at h
  split at h
  · split at h
    · rename_i i hi _ v hv
      exact⟨v,by simp[zeroValue,typeInfo,hi,hv],CV ρ h⟩
    · cases h
  · cases h
end types
theorem Lb{k:IntKind}{n:Int}(h:CG k n=true):k.wrap n=n:=by
 have hb:k.min≤n∧n≤k.max:=by
  unfold CG at h
  cases n with
  | ofNat m=>cases k<;>simp[zh]at h<;>simp[IntKind.min,IntKind.max,IntKind.signed,IntKind.bits]<;>omega
  | negSucc m=>cases k<;>simp[zh]at h<;>simp[IntKind.min,IntKind.max,IntKind.signed,IntKind.bits]<;>omega
 cases k<;>simp[IntKind.min,IntKind.max,IntKind.signed,IntKind.bits]at hb<;>simp only[IntKind.wrap,IntKind.signed,IntKind.bits]<;>simp<;>omega
theorem Fd(k:IntKind)(n:Int):De k n=k.wrap n:=by
 unfold De
 cases h:CG k n with
 | true=>simp[Lb h]
 | false=>rfl
theorem DF(a b:Int):NV a b=decide (a<b):=by
 cases a with
 | ofNat a=>cases b with
  | ofNat b=>rw[Bool.eq_iff_iff];simp only[NV,zx,decide_eq_true_iff,A1a];omega
  | negSucc b=>simp only[NV];rw[eq_comm,decide_eq_false_iff_not];simp only[A1a];omega
 | negSucc a=>cases b with
  | ofNat b=>simp only[NV];rw[eq_comm,decide_eq_true_iff];simp only[A1a];omega
  | negSucc b=>rw[Bool.eq_iff_iff];simp only[NV,zx,decide_eq_true_iff];omega
theorem Ev(a b:Int):NX a b=(a == b):=by
 rw[Bool.eq_iff_iff,beq_iff_eq]
 cases a with
 | ofNat a=>cases b with
  | ofNat b=>simp only[NX,A0t,A1a];omega
  | negSucc b=>simp[NX]
 | negSucc a=>cases b with
  | ofNat b=>simp[NX]
  | negSucc b=>simp only[NX,A0t];omega
theorem DU{k k':IntKind}(h:CC k k'=true):k=k':=by cases k<;>cases k'<;>first | rfl | cases h
theorem gH{n:Int}{m:Nat}(h:WJ n=some m):n=(m:Int):=by cases n<;>simp[WJ]at h;subst h;rfl
theorem fe{P:Program}{ρ:BU}{op:BinOp}{k:IntKind}{a b:Int}{v:AV}(h:fc P op k a b=some v)(t:TypeId)(w:World):
  ∃v',(Go.binOp op t (.int k a) (.int k b)).run P w=.ok v' w∧Ae ρ v v':=by
 unfold fc at h
 split at h
 case h_1=>injection h with h;subst h;exact⟨.int k (k.wrap (a+b)),by simp[Go.binOp,Op.intArith],by rw[Fd];exact .int _ _⟩
 case h_2=>injection h with h;subst h;exact⟨.int k (k.wrap (a - b)),by simp[Go.binOp,Op.intArith],by rw[Fd];exact .int _ _⟩
 case h_3=>injection h with h;subst h;exact⟨.int k (k.wrap (a * b)),by simp[Go.binOp,Op.intArith],by rw[Fd];exact .int _ _⟩
 case h_4=>injection h with h;subst h;exact⟨.bool (a == b),by simp[Go.binOp,Op.intCmp],by rw[Ev];exact .bool _⟩
 case h_5=>injection h with h;subst h;exact⟨.bool (a != b),by simp[Go.binOp,Op.intCmp],by rw[Ev];exact .bool _⟩
 case h_6=>injection h with h;subst h;exact⟨.bool (a<b),by simp[Go.binOp,Op.intCmp],by rw[DF];exact .bool _⟩
 case h_7=>injection h with h;subst h;exact⟨.bool (a≤b),by simp[Go.binOp,Op.intCmp],by rw[DF,show(!decide (b<a))=decide (a≤b)from by rw[Bool.eq_iff_iff];simp];exact .bool _⟩
 case h_8=>injection h with h;subst h;exact⟨.bool (a > b),by simp[Go.binOp,Op.intCmp],by rw[DF];exact .bool _⟩
 case h_9=>injection h with h;subst h;exact⟨.bool (a≥b),by simp[Go.binOp,Op.intCmp],by rw[DF,show(!decide (a<b))=decide (a≥b)from by rw[Bool.eq_iff_iff];simp];exact .bool _⟩
 case h_10 =>
  simp only[zV]at h
  obtain⟨u,hu,h⟩:=h
  exact⟨u,by have:=GN (w:=w) hu;simpa[Go.binOp]using this,CV ρ h⟩
 case h_11 =>
  simp only[zV]at h
  obtain⟨u,hu,h⟩:=h
  exact⟨u,by have:=GN (w:=w) hu;simpa[Go.binOp]using this,CV ρ h⟩
 case h_12=>cases h
 case h_13=>cases h
 case h_14 =>
  simp only[zV]at h
  obtain⟨u,hu,h⟩:=h
  refine⟨u,?_,CV ρ h⟩
  have:=GN (w:=w) hu
  rename_i n1 n2 n3 n4 n5 n6 n7 n8 n9 n10 n11 n12 n13
  cases op<;>first | (exfalso;simp at *;done) | simpa[Go.binOp]using this
abbrev EH(l:List UInt8):List Nat:=l.map (fun(b:UInt8)=>b.toNat)
theorem toNat_inj{a b:UInt8}(h:a.toNat=b.toNat):a=b:=UInt8.toNat_inj.1 h
theorem Iu:∀ (x y:List UInt8),Dd (EH x) (EH y)=(x == y)
 | [],[]=>rfl
 | [],_::_=>rfl
 | _::_,[]=>rfl
 | a::x,b::y=>by
  simp only[EH,A0e,Dd]
  by_cases e:a=b
  ·subst e
   have:Nat.beq a.toNat a.toNat=true:=by simp[A0t]
   rw[this]
   have ih:=Iu x y
   simp only[EH]at ih
   simp[ih]
  ·have:Nat.beq a.toNat b.toNat=false:=Ab.beq_no (fun h=>e (toNat_inj h))
   rw[this]
   simp[e]
theorem NN:∀ (x y:List UInt8),Hg (EH x) (EH y)=Op.bytesLess x y
 | [],[]=>rfl
 | [],_::_=>rfl
 | _::_,[]=>rfl
 | a::x,b::y=>by
  simp only[EH,A0e,Hg,Op.bytesLess]
  have ih:=NN x y
  simp only[EH]at ih
  have h1:Nat.blt a.toNat b.toNat=decide (a<b):=by rw[Bool.eq_iff_iff];simp[zx,UInt8.lt_iff_toNat_lt]
  have h2:Nat.beq a.toNat b.toNat=(a == b):=by
   rw[Bool.eq_iff_iff,beq_iff_eq,A0t]
   exact⟨fun h=>toNat_inj h,fun h=>by rw[h]⟩
  rw[h1,h2,ih]
  cases decide (a<b)<;>cases (a == b)<;>rfl
theorem GO(s:ByteArray):(EH s.data.toList).length=s.size:=by simp[EH]
theorem hJ{P:Program}{ρ:BU}{op:BinOp}{x y:ByteArray}{v:AV}(h:WV op (EH x.data.toList) (EH y.data.toList)=some v)(w:World):
  ∃v',(Op.stringOp op x y).run P w=.ok v' w∧Ae ρ v v':=by
 unfold WV at h
 rw[Iu,NN,GO,GO]at h
 unfold Op.stringOp
 rw[ByteArray.toList_eq,ByteArray.toList_eq]
 split at h
 case h_1 =>
  obtain⟨hb,h⟩:=AD h
  injection h with h;subst h
  have hb':x.size+y.size≤1152921504606846976:=by simpa[zh]using hb
  refine⟨.string (x++y),?_,.str (by simp[EH])⟩
  have:¬ ((x.size+y.size:Nat):Int) > IntKind.i64.max:=by simp[IntKind.max,IntKind.signed,IntKind.bits];omega
  simp only[this,if_false]
  rfl
 case h_2=>injection h with h;subst h;exact⟨_,rfl,.bool _⟩
 case h_3=>injection h with h;subst h;exact⟨_,rfl,.bool _⟩
 case h_4=>injection h with h;subst h;exact⟨_,rfl,.bool _⟩
 case h_5=>injection h with h;subst h;exact⟨_,rfl,.bool _⟩
 case h_6=>injection h with h;subst h;exact⟨_,rfl,.bool _⟩
 case h_7=>injection h with h;subst h;exact⟨_,rfl,.bool _⟩
 case h_8=>cases h
section
variable{P:Program}{ρ:BU}{w:World}
theorem Kk{t:TypeId}(h:HM P t=true):∃e,P.underlying t=some (.pointer e):=by
 unfold HM at h;split at h
 ·rename_i e he;exact⟨e,he⟩
 ·cases h
theorem IL{t:TypeId}(h:JJ P t=true):∃e,P.underlying t=some (.slice e):=by
 unfold JJ at h;split at h
 ·rename_i e he;exact⟨e,he⟩
 ·cases h
theorem Kj{t:TypeId}(h:KB P t=true):∃k e,P.underlying t=some (.map k e):=by
 unfold KB at h;split at h
 ·rename_i k e he;exact⟨k,e,he⟩
 ·cases h
theorem Gg{t:TypeId}(h:JH P t=true):∃a b c,P.underlying t=some (.func a b c):=by
 unfold JH at h;split at h
 ·rename_i a b c he;exact⟨a,b,c,he⟩
 ·cases h
theorem Pb{t:TypeId}(h:Pa P t=true):P.underlying t=some .bool:=by
 unfold Pa at h;split at h
 ·rename_i he;exact he
 ·cases h
set_option maxHeartbeats 1000000 in
theorem uX{t:TypeId}{x y:AV}{x' y':Value}{b:Bool}(h:jv P t x y=some b)(hx:Ae ρ x x')(hy:Ae ρ y y')(d:Nat):
  (Op.equalIn (d+1) t x' y').run P w=.ok b w:=by
 unfold jv at h
 split at h
 all_goals first | (cases h;done) | skip
 ·obtain⟨ht,h⟩:=AD h
  injection h with h;subst h
  cases hx;cases hy
  simp[Op.equalIn,AP (Pb ht)]
 ·obtain⟨ht,h⟩:=AD h
  injection h with h;subst h
  obtain⟨e,ht⟩:=Kk ht
  cases hx;cases hy<;>simp[Op.equalIn,AP ht]
 ·obtain⟨ht,h⟩:=AD h
  injection h with h;subst h
  obtain⟨e,ht⟩:=Kk ht
  cases hy;cases hx<;>simp[Op.equalIn,AP ht]
 ·obtain⟨ht,h⟩:=AD h
  injection h with h;subst h
  obtain⟨e,ht⟩:=IL ht
  cases hx;cases hy<;>simp[Op.equalIn,AP ht]
 ·obtain⟨ht,h⟩:=AD h
  injection h with h;subst h
  obtain⟨e,ht⟩:=IL ht
  cases hy;cases hx<;>simp[Op.equalIn,AP ht]
 ·obtain⟨ht,h⟩:=AD h
  injection h with h;subst h
  obtain⟨k,e,ht⟩:=Kj ht
  cases hx;cases hy<;>simp[Op.equalIn,AP ht]
 ·obtain⟨ht,h⟩:=AD h
  injection h with h;subst h
  obtain⟨k,e,ht⟩:=Kj ht
  cases hy;cases hx<;>simp[Op.equalIn,AP ht]
 ·obtain⟨ht,h⟩:=AD h
  injection h with h;subst h
  obtain⟨a,b,c,ht⟩:=Gg ht
  cases hy;cases hx;simp[Op.equalIn,AP ht]
 ·obtain⟨ht,h⟩:=AD h
  injection h with h;subst h
  obtain⟨a,b,c,ht⟩:=Gg ht
  cases hy;cases hx;simp[Op.equalIn,AP ht]
 ·obtain⟨ht,h⟩:=AD h
  injection h with h;subst h
  obtain⟨a,b,c,ht⟩:=Gg ht
  cases hy;cases hx;simp[Op.equalIn,AP ht]
theorem fK{t:TypeId}{x y:AV}{x' y':Value}{b:Bool}(h:jv P t x y=some b)(hx:Ae ρ x x')(hy:Ae ρ y y'):
  (Op.equal t x' y').run P w=.ok b w:=uX h hx hy 9999
def gU:Value→Bool
 | .nilIface | .agg _=>false
 | _=>true
theorem FU{x':Value}(h:gU x'=true)(op:BinOp)(t:TypeId)(ox oy:Operand)(y':Value):
  (eqGuard op t ox oy x' y').run P w=.ok () w:=by
 cases x'<;>first | (cases h;done) | (cases op<;>rfl)
theorem Nx{t:TypeId}{x y:AV}{x':Value}{b:Bool}(h:jv P t x y=some b)(hx:Ae ρ x x'):gU x'=true:=by
 unfold jv at h
 split at h<;>first | (cases h;done) | (cases hx<;>rfl)
theorem VC      {op : BinOp} {t : TypeId} {x y v : AV} {x' y' : Value} (h : AN   P op t x y = some v) (hx : Ae   ρ x x') (hy : Ae   ρ y y') (ox oy : Operand) :
    ∃v',(do eqGuard op t ox oy x' y';Go.binOp op t x' y').run P w=.ok v' w∧Ae ρ v v':=by
  unfold AN at h
  split at h
  · cases hx;cases hy
    rename_i k a k' b
    rw[Sem.run_bind,FU rfl]
    simp only[Result.andThen_ok]
    split at h
    · simp only[zV]at h
      obtain⟨u,hu,h⟩:=h
      exact⟨u,by have:=GN (w:=w) hu;simpa[Go.binOp]using this,CV ρ h⟩
    · simp only[zV]at h
      obtain⟨u,hu,h⟩:=h
      exact⟨u,by have:=GN (w:=w) hu;simpa[Go.binOp]using this,CV ρ h⟩
    · obtain⟨hk,h2⟩:=AD h
      have hkk:=DU hk
      subst hkk
      exact fe h2 t w
  · cases hx;cases hy
    rename_i a b s1 h1 s2 h2
    subst h1;subst h2
    rw[Sem.run_bind,FU rfl]
    simp only[Result.andThen_ok]
    obtain⟨v',h1,h2⟩:=hJ (P:=P) (ρ:=ρ) h w
    refine⟨v',?_,h2⟩
    rw[← h1]
    cases op<;>first | rfl | (simp[WV]at h;done)
  · split at h
    · simp only[zV]at h
      obtain⟨b,hb,h⟩:=h
      injection h with h;subst h
      rw[Sem.run_bind,FU (Nx hb hx)]
      simp only[Result.andThen_ok]
      refine⟨.bool b,?_,.bool b⟩
      have he:=fK (w:=w) hb hx hy
      have:Go.binOp .eql t x' y'=(do pure (.bool (← Op.equal t x' y')):Sem Value):=by
        unfold jv at hb
        split at hb<;>first | (cases hb;done) | (cases hx<;>cases hy<;>rfl)
      rw[this,Sem.run_bind,he]
      rfl
    · simp only[zV]at h
      obtain⟨b,hb,h⟩:=h
      injection h with h;subst h
      rw[Sem.run_bind,FU (Nx hb hx)]
      simp only[Result.andThen_ok]
      refine⟨.bool (!b),?_,.bool _⟩
      have he:=fK (w:=w) hb hx hy
      have:Go.binOp .neq t x' y'=(do pure (.bool (!(← Op.equal t x' y'))):Sem Value):=by
        unfold jv at hb
        split at hb<;>first | (cases hb;done) | (cases hx<;>cases hy<;>rfl)
      rw[this,Sem.run_bind,he]
      rfl
    · cases h
theorem u4{op:UnOp}{x v:AV}{x':Value}(h:Sy P op x=some v)(hx:Ae ρ x x'):
  ∃v',(Op.unary op x').run P w=.ok v' w∧Ae ρ v v':=by
 unfold Sy at h
 split at h
 ·cases hx
  rename_i k n
  split at h
  ·injection h with h;subst h
   exact⟨.int k (k.wrap (0 - n)),rfl,by rw[Fd];exact .int _ _⟩
  ·simp only[zV]at h
   obtain⟨u,hu,h⟩:=h
   exact⟨u,GN hu,CV ρ h⟩
  ·cases h
 ·cases hx
  split at h
  ·injection h with h;subst h
   exact⟨_,rfl,.bool _⟩
  ·cases h
 ·cases h
theorem Pl{x v:AV}{x':Value}(h:EY x=some v)(hx:Ae ρ x x')(ev:Operand→Value)(o:Oper)(y:Operand)(ho:o.op=.nilCheck y)(he:ev y=x'):
  ∃v',(execOp ev o).run P w=.ok (.value v') w∧Ae ρ v v':=by
 unfold EY at h
 split at h<;>first | (cases h;done) | skip
 injection h with h;subst h
 refine⟨x',?_,hx⟩
 cases hx<;>first | (simp only[execOp,ho,he];done) | (simp only[execOp,ho,he];rfl) | (exfalso;simp_all;done)
theorem RW{x v:AV}{i:Nat}{x':Value}(h:Zb x i=some v)(hx:Ae ρ x x'):
  ∃v',(Instr.extract x' i).run P w=.ok v' w∧Ae ρ v v':=by
 unfold Zb at h
 split at h<;>first | (cases h;done) | skip
 cases hx with
 | tuple hs =>
  rename_i cs'
  obtain⟨v',h1,h2⟩:=hs.get h
  refine⟨v',?_,h2⟩
  have:cs'[i]? = some v':=by rw[← Array.getElem?_toList];exact h1
  simp[Instr.extract,this]
theorem ST{t:TypeId}{cs:List AV}{cs':Array Value}{off:Nat}{v:AV}(h:WN P t cs off=some v)(hc:AW ρ cs cs'.toList):
  ∃v',(part t cs' off).run P w=.ok v' w∧Ae ρ v v':=by
 unfold WN at h
 simp only[zV]at h
 obtain⟨g,hg,h⟩:=h
 cases g with
 | true =>
  simp only[zV]at h
  obtain⟨n,hn,h⟩:=h
  injection h with h;subst h
  refine⟨.agg (cs'.extract off (off+n)),by simp[part,H4 hg,BH hn],.agg ?_⟩
  have:(cs'.extract off (off+n)).toList=(cs'.toList.drop off).take n:=by
   rw[Array.toList_extract,List.extract_eq_take_drop]
   congr 1
   omega
  rw[this]
  exact(hc.drop off).take n
 | false =>
  obtain⟨v',h1,h2⟩:=hc.get h
  refine⟨v',?_,h2⟩
  have:cs'[off]? = some v':=by rw[← Array.getElem?_toList];exact h1
  simp[part,H4 hg,this]
theorem MQ{x:AV}{x':Value}{k:Nat}(h:F8 x=some k)(hx:Ae ρ x x'):∃kd,x'=.int kd (k:Int):=by
 unfold F8 at h
 split at h<;>first | (cases h;done) | skip
 cases hx
 rename_i kd n
 exact⟨kd,by rw[gH h]⟩
theorem XG{t:TypeId}{x v:AV}{x':Value}{f:Nat}(h:UD P t x f=some v)(hx:Ae ρ x x'):
  ∃v',(Instr.field t x' f).run P w=.ok v' w∧Ae ρ v v':=by
 unfold UD at h
 split at h<;>first | (cases h;done) | skip
 split at h<;>first | (cases h;done) | skip
 rename_i fs hfs
 simp only[zV]at h
 obtain⟨fd,hfd,h⟩:=h
 cases hx with
 | agg hs =>
  obtain⟨v',h1,h2⟩:=ST (w:=w) h hs
  exact⟨v',by simp[Instr.field,AP hfs,hfd,asAgg,h1],h2⟩
theorem XI        {t : TypeId} {x ix v : AV} {x' ix' : Value} (h : UI     P t x ix = some v) (hx : Ae   ρ x x') (hi : Ae   ρ ix ix') :
    ∃v',(Instr.index t x' ix').run P w=.ok v' w∧Ae ρ v v':=by
  unfold UI at h
  simp only[zV]at h
  obtain⟨k,hk,h⟩:=h
  obtain⟨kd,rfl⟩:=MQ hk hi
  split at h<;>first | (cases h;done) | skip
  · split at h<;>first | (cases h;done) | skip
    rename_i len e he
    simp only[zV]at h
    obtain⟨n,hn,h⟩:=h
    obtain⟨hlt,h⟩:=AD h
    have hlt':k<len:=by simpa[zx]using hlt
    cases hx with
    | agg hs =>
      obtain⟨v',h1,h2⟩:=ST (w:=w) h hs
      refine⟨v',?_,h2⟩
      have:(0:Int)≤(k:Int)∧(k:Int)<(len:Int):=by omega
      simp only[Instr.index,asIntOf,Sem.run_bind,Sem.run_pure,Result.andThen_ok,AP he,this,and_self,if_true,BH hn]
      simpa using h1
  · split at h <;> first | (cases h; done) | skip
    rename_i l _ he
    simp only[zV]at h
    obtain⟨b,hb,h⟩:=h
    injection h with h;subst h
    cases hx with
    | str hs =>
      rename_i s
      subst hs
      rw[A0N]at hb
      simp only[Option.map_eq_some_iff]at hb
      obtain⟨u,hu,rfl⟩:=hb
      refine⟨.int .u8 u.toNat,?_,.int _ _⟩
      have h0:(0:Int)≤(k:Int):=by omega
      have:s[k]? = some u:=by
        rw[← hu]
        rcases zX k s.size with hlt | hge
        · rw [getElem?_pos s k hlt, zW                       (by simpa using hlt)]
          rfl
        · rw[getElem?_neg s k (by omega),zj (by simpa using hge)]
      simp[Instr.index,asIntOf,AP he,this]
end
structure G9(P:Program)(ρ:BU)(w:World)(l:Di)(rb:RB):Prop where
 ex:∃L:Loop,w.heap[rb.b]? = some (.loop L)∧L.state=l.state∧L.pending=l.pending∧L.params=l.params∧L.assign=l.assign∧L.body=l.body ∧
  (∃rd,ρ l.dfr=some rd∧L.defers=rd.b)∧Ee ρ (Dh P l.fn) l.var L.tmps∧(∀fn,P.funcs[l.fn]? = some fn→fn.ntmps≤L.tmps.size)∧l.var.length=(Dh P l.fn).length
def F0(P:Program)(ρ:BU)(w:World):BF→RB→Prop
 | .row r,rb=>Ct ρ w r rb
 | .map kt es,rb=>Ka P ρ w kt es rb
 | .mapRo kt es,rb=>Ka P ρ w kt es rb
 | .loop l,rb=>G9 P ρ w l rb
 | .mark,rb=>w.heap[rb.b]? = some (.deferred (some []))
 | .iter _ _,_=>False
def wr:BF→Bool
 | .row r=>EG r.mode
 | .mapRo _ _=>false
 | _=>true
def OH:BF→Option Nat
 | .row r=>r.par
 | _=>none
def Gf:BF→Option Nat
 | .row r=>r.glob
 | _=>none
structure Bd(P:Program)(ρ:BU)(s:AE)(w:World):Prop where
 obj:∀i o rb,s.heap.get i=some o→ρ i=some rb→F0 P ρ w o rb
 lt:∀i rb,ρ i=some rb→rb.b<w.heap.size
 sep:∀i j oi oj ri rj,i≠j→s.heap.get i=some oi→s.heap.get j=some oj→ρ i=some ri→ρ j=some rj→ri.b=rj.b→wr oj=true→OH oj=some i∧wr oi=false
 glb:∀i o g,s.heap.get i=some o→Gf o=some g→∃rb,ρ i=some rb
def Gx(ρ:BU)(s:AE)(b:Nat):Prop:=∃i o rb,s.heap.get i=some o∧wr o=true∧ρ i=some rb∧rb.b=b
structure Fr(ρ:BU)(s:AE)(w:World)(ρ':BU)(s':AE)(w':World):Prop where
 le:ρ.le ρ'
 fresh:∀i,ρ i=none→(i<s.next∨s'.next≤i)→ρ' i=none
 next:s.next≤s'.next
 size:w.heap.size≤w'.heap.size
 os:w'.os=w.os
 tape:w'.tape=w.tape
 output:w'.output=w.output
 keep:∀b,b<w.heap.size→¬ Gx ρ s b→w'.heap[b]? = w.heap[b]?
 own:∀b,Gx ρ' s' b→Gx ρ s b∨w.heap.size≤b
 unborn:∀i,ρ i=none→(i<s.next∨s'.next≤i)→s'.heap.get i=s.heap.get i
section
variable{P:Program}{ρ ρ1 ρ2:BU}{s s1 s2:AE}{w w1 w2:World}
theorem Fr.refl(ρ:BU)(s:AE)(w:World):Fr ρ s w ρ s w:=
 ⟨BU.le_refl ρ,fun _ h _=>h,zU _,zU _,rfl,rfl,rfl,fun _ _ _=>rfl,fun _ h=>.inl h,fun _ _ _=>rfl⟩
theorem Fr.trans(h:Fr ρ s w ρ1 s1 w1)(k:Fr ρ1 s1 w1 ρ2 s2 w2):Fr ρ s w ρ2 s2 w2 where
 le:=BU.le_trans h.le k.le
 fresh:=fun i hi hr=>k.fresh i (h.fresh i hi (hr.imp id (fun h'=>zY k.next h'))) (hr.imp (fun h'=>zZ h' h.next) id)
 next:=zY h.next k.next
 size:=zY h.size k.size
 os:=k.os.trans h.os
 tape:=k.tape.trans h.tape
 output:=k.output.trans h.output
 keep:=fun b hb ho=>(k.keep b (zZ hb h.size) (fun ho1=>(h.own b ho1).elim ho (fun hge=>by omega))).trans (h.keep b hb ho)
 own:=fun b hb=>(k.own b hb).elim (fun h1=>h.own b h1) (fun hge=>.inr (zY h.size hge))
 unborn:=fun i hi hr=>(k.unborn i (h.fresh i hi (hr.imp id (fun h'=>zY k.next h'))) (hr.imp (fun h'=>zZ h' h.next) id)).trans (h.unborn i hi (hr.imp id (fun h'=>zY k.next h')))
theorem JB{a:Addr}(h:w1.heap[a.block]? = w.heap[a.block]?):w1.cell? a=w.cell? a:=by simp[World.cell?,h]
theorem Ee.mono{σ:BU}(le:ρ.le σ){vars:List Tmp}{var:List AV}{tmps:Array Value}(h:Ee ρ vars var tmps):Ee σ vars var tmps:=
 fun t k hk=>let ⟨h1,v,h2,h3⟩:=h t k hk;⟨h1,v,h2,h3.mono le⟩
theorem F0.mono    {o : BF}   {rb : RB} (h : F0    P ρ w o rb) (le : ρ.le ρ1) (hk : w1.heap[rb.b]? = w.heap[rb.b]?) : F0    P ρ1 w1 o rb := by
  cases o with
  | row r =>
    exact⟨fun k v hk' hv=>by
        obtain⟨v',h1,h2⟩:=h.cells k v hk' hv
        exact⟨v',(JB (a:=⟨rb.b,_,none⟩) hk).trans h1,h2.mono le⟩,
      h.le,h.sz,h.tight,fun hm=>by
        obtain⟨cs,h1,h2⟩:=h.own hm
        exact⟨cs,hk.trans h1,h2⟩,h.base,h.gl,fun p hp=>let ⟨rp,h1⟩:=h.par p hp;⟨rp,le _ _ h1⟩⟩
  | map kt es =>
    obtain⟨es',clock,h1,h2,⟨l,h3,h4⟩,h5⟩:=h.ex
    exact⟨es',clock,hk.trans h1,h2,⟨l,h3,h4.mono le⟩,h5⟩
  | mapRo kt es =>
    obtain⟨es',clock,h1,h2,⟨l,h3,h4⟩,h5⟩:=h.ex
    exact⟨es',clock,hk.trans h1,h2,⟨l,h3,h4.mono le⟩,h5⟩
  | loop l =>
    obtain⟨L,h0,h1,h2,h4,h5,h6,⟨rd,h7,h7'⟩,h8,h9⟩:=h.ex
    exact⟨L,hk.trans h0,h1,h2,h4,h5,h6,⟨rd,le _ _ h7,h7'⟩,h8.mono le,h9⟩
  | mark=>exact hk.trans h
  | iter=>exact h
def CF(ρ:BU)(i:Nat)(rb:RB):BU:=fun j=>if j=i then some rb else ρ j
theorem Af(i:Nat)(rb:RB):CF ρ i rb i=some rb:=by simp[CF]
theorem AZ{i j:Nat}(rb:RB)(h:j≠i):CF ρ i rb j=ρ j:=by simp[CF,h]
theorem Bk{i:Nat}{rb:RB}(h:ρ i=none):ρ.le (CF ρ i rb):=fun j r hj=>by
 have:j≠i:=fun e=>by subst e;rw[h]at hj;cases hj
 rw[AZ rb this];exact hj
theorem BA(s:AE)(o:BF)(j:Nat):(newObj s o).heap.get j=if j=s.next then some o else s.heap.get j:=Ab.get_set _ _ _ _
theorem DS(s:AE)(i:Nat)(o:BF)(j:Nat):(setObj s i o).heap.get j=if j=i then some o else s.heap.get j:=Ab.get_set _ _ _ _
theorem Bt(s:AE)(i j:Nat):(Cg s i).heap.get j=if j=i then none else s.heap.get j:=Ab.get_del _ _ _
theorem IK{o:Obj}{b:Nat}(h:b<w.heap.size):(w.alloc o).heap[b]? = w.heap[b]? :=
 Go.RowKit.Below.heap_alloc w o b h
theorem Bd.new  (h : Bd  P ρ s w) {o : BF}   {o' : Obj} {rb : RB} (hf : ρ s.next = none) (hb : rb.b = w.heap.size)
    (ho:F0 P (CF ρ s.next rb) (w.alloc o') o rb):
    Bd P (CF ρ s.next rb) (newObj s o) (w.alloc o')∧Fr ρ s w (CF ρ s.next rb) (newObj s o) (w.alloc o'):=by
  have hle:=Bk (rb:=rb) hf
  have hglb:∀i oi g,(newObj s o).heap.get i=some oi→Gf oi=some g→∃r,CF ρ s.next rb i=some r:=by
    intro i oi g hi hg
    rw[BA]at hi
    by_cases e:i=s.next
    · subst e;exact⟨_,Af _ _⟩
    · rw[if_neg e]at hi
      obtain⟨r,hr⟩:=h.glb i oi g hi hg
      exact⟨r,hle _ _ hr⟩
  refine⟨⟨?_,?_,?_,hglb⟩,?_⟩
  · intro i oi ri hi hr
    rw[BA]at hi
    by_cases e:i=s.next
    · subst e
      rw[if_pos rfl]at hi
      injection hi with hi
      rw[Af]at hr
      injection hr with hr
      subst hi;subst hr
      exact ho
    · rw [if_neg e] at hi
      rw[AZ rb e]at hr
      exact(h.obj i oi ri hi hr).mono hle (IK (h.lt i ri hr))
  · intro i ri hr
    by_cases e:i=s.next
    · subst e
      rw[Af]at hr
      injection hr with hr
      subst hr
      simp[hb]
    · rw[AZ rb e]at hr
      have:=h.lt i ri hr
      simp;omega
  · intro i j oi oj ri rj hne hi hj hri hrj hbb hw
    rw[BA]at hi hj
    by_cases ei:i=s.next
    · subst ei
      have ej:j≠s.next:=fun e=>hne e.symm
      rw[Af]at hri
      rw[AZ rb ej]at hrj
      injection hri with hri
      subst hri
      have:=h.lt j rj hrj
      omega
    · by_cases ej : j = s.next
      · subst ej
        rw[AZ rb ei]at hri
        rw[Af]at hrj
        injection hrj with hrj
        subst hrj
        have:=h.lt i ri hri
        omega
      · rw [if_neg ei] at hi
        rw[if_neg ej]at hj
        rw[AZ rb ei]at hri
        rw[AZ rb ej]at hrj
        exact h.sep i j oi oj ri rj hne hi hj hri hrj hbb hw
  · refine ⟨hle, ?_, by simp [newObj], by simp, rfl, rfl, rfl, fun b hb _ => IK            hb, ?_, ?_⟩
    · intro i hi hr
      have:i≠s.next:=by simp[newObj]at hr;omega
      rw[AZ rb this];exact hi
    · rintro b ⟨i, oi, ri, hi, hw, hr, rfl⟩
      rw[BA]at hi
      by_cases e:i=s.next
      · subst e
        rw[Af]at hr
        injection hr with hr
        subst hr
        exact .inr (by omega)
      · rw [if_neg e] at hi
        rw[AZ rb e]at hr
        exact .inl ⟨i,oi,ri,hi,hw,hr,rfl⟩
    · intro i _ hi
      rw[BA,if_neg (by simp[newObj]at hi;omega)]
theorem Bd.set  (h : Bd  P ρ s w) {i : Nat} {o o1 : BF}   {rb : RB} (hg : s.heap.get i = some o) (hr : ρ i = some rb) (hw : wr o = true) (hp : ∀ p, OH    o = some p → p ≠ i → s.heap.get p = none)
    (hp1:OH o1=none) (hsz:w1.heap.size=w.heap.size) (hkeep:∀b,b≠rb.b→w1.heap[b]? = w.heap[b]?) (hos:w1.os=w.os) (htape:w1.tape=w.tape) (hout:w1.output=w.output)
    (ho:F0 P ρ w1 o1 rb):Bd P ρ (setObj s i o1) w1∧Fr ρ s w ρ (setObj s i o1) w1:=by
  have hsep:∀j oj rj,j≠i→s.heap.get j=some oj→ρ j=some rj→rj.b≠rb.b:=by
    intro j oj rj hne hj hrj e
    have:=hp j (h.sep j i oj o rj rb hne hj hg hrj hr e hw).1 hne
    rw[hj]at this
    cases this
  have hglb:∀j oj g,(setObj s i o1).heap.get j=some oj→Gf oj=some g→∃r,ρ j=some r:=by
    intro j oj g hj hg
    rw[DS]at hj
    by_cases e:j=i
    · subst e;exact⟨_,hr⟩
    · rw[if_neg e]at hj
      exact h.glb j oj g hj hg
  refine⟨⟨?_,?_,?_,hglb⟩,?_⟩
  · intro j oj rj hj hrj
    rw[DS]at hj
    by_cases e:j=i
    · subst e
      rw[if_pos rfl]at hj
      injection hj with hj
      subst hj
      rw[hr]at hrj
      injection hrj with hrj
      subst hrj
      exact ho
    · rw[if_neg e]at hj
      exact(h.obj j oj rj hj hrj).mono (BU.le_refl ρ) (hkeep _ (hsep j oj rj e hj hrj))
  · intro j rj hrj
    rw[hsz];exact h.lt j rj hrj
  · intro j k oj ok rj rk hne hj hk hrj hrk hbb hwk
    rw[DS]at hj hk
    by_cases ej:j=i
    · subst ej
      have ek:k≠j:=fun e=>hne e.symm
      rw[if_neg ek]at hk
      rw[hr]at hrj
      injection hrj with hrj
      subst hrj
      exact absurd hbb.symm (hsep k ok rk ek hk hrk)
    · by_cases ek : k = i
      · subst ek
        rw[if_neg ej]at hj
        rw[hr]at hrk
        injection hrk with hrk
        subst hrk
        exact absurd hbb (hsep j oj rj ej hj hrj)
      · rw [if_neg ej] at hj
        rw[if_neg ek]at hk
        exact h.sep j k oj ok rj rk hne hj hk hrj hrk hbb hwk
  · refine ⟨BU.le_refl  ρ, fun _ h _ => h, zU          _, by omega, hos, htape, hout, ?_, ?_, ?_⟩
    · intro b _ hno
      exact hkeep b (fun e=>hno ⟨i,o,rb,hg,hw,hr,e.symm⟩)
    · rintro b ⟨j, oj, rj, hj, hwj, hrj, rfl⟩
      rw[DS]at hj
      by_cases e:j=i
      · subst e
        rw[hr]at hrj
        injection hrj with hrj
        subst hrj
        exact .inl ⟨j,o,rb,hg,hw,hr,rfl⟩
      · rw[if_neg e]at hj
        exact .inl ⟨j,oj,rj,hj,hwj,hrj,rfl⟩
    · intro j hrj _
      rw[DS,if_neg]
      intro e
      subst e
      rw[hr]at hrj
      cases hrj
theorem Bd.del  (h : Bd  P ρ s w) {i : Nat} {rb : RB} (hr : ρ i = some rb) : Bd  P ρ (Cg     s i) w ∧ Fr ρ s w ρ (Cg     s i) w := by
  have hglb:∀j oj g,(Cg s i).heap.get j=some oj→Gf oj=some g→∃r,ρ j=some r:=by
    intro j oj g hj hg
    rw[Bt]at hj
    by_cases e:j=i
    · rw[if_pos e]at hj;cases hj
    · rw[if_neg e]at hj
      exact h.glb j oj g hj hg
  refine⟨⟨?_,h.lt,?_,hglb⟩,⟨BU.le_refl ρ,fun _ h _=>h,zU _,zU _,rfl,rfl,rfl,fun _ _ _=>rfl,?_,?_⟩⟩
  · intro j oj rj hj hrj
    rw[Bt]at hj
    by_cases e:j=i
    · rw[if_pos e]at hj;cases hj
    · rw[if_neg e]at hj
      exact h.obj j oj rj hj hrj
  · intro j k oj ok rj rk hne hj hk
    rw[Bt]at hj hk
    by_cases ej:j=i
    · rw[if_pos ej]at hj;cases hj
    · by_cases ek : k = i
      · rw[if_pos ek]at hk;cases hk
      · rw [if_neg ej] at hj
        rw[if_neg ek]at hk
        exact h.sep j k oj ok rj rk hne hj hk
  · rintro b ⟨j, oj, rj, hj, hwj, hrj, rfl⟩
    rw[Bt]at hj
    by_cases e:j=i
    · rw[if_pos e]at hj;cases hj
    · rw[if_neg e]at hj
      exact .inl ⟨j,oj,rj,hj,hwj,hrj,rfl⟩
  · intro j hrj _
    rw[Bt,if_neg]
    intro e
    subst e
    rw[hr]at hrj
    cases hrj
theorem Bj{i:Nat}{r:D5}(h:rowAt s i=some r):s.heap.get i=some (.row r):=by
 unfold rowAt at h
 split at h
 ·injection h with h;subst h;assumption
 ·cases h
theorem Cl(b o k:Nat):(⟨b,o,none⟩:Addr).add k=⟨b,o+k,none⟩:=by unfold Addr.add;split<;>simp_all
theorem Dl(h:Bd P ρ s w){i off n:Nat}{l:List AV}{rb:RB}(hr:ρ i=some rb)(hl:CL s i off n=some l):
  ∃l':List Value,AW ρ l l'∧l'.length=n∧∀w1:World,w1.heap=w.heap→(loadCells ⟨rb.b,rb.off+off,none⟩ n).run P w1=.ok l'.toArray w1:=by
 unfold CL at hl
 simp only[zV]at hl
 obtain⟨r,hrow,hl⟩:=hl
 obtain⟨hb,hl⟩:=AD hl
 have hb:off+n≤r.n:=by simpa[zh]using hb
 have hok:Ct ρ w r rb:=h.obj i _ rb (Bj hrow) hr
 have hlen:=Ab.take_length hl
 have hc:∀k,k<n→∃v v',l[k]? = some v∧w.cell? ⟨rb.b,rb.off+off+k,none⟩=some v'∧Ae ρ v v':=by
  intro k hk
  have hv:l[k]? = some l[k]:=zW (by omega)
  have hg:=Ab.take_get hl k hk
  rw[hv]at hg
  obtain⟨v',h1,h2⟩:=hok.cells (off+k) _ (by omega) hg
  exact⟨l[k],v',hv,by rw[show rb.off+off+k=rb.off+(off+k)from by omega];exact h1,h2⟩
 let f:Nat→Value:=fun k=>(w.cell? ⟨rb.b,rb.off+off+k,none⟩).getD undef
 have hf:∀k,k<n→w.cell? ⟨rb.b,rb.off+off+k,none⟩=some (f k):=by
  intro k hk
  obtain⟨v,v',_,h2,_⟩:=hc k hk
  simp[f,h2]
 refine⟨(List.range n).map f,?_,by simp,?_⟩
 ·refine AW.of_get (by simp[hlen]) ?_
  intro k v v' hv hv'
  have hk:k<n:=by
   rcases zX k n with h' | h'
   ·exact h'
   ·rw[zj (by omega)]at hv;cases hv
  obtain⟨u,u',h1,h2,h3⟩:=hc k hk
  rw[h1]at hv
  injection hv with hv
  subst hv
  rw[A0N,A1b hk]at hv'
  simp only[A0u]at hv'
  injection hv' with hv'
  rw[← hv']
  have:f k=u':=by simp[f,h2]
  rw[this];exact h3
 ·intro w1 he
  exact run_loadCells w1 _ n f (fun j hj=>by rw[Cl];exact(JB (by rw[he])).trans (hf j hj))
theorem MX(h:Bd P ρ s w){i off:Nat}{v:AV}{rb:RB}(hr:ρ i=some rb)(hl:DB s i off=some v):
  ∃v',Ae ρ v v'∧w.cell? ⟨rb.b,rb.off+off,none⟩=some v':=by
 unfold DB at hl
 simp only[zV]at hl
 obtain⟨r,hrow,hl⟩:=hl
 obtain⟨hb,hl⟩:=AD hl
 have hb:off<r.n:=by simpa[zx]using hb
 have hok:Ct ρ w r rb:=h.obj i _ rb (Bj hrow) hr
 obtain⟨v',h1,h2⟩:=hok.cells off v hb hl
 exact⟨v',h2,h1⟩
theorem MZ       (h : Bd  P ρ s w) {t : TypeId} {a v : AV} {a' : Value} (hl : AB    P s t a = some v) (ha : Ae   ρ a a') :
    ∃v',(Instr.loadAt t a').run P w=.ok v' w∧Ae ρ v v'∧∃ad,a'=.pointer (some ad)∧(loadVar t ad).run P w=.ok v' w:=by
  unfold AB at hl
  split at hl<;>first | (cases hl;done) | skip
  · rename_i i o
    cases ha
    simp only[zV]at hl
    obtain⟨r,hgr,g,hg,hl⟩:=hl
    have hrow:rowAt s i=some r∧r.glob=some i:=by
      unfold PZ at hgr
      simp only[zV]at hgr
      obtain⟨r',h1,h2⟩:=hgr
      split at h2<;>first | (cases h2;done) | skip
      rename_i g' hg'
      obtain⟨h3,h4⟩:=AD h2
      injection h4 with h4
      subst h4
      exact⟨h1,by rw[hg',zr h3]⟩
    obtain⟨rb,hr⟩:=h.glb i _ i (Bj hrow.1) hrow.2
    have hok:Ct ρ w r rb:=h.obj i _ rb (Bj hrow.1) hr
    obtain⟨hb,ho⟩:=hok.gl i hrow.2
    cases g with
    | true =>
      simp only[zV]at hl
      obtain⟨n,hn,l,hl,hv⟩:=hl
      injection hv with hv;subst hv
      obtain⟨l',h1,h2,h3⟩:=Dl h hr hl
      rw[hb,ho,zk]at h3
      have hrun:(loadVar t ⟨i,o,none⟩).run P w=.ok (.agg l'.toArray) w:=by
        simp[loadVar,H4 hg,BH hn,h3 w rfl]
      exact⟨.agg l'.toArray,by simp[Instr.loadAt,Instr.sureAddr,hrun],.agg (by simpa using h1),_,rfl,hrun⟩
    | false =>
      obtain⟨v',h1,h2⟩:=MX h hr hl
      rw[hb,ho,zk]at h2
      have hrun:(loadVar t ⟨i,o,none⟩).run P w=.ok v' w:=by
        simp[loadVar,H4 hg,h2]
      exact⟨v',by simp[Instr.loadAt,Instr.sureAddr,hrun],h1,_,rfl,hrun⟩
  rename_i i o
  cases ha with
  | ptr hr =>
    rename_i rb
    simp only[zV]at hl
    obtain⟨g,hg,hl⟩:=hl
    cases g with
    | true =>
      simp only[zV]at hl
      obtain⟨n,hn,l,hl,hv⟩:=hl
      injection hv with hv;subst hv
      obtain⟨l',h1,h2,h3⟩:=Dl h hr hl
      have hrun:(loadVar t ⟨rb.b,rb.off+o,none⟩).run P w=.ok (.agg l'.toArray) w:=by
        simp[loadVar,H4 hg,BH hn,h3 w rfl]
      exact⟨.agg l'.toArray,by simp[Instr.loadAt,Instr.sureAddr,hrun],.agg (by simpa using h1),_,rfl,hrun⟩
    | false =>
      obtain⟨v',h1,h2⟩:=MX h hr hl
      have hrun:(loadVar t ⟨rb.b,rb.off+o,none⟩).run P w=.ok v' w:=by
        simp[loadVar,H4 hg,h2]
      exact⟨v',by simp[Instr.loadAt,Instr.sureAddr,hrun],h1,_,rfl,hrun⟩
end
section
variable{P:Program}{ρ ρ1 ρ2:BU}{s s1 s2:AE}{w w1 w2:World}
theorem fw{e:TypeId}{sz:Nat}{l:List AV}{cs:Array Value}(hl:AW ρ l cs.toList)(b:Nat)(hb:w.heap[b]? = some (.cells cs e (0,0))):
  F0 P ρ w (GH e sz l) ⟨b,0,l.length,sz⟩:=by
 have hlen:=hl.length
 refine⟨?_,zU _,rfl,fun _=>rfl,fun _=>⟨cs,hb,by simp[hlen]⟩,fun _=>rfl,(fun g hg=>by cases hg),fun p hp=>by cases hp⟩
 intro k v hk hv
 simp only[Ab.get_fill,ze,zk,true_and,Nat.sub_zero]at hv
 rw[if_pos hk]at hv
 obtain⟨v',h1,h2⟩:=hl.get hv
 refine⟨v',?_,h2⟩
 simp only[World.cell?,hb,zk]
 rw[← Array.getElem?_toList]
 simpa using h1
theorem Hx(h:Bd P ρ s w)(hf:ρ s.next=none){e:TypeId}{sz:Nat}{l:List AV}{cs:Array Value}(hl:AW ρ l cs.toList):
  ∃ρ',ρ' s.next=some ⟨w.heap.size,0,l.length,sz⟩∧Bd P ρ' (newObj s (GH e sz l)) (w.alloc (.cells cs e))∧Fr ρ s w ρ' (newObj s (GH e sz l)) (w.alloc (.cells cs e)):=by
 have hle:=Bk (rb:=⟨w.heap.size,0,l.length,sz⟩) hf
 obtain⟨h1,h2⟩:=h.new (o:=GH e sz l) (o':=.cells cs e) (rb:=⟨w.heap.size,0,l.length,sz⟩) hf rfl
  (fw (hl.mono hle) _ (World.alloc_heap_new w _))
 exact⟨_,Af _ _,h1,h2⟩
theorem H9        (h : Bd  P ρ s w) {i off : Nat} {vs : List AV} {vs' : List Value} {rb : RB} (hr : ρ i = some rb) (hs : C3     s i off vs = some s1) (hv : AW    ρ vs vs') :
    ∃w1,(storeCells ⟨rb.b,rb.off+off,none⟩ vs').run P w=.ok () w1∧Bd P ρ s1 w1∧Fr ρ s w ρ s1 w1:=by
  cases vs with
  | nil =>
    cases hv
    simp only[C3]at hs
    injection hs with hs
    subst hs
    exact⟨w,rfl,h,Fr.refl _ _ _⟩
  | cons v0 vs0 =>
    have hsv:C3 s i off (v0::vs0)=(rowAt s i).bind fun r =>
      AQ (EG r.mode && Nat.ble (off+(v0::vs0).length) r.n && Aq (v0::vs0))
        (some (setObj (BT s i r) i (.row { r with c:=r.c.fill off (v0::vs0),par:=none }))):=rfl
    rw[hsv]at hs
    generalize v0::vs0=vs at hs hv
    simp only[zV]at hs
    obtain⟨r,hrow,hs⟩:=hs
    obtain⟨hb,hs⟩:=AD hs
    injection hs with hs
    subst hs
    simp only[Bool.and_eq_true,zh]at hb
    obtain⟨⟨hown,hle⟩,hall⟩:=hb
    have hg:=Bj hrow
    have hok:Ct ρ w r rb:=h.obj i _ rb hg hr
    have hmode:r.mode≠.ro:=fun e=>by rw[e]at hown;cases hown
    obtain⟨cs,hblk,hsz⟩:=hok.own hmode
    obtain⟨e,he0⟩:∃e,r.elem=e:=⟨_,rfl⟩
    rw[he0]at hblk
    have hlen:=hv.length
    have hfit:rb.off+off+vs'.length≤cs.size:=by have:=hok.le;omega
    have hrun:=run_storeCells_at P rb.b (rb.off+off) e vs' 0 cs w hblk (by simpa using hfit) (hv.oneCell hall)
    refine⟨_,hrun,?_⟩
    simp only[zv]
    generalize hnew:(cs.toList.take (rb.off+off)++vs'++cs.toList.drop (rb.off+off+vs'.length)).toArray=cs1
    have hblk1:(w.setRow rb.b cs1).heap[rb.b]? = some (.cells cs1 e (0,0)):=setRow_heap w rb.b cs cs1 e (0,0) hblk
    have hsize1:cs1.size=cs.size:=by rw[← hnew];simp;omega
    have hget:∀k,cs1[k]? = if rb.off+off≤k∧k<rb.off+off+vs'.length then vs'[k - (rb.off+off)]? else cs[k]? := by
      intro k
      rw[← hnew,List.getElem?_toArray]
      by_cases h1:k<rb.off+off
      · rw[if_neg (by omega),A0O,A0Q (by simp;omega),A0m h1,Array.getElem?_toList]
      · rw[A0O,A0U (by simp;omega)]
        have hmin:(cs.toList.take (rb.off+off)).length=rb.off+off:=by simp;omega
        rw[hmin]
        by_cases h2:k<rb.off+off+vs'.length
        · rw[if_pos (by omega),A0Q (by omega)]
        · rw[if_neg (by omega),A0U (by omega),A0Z,← Array.getElem?_toList]
          congr 1
          omega
    have key:∀sx:AE,Bd P ρ sx w→Fr ρ s w ρ sx w→sx.heap.get i=some (.row r)→(∀p,r.par=some p→p≠i→sx.heap.get p=none) →
        Bd P ρ (setObj sx i (.row { r with c:=r.c.fill off vs,par:=none })) (w.setRow rb.b cs1) ∧
        Fr ρ s w ρ (setObj sx i (.row { r with c:=r.c.fill off vs,par:=none })) (w.setRow rb.b cs1):=by
      intro sx hx hfx hgx hpx
      obtain⟨h1,h2⟩:=hx.set (o1:=.row { r with c:=r.c.fill off vs,par:=none }) (w1:=w.setRow rb.b cs1) hgx hr (by simpa[wr]using hown) hpx rfl (by simp)
        (fun b hb=>setRow_other w rb.b b cs1 hb) rfl rfl rfl (by
          refine⟨?_,hok.le,hok.sz,hok.tight,fun _=>⟨cs1,by show _=some (Obj.cells cs1 r.elem (0,0));rw[he0];exact hblk1,by rw[hsize1];exact hsz⟩,hok.base,hok.gl,fun p hp=>by cases hp⟩
          intro k v hk hkv
          simp only[Ab.get_fill]at hkv
          have hcell:(w.setRow rb.b cs1).cell? ⟨rb.b,rb.off+k,none⟩=cs1[rb.off+k]? := by simp[World.cell?,hblk1]
          rw[hcell,hget]
          by_cases hin:off≤k∧k<off+vs.length
          · rw [if_pos hin] at hkv
            rw[if_pos (by omega),show rb.off+k - (rb.off+off)=k - off from by omega]
            exact hv.get hkv
          · rw [if_neg hin] at hkv
            rw[if_neg (by omega)]
            obtain⟨v',h1,h2⟩:=hok.cells k v hk hkv
            refine⟨v',?_,h2⟩
            simpa[World.cell?,hblk]using h1)
      exact⟨h1,hfx.trans h2⟩
    unfold BT
    split
    · rename_i hp
      exact key s h (Fr.refl _ _ _) hg (fun p hp' _=>by rw[hp]at hp';cases hp')
    · rename_i p hp
      by_cases hpi:p=i
      · have:Nat.beq p i=true:=by rw[hpi];simp[A0t]
        rw[this]
        exact key s h (Fr.refl _ _ _) hg (fun q hq hqi=>by rw[hp]at hq;injection hq with hq;exact absurd (hq.symm.trans hpi) hqi)
      · rw[Ab.beq_no hpi]
        obtain⟨rp,hrp⟩:=hok.par p hp
        obtain⟨hd,hfd⟩:=h.del hrp
        exact key (Cg s p) hd hfd (by rw[Bt,if_neg (fun e=>hpi e.symm)];exact hg) (fun q hq _=>by
          rw[hp]at hq
          injection hq with hq
          subst hq
          rw[Bt,if_pos rfl])
theorem As{a b:Nat}(h:Nat.beq a b=true):a=b:=zr h
theorem X2(h:Bd P ρ s w){t:TypeId}{a v:AV}{a' v':Value}(hs:AO P s t a v=some s1)(ha:Ae ρ a a')(hv:Ae ρ v v'):
  ∃w1,(Instr.storeAt t a' v').run P w=.ok () w1∧Bd P ρ s1 w1∧Fr ρ s w ρ s1 w1:=by
 unfold AO at hs
 split at hs<;>first | (cases hs;done) | skip
 rename_i i o
 cases ha with
 | ptr hr =>
  rename_i rb
  simp only[zV]at hs
  obtain⟨n,hn,hs⟩:=hs
  obtain⟨hb,hs⟩:=AD hs
  have hb:=As hb
  obtain⟨w1,h1,h2⟩:=H9 h hr hs hv.cells
  refine⟨w1,?_,h2⟩
  have hc:v'.cells.size=n:=by have:=hv.cells.length;simp at this;omega
  simp[Instr.storeAt,Instr.sureAddr,storeVar,BH hn,hc,h1]
def Nj(P:Program)(ρ:BU)(s:AE)(w:World)(sem:Sem Value)(o:BF)(m:Made):Prop:=
 ∃v' w' ρ',sem.run P w=.ok v' w'∧Ae ρ' (m.val s.next) v'∧Bd P ρ' (newObj s o) w'∧Fr ρ s w ρ' (newObj s o) w'
theorem W0(h:Bd P ρ s w)(hf:ρ s.next=none){e:TypeId}{o:BF}{m:Made}(hs:Ag P e=some (o,m)):
  Nj P ρ s w (Instr.alloc e true (.tuple #[])) o m:=by
 unfold Ag at hs
 simp only[zV]at hs
 obtain⟨z,hz,hs⟩:=hs
 injection hs with hs
 injection hs with h1 h2
 subst h1;subst h2
 obtain⟨z',hz',hzr⟩:=Jb (w:=w) ρ hz
 obtain⟨ρ',h1,h2,h3⟩:=Hx h hf (e:=e) (sz:=0) hzr.cells
 exact⟨.pointer (some ⟨w.heap.size,0,none⟩),_,ρ',by simp[Instr.alloc,hz',newVar,newRow],Ae.ptr h1,h2,h3⟩
theorem il(h:Bd P ρ s w)(hf:ρ s.next=none){e:TypeId}{v:AV}{v':Value}{o:BF}{m:Made}(hs:BV e v=some (o,m))(hv:Ae ρ v v'):
  Nj P ρ s w (Instr.box e v') o m:=by
 unfold BV at hs
 injection hs with hs
 injection hs with h1 h2
 subst h1;subst h2
 obtain⟨ρ',h1,h2,h3⟩:=Hx h hf (e:=e) (sz:=0) hv.cells
 exact⟨.pointer (some ⟨w.heap.size,0,none⟩),_,ρ',by simp[Instr.box,newVar,newRow],Ae.ptr h1,h2,h3⟩
theorem US(h:Bd P ρ s w)(hf:ρ s.next=none)(t kt:TypeId):Nj P ρ s w (Instr.makeMap t none) (.map kt []) .map:=by
 have hle:=Bk (rb:=⟨w.heap.size,0,0,0⟩) hf
 obtain⟨h1,h2⟩:=h.new (o:=.map kt []) (o':=.map #[] 0) (rb:=⟨w.heap.size,0,0,0⟩) hf rfl ⟨#[],0,World.alloc_heap_new w _,MapKept.stamped_empty 0,⟨[],.refl _,.nil⟩,by simp⟩
 exact⟨.map (some w.heap.size),_,_,by simp[Instr.makeMap],Ae.map (Af _ _),h1,h2⟩
theorem MK       {place : Nat → Option (Nat × Nat)} {place' : Nat → Option (Nat × Nat)} (hp : ∀ i p, place i = some p → place' i = some p) :
    ∀ {parts:List (Nat×AV)} {parts':List (Nat×Value)} {cs l:List AV} {cs':Array Value},MJ place cs parts=some l→AW ρ cs cs'.toList →
      (parts.map (·.1)=parts'.map (·.1))→AW ρ (parts.map (·.2)) (parts'.map (·.2))→∃l',Instr.fill place' cs' parts'=some l'∧AW ρ l l'.toList:=by
  intro parts
  induction parts with
  | nil =>
    intro parts' cs l cs' h hc hm hv
    cases parts' with
    | nil=>simp[MJ]at h;subst h;exact⟨cs',rfl,hc⟩
    | cons=>simp at hm
  | cons p rest ih =>
    intro parts' cs l cs' h hc hm hv
    cases parts' with
    | nil=>simp at hm
    | cons p' rest' =>
      obtain⟨i,v⟩:=p
      obtain⟨i',v'⟩:=p'
      simp only[A0e,List.cons.injEq]at hm
      obtain⟨hi,hm⟩:=hm
      skip
      subst hi
      simp only[A0e]at hv
      cases hv with
      | cons hv hvs =>
        simp only[MJ,zV]at h
        obtain⟨q,hq,h⟩:=h
        obtain⟨hb,h⟩:=AD h
        simp only[Bool.and_eq_true,zh]at hb
        obtain⟨hb1,hb2⟩:=hb
        have hb1:=As hb1
        have hvc:=hv.cells
        have hvl:=hvc.length
        have hcl:=hc.length
        simp only[Array.length_toList]at hvl hcl
        have hnew:AW ρ (cs.take q.1++(v.cells++cs.drop (q.1+v.cells.length)))
            (v'.cells.zipIdx.foldl (fun cs (c,j)=>cs.setIfInBounds (q.1+j) c) cs').toList:=by
          have e:(v'.cells.zipIdx.foldl (fun cs (c,j)=>cs.setIfInBounds (q.1+j) c) cs').toList=cs'.toList.take q.1++(v'.cells.toList++cs'.toList.drop (q.1+v.cells.length)):=by
            have key:∀ (l:List Value) (k:Nat) (a:Array Value),q.1+k+l.length≤a.size →
                ((l.zipIdx k).foldl (fun cs (x:Value×Nat)=>cs.setIfInBounds (q.1+x.2) x.1) a).toList=a.toList.take (q.1+k)++(l++a.toList.drop (q.1+k+l.length)):=by
              intro l
              induction l with
              | nil=>intro k a _;simp
              | cons x l ihl =>
                intro k a hk
                simp only[A0G]at hk
                rw[List.zipIdx_cons,List.foldl_cons,ihl (k+1) _ (by simp;omega)]
                simp only[Array.toList_setIfInBounds,A0G]
                have e:=list_seg_step a.toList (q.1+k) x l (by simp;omega)
                simpa[A0H,A0O]using e
            have:=key v'.cells.toList 0 cs' (by simp;omega)
            simp only[zv]at this
            rw[← Array.foldl_toList,Array.toList_zipIdx]
            rw[hvl]
            simpa using this
          rw[e]
          exact(hc.take _).append (hvc.append (hc.drop _))
        obtain⟨l',h1,h2⟩:=ih h hnew hm hvs
        refine⟨l',?_,h2⟩
        have hpq:=hp i q hq
        obtain⟨o,n⟩:=q
        simp only[Instr.fill,hpq]
        have c1:¬ (v'.cells.size≠n∨o+v'.cells.size > cs'.size):=by simp only at hb1 hb2;omega
        have:(decide (v'.cells.size≠n) || decide (o+v'.cells.size > cs'.size))=false:=by
          rw[Bool.eq_false_iff];intro hh;apply c1;simpa using hh
        simp only[this]
        exact h1
theorem II:∀ {fs:List Field}{l:List (Nat×Nat)},FV P fs=some l →
  ∀w:World,((fs.mapM fun f=>do pure (f.offset,← sizeOf f.type):Sem (List (Nat×Nat)))).run P w=.ok l w
 | [],l,h,w=>by simp[FV]at h;subst h;rfl
 | f::fs,l,h,w=>by
  simp only[FV,zV]at h
  obtain⟨n,hn,r,hr,h⟩:=h
  injection h with h
  subst h
  have ih:=II hr w
  simp only[A1U,Sem.run_bind,BH hn,Sem.run_pure,Result.andThen_ok,ih]
theorem W6{t:TypeId}{parts:List (Nat×AV)}{parts':Array (Nat×Value)}{v:AV}(h:Be P t parts=some v)
  (hm:parts.map (·.1)=parts'.toList.map (·.1)) (hv:AW ρ (parts.map (·.2)) (parts'.toList.map (·.2))) (w:World):
  ∃v',(Instr.build t parts').run P w=.ok v' w∧Ae ρ v v':=by
 unfold Be at h
 simp only[zV]at h
 obtain⟨z,hz,h⟩:=h
 obtain⟨z',hz',hzr⟩:=Jb (w:=w) ρ hz
 split at h<;>first | (cases h;done) | skip
 ·rename_i fields hf
  simp only[zV]at h
  obtain⟨places,hpl,l,hl,h⟩:=h
  injection h with h
  subst h
  have hpl':=II hpl w
  obtain⟨l',h1,h2⟩:=MK (place':=fun i=>(places.toArray)[i]?) (fun i p hp=>by simpa using hp) hl hzr.cells hm hv
  refine⟨.agg l',?_,.agg h2⟩
  have hma:(fields.mapM fun f=>do pure (f.offset,← sizeOf f.type):Sem (Array (Nat×Nat))).run P w=.ok places.toArray w:=by
   rw[Array.mapM_eq_mapM_toList,Sem.run_map,hpl']
   rfl
  simp only[Instr.build,Sem.run_bind,hz',Result.andThen_ok,AP hf,hma,h1,Sem.run_pure]
 ·rename_i len e hf
  simp only[zV]at h
  obtain⟨n,hn,l,hl,h⟩:=h
  injection h with h
  subst h
  obtain⟨l',h1,h2⟩:=MK (place':=fun i=>some (i * n,n)) (fun i p hp=>hp) hl hzr.cells hm hv
  refine⟨.agg l',?_,.agg h2⟩
  simp only[Instr.build,Sem.run_bind,hz',Result.andThen_ok,AP hf,BH hn,h1,Sem.run_pure]
theorem Pt      {z : AV} {z' : Value} {n c : Nat} (hz : Ae   ρ z z') (hl : z.cells.length = n) :
    AW ρ (Nd z.cells c) (((Array.range (c * n)).map (z'.cells[· % z'.cells.size]!)).toList):=by
  have hc:=hz.cells
  have hlen:z'.cells.size=n:=by have:=hc.length;simp at this;omega
  have hrl:∀c,(Nd z.cells c).length=c * n:=by
    intro c
    induction c with
    | zero=>simp[Nd]
    | succ c ih=>simp[Nd,ih,hl,zz];omega
  have hrg:∀ (c k:Nat),k<c * n→(Nd z.cells c)[k]? = z.cells[k % n]? := by
    intro c
    induction c with
    | zero=>intro k hk;omega
    | succ c ih =>
      intro k hk
      simp only[Nd]
      by_cases h1:k<n
      · rw[A0Q (by omega),A0I h1]
      · rw [A0U                        (by omega), hl, ih (k - n) (by rw [zz]           at hk; omega)]
        rw[← Nat.mod_eq_sub_mod (by omega)]
  refine AW.of_get (by simp[hrl]) ?_
  intro k v v' hv hv'
  have hk:k<c * n:=by
    rcases zX k (c * n)with h | h
    · exact h
    · rw[zj (by rw[hrl];omega)]at hv;cases hv
  have hn:0<n:=by
    rcases A0R n with h | h
    · subst h;simp at hk
    · exact h
  rw[hrg c k hk]at hv
  obtain⟨u,h1,h2⟩:=hc.get hv
  have:v'=u:=by
    rw[Array.getElem?_toList,Array.getElem?_map,Array.getElem?_range]at hv'
    rw[if_pos hk]at hv'
    simp only[A0u]at hv'
    injection hv' with hv'
    rw[← hv',hlen]
    rw[Array.getElem?_toList]at h1
    rw[getElem!_def,h1]
  rw[this]
  exact h2
theorem P4(h:Bd P ρ s w)(hf:ρ s.next=none){t:TypeId}{len:Nat}{parts:List (Nat×AV)}{parts':Array (Nat×Value)}{o:BF}(hs:Ad P t len parts=some o)
  (hm:parts.map (·.1)=parts'.toList.map (·.1)) (hv:AW ρ (parts.map (·.2)) (parts'.toList.map (·.2))):
  Nj P ρ s w (Instr.buildSlice t len parts') o (.slice len):=by
 unfold Ad at hs
 split at hs<;>first | (cases hs;done) | skip
 rename_i e he
 simp only[zV]at hs
 obtain⟨n,hn,hs⟩:=hs
 obtain⟨hb,hs⟩:=AD hs
 have hb:len * n≤16777216:=by simpa[zh]using hb
 simp only[zV]at hs
 obtain⟨z,hz,hs⟩:=hs
 obtain⟨hc,hs⟩:=AD hs
 simp only[zV]at hs
 obtain⟨l,hl,hs⟩:=hs
 injection hs with hs
 subst hs
 obtain⟨z',hz',hzr⟩:=Jb (w:=w) ρ hz
 have hz2:=Pt (c:=len) hzr (As hc)
 obtain⟨l',h1,h2⟩:=MK (place':=fun i=>some (i * n,n)) (fun i p hp=>hp) hl hz2 hm hv
 obtain⟨ρ',g1,g2,g3⟩:=Hx h hf (e:=e) (sz:=n) h2
 refine⟨.slice (some ⟨w.heap.size,0,none⟩) len len,_,ρ',?_,Ae.slice g1 (zU _),g2,g3⟩
 have hbig:¬ len * n > 2 ^ 24:=by omega
 by_cases h0:len * n=0
 ·have hr0:Array.range 0=#[]:=by simp
  rw[h0,hr0]at h1
  simp only[Array.map_empty]at h1
  simp[Instr.buildSlice,AP he,BH hn,h0,hr0,h1,newRow]
 ·simp[Instr.buildSlice,AP he,BH hn,hbig,h0,hz',h1,newRow]
theorem Nb(h:Bd P ρ s w)(hf:ρ s.next=none){t:TypeId}{l c:AV}{l' c':Value}{o:BF}{m:Made}(hs:Bb P t l c=some (o,m))
  (hl:Ae ρ l l') (hc:Ae ρ c c'):Nj P ρ s w (Instr.makeSlice t l' c') o m:=by
 unfold Bb at hs
 split at hs<;>first | (cases hs;done) | skip
 rename_i e l0 c0 he
 cases hl;cases hc
 simp only[zV]at hs
 obtain⟨by_,hby,n,hn,hs⟩:=hs
 obtain⟨hb,hs⟩:=AD hs
 simp only[Bool.and_eq_true,zh]at hb
 obtain⟨⟨hlc,hb1⟩,hb2⟩:=hb
 have hlc:=As hlc
 subst hlc
 simp only[zV]at hs
 obtain⟨z,hz,hs⟩:=hs
 obtain⟨hc,hs⟩:=AD hs
 injection hs with hs
 injection hs with hs1 hs2
 subst hs1;subst hs2
 obtain⟨z',hz',hzr⟩:=Jb (w:=w) ρ hz
 have hz2:=Pt (c:=l0) hzr (As hc)
 obtain⟨i,hi,hi2⟩:=Xw (w:=w) hby
 obtain⟨ρ',g1,g2,g3⟩:=Hx h hf (e:=e) (sz:=n) hz2
 refine⟨.slice (some ⟨w.heap.size,0,none⟩) l0 l0,_,ρ',?_,Ae.slice g1 (zU _),g2,g3⟩
 have hw:IntKind.i64.wrap (l0:Int)=(l0:Int):=Lb (k:=.i64) (n:=Int.ofNat l0) (by simp[CG,zh];omega)
 have hmul:((by_:Int) * (l0:Int))≤1099511627776:=by
  have:((by_ * l0:Nat):Int)≤1099511627776:=by omega
  simpa using this
 have h1:¬ ((l0:Int)<0):=by omega
 have h2:¬ ((i.bytes:Int) * (l0:Int) > 2 ^ 48):=by rw[hi2];omega
 have h3:¬ ((281474976710656:Int)<(i.bytes:Int) * (l0:Int)):=by omega
 by_cases h0:l0 * n=0
 ·have hr0:Array.range 0=#[]:=by simp
  simp[Instr.makeSlice,AP he,asInt,asIntOf,hi,hw,h1,h3,BH hn,h0,newRow,hr0]
 ·simp[Instr.makeSlice,AP he,asInt,asIntOf,hi,hw,h1,h3,BH hn,h0,hz',newRow]
end
end
end Go.Proofs.YtjnkfbpadpmakaaGreatDoor.Am
