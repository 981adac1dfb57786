/- Binary tries over Nat keys, made for evaluation by the kernel: get, set, and their laws; conditions: none. -/
import GoSem.Dispatch
import GoSem.ClaimKeys
import Derived.DeepKeys2
import Derived.CallsIn
import Derived.Laws.Sem
import Derived.MapKept
import Derived.Laws.Entries
import Derived.Laws.Slices
import Derived.Laws.Strings
import Derived.Lib.Hide
import Derived.Laws.CopyRow
import Derived.Laws.Cells
import Derived.RangeFuncRecord
import Derived.Below
namespace Go.Proofs.YtdmgdlbodeemeaaGreatDoor.Am
noncomputable section
abbrev fQ := @Option.bind_eq_some_iff
abbrev fR := @Nat.le_refl
abbrev fS := @Nat.lt_or_ge
abbrev fT := @Nat.ble_eq
abbrev fU := @Nat.le_trans
abbrev fV := @Nat.lt_of_lt_of_le
abbrev fW := @Nat.eq_of_beq_eq_true
abbrev fX := @List.getElem?_eq_getElem
abbrev fY := @Nat.zero_add
abbrev fZ := @Nat.mul_one
abbrev fa := @Nat.zero_le
abbrev fb := @Nat.blt_eq
abbrev fc := @List.mem_cons_self
abbrev fe := @Nat.mul_comm
abbrev ff := @List.getElem?_eq_none
abbrev fg := @List.length_append
abbrev fh := @List.mem_cons_of_mem
abbrev fi := @Nat.add_zero
abbrev fj := @Nat.mul_le_mul_right
abbrev fk := @Nat.mul_assoc
abbrev fm := @List.map_cons
abbrev fo := @Nat.mod_lt
abbrev ft := @List.append_assoc
abbrev fu := @Nat.add_mul
abbrev fv := @List.mem_of_getElem?
abbrev fw := @Nat.mul_add
abbrev fx := @List.length_take
abbrev fy := @Nat.mod_eq_of_lt
abbrev fz := @Nat.mul_le_mul_left
abbrev f9 := @Nat.le_of_eq
abbrev gA := @Nat.succ_mul
abbrev gB := @Nat.add_assoc
abbrev gC := @Nat.lt_succ_self
abbrev gD := @Nat.le_succ
abbrev gE := @List.drop_eq_getElem_cons
abbrev gF := @Nat.div_lt_iff_lt_mul
abbrev gG := @Nat.pow_succ
abbrev gH := @List.length_cons
abbrev gI := @List.getElem?_append_left
abbrev gJ := @List.getElem?_append_right
abbrev gK := @List.set_cons_zero
abbrev gL := @Nat.lt_of_le_of_lt
abbrev gM := @Nat.mul_zero
abbrev gN := @Nat.pow_pos
abbrev gO := @Nat.eq_zero_or_pos
abbrev gP := @List.length_drop
abbrev gQ := @List.drop_eq_nil_of_le
abbrev gR := @Nat.beq_eq
abbrev gS := @Option.map_some
abbrev gT := @Nat.div_eq_of_lt
abbrev gU := @List.nodup_cons
abbrev gV := @List.getElem?_set_ne
abbrev gW := @Nat.mul_le_mul
abbrev gX := @Nat.pow_le_pow_right
abbrev gY := @List.drop_drop
abbrev gZ := @Nat.min_eq_left
abbrev gc := @List.eq_nil_of_length_eq_zero
abbrev ge := @List.length_set
abbrev gg := @List.mem_cons
abbrev gh := @List.append_nil
abbrev gi := @Nat.lt_of_mul_lt_mul_right
abbrev gj := @List.length_zip
abbrev gk := @List.mem_append_left
abbrev gm := @List.zip_cons_cons
abbrev gn := @Nat.mod_mod
abbrev gp := @List.drop_zero
abbrev gq := @List.getElem?_map
abbrev gr := @Nat.lt_succ_of_lt
abbrev gt := @Nat.lt_trichotomy
abbrev gu := @Nat.mod_add_div
abbrev gv := @Nat.add_sub_cancel
abbrev gw := @List.take_append_drop
abbrev gx := @List.getElem?_take_of_lt
abbrev gy := @List.getElem?_set_self
abbrev gz := @Nat.div_le_self
abbrev g0 := @List.getD_eq_getElem?_getD
abbrev g8 := @List.take_zero
abbrev g9 := @Int.ofNat_eq_natCast
abbrev hX := @List.getElem?_drop
abbrev hY := @Nat.mul_lt_mul_of_pos_right
inductive AH (α:Type) where
 | leaf
 | node (v:Option α) (l r:AH α)
namespace AH
variable{α:Type}
def get:AH α→Nat→Option α
 | .leaf,_=>none
 | .node v l r,k=>match k with
  | 0=>v
  | k+1=>bif Nat.beq (k % 2) 0 then l.get (k / 2)else r.get (k / 2)
def val:AH α→Option α
 | .leaf=>none
 | .node v _ _=>v
def left:AH α→AH α
 | .leaf=>.leaf
 | .node _ l _=>l
def right:AH α→AH α
 | .leaf=>.leaf
 | .node _ _ r=>r
def bZ(v:Option α)(l r:AH α):AH α:=
 match l with
 | .leaf=>.node v .leaf r
 | .node x a b=>.node v (.node x a b) r
def be(v:Option α)(l r:AH α):AH α:=
 match r with
 | .leaf=>.node v l .leaf
 | .node x a b=>.node v l (.node x a b)
def setF(v:Option α):Nat→AH α→Nat→AH α
 | 0,t,_=>t
 | f+1,t,k=>match k with
  | 0=>.node v t.left t.right
  | k+1=>bif Nat.beq (k % 2) 0 then bZ t.val (setF v f t.left (k / 2)) t.right
   else be t.val t.left (setF v f t.right (k / 2))
def put(t:AH α)(k:Nat)(v:Option α):AH α:=setF v (k+1) t k
def set(t:AH α)(k:Nat)(v:α):AH α:=t.put k (some v)
def del(t:AH α)(k:Nat):AH α:=t.put k none
theorem beq_no{a b:Nat}(h:¬ a=b):Nat.beq a b=false:=by
 cases e:Nat.beq a b with
 | false=>rfl
 | true=>exact absurd (fW e) h
theorem nodeL_eq(v:Option α)(l r:AH α):bZ v l r=.node v l r:=by cases l<;>rfl
theorem nodeR_eq(v:Option α)(l r:AH α):be v l r=.node v l r:=by cases r<;>rfl
theorem Jr(t:AH α):t.get 0=t.val:=by cases t<;>rfl
theorem Cy(t:AH α)(k:Nat):t.get (k+1)=if k % 2=0 then t.left.get (k / 2)else t.right.get (k / 2):=by
 cases t with
 | leaf=>simp[get,left,right]
 | node v l r =>
  by_cases h:k % 2=0
  ·simp[get,left,h]
  ·have:Nat.beq (k % 2) 0=false:=beq_no h
   simp[get,right,h,this]
def mapO{β:Type}(f:α→Option β):AH α→AH β
 | .leaf=>.leaf
 | .node v l r=>.node (v.bind f) (mapO f l) (mapO f r)
theorem get_mapO{β:Type}(f:α→Option β):∀ (t:AH α)(k:Nat),(t.mapO f).get k=(t.get k).bind f
 | .leaf,_=>rfl
 | .node v l r,0=>rfl
 | .node v l r,k+1=>by
  show(bif Nat.beq (k % 2) 0 then (mapO f l).get (k / 2)else (mapO f r).get (k / 2))=(bif Nat.beq (k % 2) 0 then l.get (k / 2)else r.get (k / 2)).bind f
  cases Nat.beq (k % 2) 0 with
  | true=>exact get_mapO f l (k / 2)
  | false=>exact get_mapO f r (k / 2)
theorem XW       (v : Option α) : ∀ (f : Nat) (t : AH   α) (k j : Nat), k < f → (setF v f t k).get j = if j = k then v else t.get j := by
  intro f
  induction f with
  | zero=>intro t k j h;omega
  | succ f ih =>
    intro t k j h
    cases k with
    | zero =>
      cases j with
      | zero=>simp[setF,Jr,val]
      | succ j=>simp[setF,Cy,left,right]
    | succ k =>
      by_cases hk:k % 2=0
      · have hb:Nat.beq (k % 2) 0=true:=by rw[hk];rfl
        simp only[setF,hb,cond_true,nodeL_eq]
        cases j with
        | zero=>simp[Jr,val]
        | succ j =>
          by_cases hj:j % 2=0
          · rw[Cy,Cy,if_pos hj,if_pos hj]
            simp only[left]
            rw[ih _ _ _ (by omega)]
            by_cases e:j=k
            · subst e;simp
            · rw[if_neg (by omega),if_neg (by omega)]
          · rw[Cy,Cy,if_neg hj,if_neg hj,if_neg (by omega)]
            simp only[right]
      · have hb:Nat.beq (k % 2) 0=false:=beq_no hk
        simp only[setF,hb,cond_false,nodeR_eq]
        cases j with
        | zero=>simp[Jr,val]
        | succ j =>
          by_cases hj:j % 2=0
          · rw[Cy,Cy,if_pos hj,if_pos hj,if_neg (by omega)]
            simp only[left]
          · rw[Cy,Cy,if_neg hj,if_neg hj]
            simp only[right]
            rw[ih _ _ _ (by omega)]
            by_cases e:j=k
            · subst e;simp
            · rw[if_neg (by omega),if_neg (by omega)]
theorem SD(t:AH α)(k j:Nat)(v:Option α):(t.put k v).get j=if j=k then v else t.get j:=XW v _ t k j (by omega)
theorem get_set(t:AH α)(k j:Nat)(v:α):(t.set k v).get j=if j=k then some v else t.get j:=SD t k j _
theorem get_del(t:AH α)(k j:Nat):(t.del k).get j=if j=k then none else t.get j:=SD t k j _
def fill(t:AH α)(k:Nat):List α→AH α
 | []=>t
 | v::l=>fill (t.set k v) (k+1) l
theorem get_fill(l:List α):∀ (t:AH α)(k j:Nat),(t.fill k l).get j=if k≤j∧j<k+l.length then l[j - k]? else t.get j:=by
  induction l with
  | nil=>intro t k j;simp[fill];omega
  | cons v l ih =>
    intro t k j
    simp only[fill,ih,get_set,gH]
    by_cases h1:k+1≤j∧j<k+1+l.length
    · rw [if_pos h1, if_pos (by omega), show j - k = (j - (k + 1)) + 1 from by omega]
      rfl
    · rw[if_neg h1]
      by_cases h2:j=k
      · subst h2;simp
      · rw[if_neg h2,if_neg (by omega)]
def take(t:AH α)(k:Nat):Nat→Option (List α)
 | 0=>some []
 | n+1=>match t.get k with
  | none=>none
  | some v=>match take t (k+1) n with
   | none=>none
   | some l=>some (v::l)
theorem take_length{t:AH α}{k n:Nat}{l:List α}(h:t.take k n=some l):l.length=n:=by
  induction n generalizing k l with
  | zero=>simp[take]at h;subst h;rfl
  | succ n ih =>
    simp only[take]at h
    split at h
    · cases h
    · split at h
      · cases h
      · rename_i h2;injection h with h;subst h;simp[ih h2]
theorem take_get {t : AH   α} {k n : Nat} {l : List α} (h : t.take k n = some l) (j : Nat) (hj : j < n) : t.get (k + j) = l[j]? := by
  induction n generalizing k l j with
  | zero=>omega
  | succ n ih =>
    simp only[take]at h
    split at h
    · cases h
    · rename_i v hv
      split at h
      · cases h
      · rename_i l' h2
        injection h with h
        subst h
        cases j with
        | zero=>simpa using hv
        | succ j=>rw[show k+(j+1)=k+1+j from by omega,ih h2 j (by omega)];rfl
end AH
end
end Go.Proofs.YtdmgdlbodeemeaaGreatDoor.Am
namespace Go.Proofs.YtdmgdlbodeemeaaGreatDoor.Am
open Go
noncomputable section
inductive AV where
 | bool (b:Bool)
 | int (k:IntKind) (n:Int)
 | str (s:List Nat)
 | ptr (a:Option (Nat×Nat))
 | gptr (g o:Nat)
 | slice (a:Option (Nat×Nat)) (len:Nat) (cap:Option Nat)
 | map (r:Option Nat)
 | func (f:FuncId) (first cap:List AV)
 | yield (l:Nat)
 | nilFunc
 | iface (t:TypeId) (v:AV)
 | nilIface
 | agg (cs:List AV)
 | tuple (vs:List AV)
 | junk
def BV:AV:=.tuple []
def AV.cells:AV→List AV
 | .agg cs=>cs
 | v=>[v]
def AV.isCell:AV→Bool
 | .agg _ | .tuple _ | .junk=>false
 | _=>true
def Ar:List AV→Bool
 | []=>true
 | v::l=>v.isCell && Ar l
inductive ND where
 | ro | own | sealed
structure B7 where
 elem:TypeId
 sz:Nat
 n:Nat
 c:AH AV
 spare:Bool
 mode:ND
 par:Option Nat
 bytes:Bool
 glob:Option Nat:=none
inductive CX where
 | loc (i:Nat)
 | var (j:Nat)
 | const (v:AV)
inductive Made where
 | ptr | slice (n:Nat) | map
structure EE where
 state:LoopState
 pending:Option Code
 fn:FuncId
 var:List AV
 params:Array Tmp
 assign:Code
 body:Code
 dfr:Nat
inductive Af where
 | row (r:B7)
 | map (kt:TypeId) (es:List (AV×AV))
 | mapRo (kt:TypeId) (es:List (AV×AV))
 | loop (l:EE)
 | mark
 | iter (s:List Nat) (pos:Nat)
structure AD where
 next:Nat
 heap:AH Af
def HW:Value→Option AV
 | .bool b=>some (.bool b)
 | .int k n=>some (.int k n)
 | .string s=>some (.str (s.data.toList.map (fun(b:UInt8)=>b.toNat)))
 | .pointer none=>some (.ptr none)
 | .slice none 0 0=>some (.slice none 0 (some 0))
 | .map none=>some (.map none)
 | .nilFunc=>some .nilFunc
 | .nilIface=>some .nilIface
 | _=>none
def Dw:List Value→Option (List AV)
 | []=>some []
 | v::l=>(HW v).bind fun a=>(Dw l).bind fun r=>some (a::r)
def ofValue:Value→Option AV
 | .agg cs=>(Dw cs.toList).bind fun l=>some (.agg l)
 | .tuple vs=>(Dw vs.toList).bind fun l=>some (.tuple l)
 | v=>HW v
def AG{α:Type}(b:Bool)(x:Option α):Option α:=bif b then x else none
def C4{α:Type}(P:Program):Sem α→Option α
 | .pure a=>some a
 | .program k=>C4 P (k P)
 | .mark _ k=>C4 P k
 | _=>none
def BZ(k:IntKind):Int→Bool
 | .ofNat m=>match k with
  | .i64=>Nat.ble m 9223372036854775807
  | .u64=>Nat.ble m 18446744073709551615
  | .i32=>Nat.ble m 2147483647
  | .u32=>Nat.ble m 4294967295
  | .u8=>Nat.ble m 255
  | .i8=>Nat.ble m 127
  | .u16=>Nat.ble m 65535
  | .i16=>Nat.ble m 32767
 | .negSucc m=>match k with
  | .i64=>Nat.ble m 9223372036854775807
  | .i32=>Nat.ble m 2147483647
  | .i8=>Nat.ble m 127
  | .i16=>Nat.ble m 32767
  | _=>false
def CL(k:IntKind)(n:Int):Int:=bif BZ k n then n else k.wrap n
def Ku:Int→Int→Bool
 | .ofNat a,.ofNat b=>Nat.blt a b
 | .ofNat _,.negSucc _=>false
 | .negSucc _,.ofNat _=>true
 | .negSucc a,.negSucc b=>Nat.blt b a
def MT:Int→Int→Bool
 | .ofNat a,.ofNat b=>Nat.beq a b
 | .negSucc a,.negSucc b=>Nat.beq a b
 | _,_=>false
def SJ:Int→Option Nat
 | .ofNat m=>some m
 | .negSucc _=>none
def CB:List Nat→List Nat→Bool
 | [],[]=>true
 | a::x,b::y=>bif Nat.beq a b then CB x y else false
 | _,_=>false
def F1:List Nat→List Nat→Bool
 | _,[]=>false
 | [],_::_=>true
 | a::x,b::y=>bif Nat.blt a b then true else bif Nat.beq a b then F1 x y else false
def SV(op:BinOp)(x y:List Nat):Option AV:=
 match op with
 | .add=>AG (Nat.ble (x.length+y.length) 1152921504606846976) (some (.str (x++y)))
 | .eql=>some (.bool (CB x y))
 | .neq=>some (.bool (!CB x y))
 | .lss=>some (.bool (F1 x y))
 | .leq=>some (.bool (F1 x y || CB x y))
 | .gtr=>some (.bool (!(F1 x y || CB x y)))
 | .geq=>some (.bool (!F1 x y))
 | _=>none
def ED(P:Program)(t:TypeId):Option Bool:=
 match P.underlying t with
 | some (.struct _) | some (.array _ _)=>some true
 | some _=>some false
 | none=>none
def A3(P:Program)(t:TypeId):Option Nat:=match P.info? t with
 | some i=>some i.size
 | none=>none
def DU(P:Program)(t:TypeId):Option AV:=match P.info? t with
 | some i=>match i.zero with
  | some v=>ofValue v
  | none=>none
 | none=>none
def Cx(P:Program)(t:TypeId):Option Nat:=match P.info? t with
 | some i=>some i.bytes
 | none=>none
def rowAt(s:AD)(i:Nat):Option B7:=match s.heap.get i with
 | some (.row r)=>some r
 | _=>none
def newObj(s:AD)(o:Af):AD:={ next:=s.next+1,heap:=s.heap.set s.next o }
def Fq(elem:TypeId)(sz:Nat)(cells:List AV):Af:=
 .row { elem,sz,n:=cells.length,c:=AH.fill .leaf 0 cells,spare:=false,mode:=.own,par:=none,bytes:=true }
def setObj(s:AD)(i:Nat)(o:Af):AD:={ s with heap:=s.heap.set i o }
def Bu(s:AD)(i:Nat):AD:={ s with heap:=s.heap.del i }
def Be(s:AD)(i off n:Nat):Option (List AV):=
 (rowAt s i).bind fun r=>AG (Nat.ble (off+n) r.n) (r.c.take off n)
def Cb(s:AD)(i off:Nat):Option AV:=
 (rowAt s i).bind fun r=>AG (Nat.blt off r.n) (r.c.get off)
def BC(s:AD)(i:Nat)(r:B7):AD:=match r.par with
 | none=>s
 | some p=>bif Nat.beq p i then s else Bu s p
def CQ:ND→Bool
 | .own=>true
 | _=>false
def CD(s:AD)(i off:Nat)(vs:List AV):Option AD:=
 match vs with
 | []=>some s
 | _::_=>(rowAt s i).bind fun r =>
  AG (CQ r.mode && Nat.ble (off+vs.length) r.n && Ar vs)
   (some (setObj (BC s i r) i (.row { r with c:=r.c.fill off vs,par:=none })))
def MX(s:AD)(g:Nat):Option B7:=(rowAt s g).bind fun r=>match r.glob with
 | some g'=>AG (Nat.beq g' g) (some r)
 | none=>none
def AE(P:Program)(s:AD)(t:TypeId):AV→Option AV
 | .gptr i o=>(MX s i).bind fun _=>(ED P t).bind fun g=>match g with
  | true=>(A3 P t).bind fun n=>(Be s i o n).bind fun l=>some (.agg l)
  | false=>Cb s i o
 | .ptr (some (i,o))=>(ED P t).bind fun g=>match g with
  | true=>(A3 P t).bind fun n=>(Be s i o n).bind fun l=>some (.agg l)
  | false=>Cb s i o
 | _=>none
def Aa(P:Program)(s:AD)(t:TypeId)(a v:AV):Option AD:=
 match a with
 | .ptr (some (i,o))=>(A3 P t).bind fun n=>AG (Nat.beq v.cells.length n) (CD s i o v.cells)
 | _=>none
def Fj(P:Program)(t:TypeId):Bool:=match P.underlying t with
 | some (.pointer _)=>true
 | _=>false
def HM(P:Program)(t:TypeId):Bool:=match P.underlying t with
 | some (.slice _)=>true
 | _=>false
def H7(P:Program)(t:TypeId):Bool:=match P.underlying t with
 | some (.map ..)=>true
 | _=>false
def HL(P:Program)(t:TypeId):Bool:=match P.underlying t with
 | some (.func ..)=>true
 | _=>false
def MY(P:Program)(t:TypeId):Bool:=match P.underlying t with
 | some .bool=>true
 | _=>false
def Z7(P:Program)(t:TypeId):AV→AV→Option Bool
 | .bool a,.bool b=>AG (MY P t) (some (a == b))
 | .ptr none,.ptr b=>AG (Fj P t) (some b.isNone)
 | .ptr a,.ptr none=>AG (Fj P t) (some a.isNone)
 | .slice none _ _,.slice b _ _=>AG (HM P t) (some b.isNone)
 | .slice a _ _,.slice none _ _=>AG (HM P t) (some a.isNone)
 | .map none,.map b=>AG (H7 P t) (some b.isNone)
 | .map a,.map none=>AG (H7 P t) (some a.isNone)
 | .nilFunc,.nilFunc=>AG (HL P t) (some true)
 | .func ..,.nilFunc=>AG (HL P t) (some false)
 | .nilFunc,.func ..=>AG (HL P t) (some false)
 | _,_=>none
def Bn:IntKind→IntKind→Bool
 | .i8,.i8 | .i16,.i16 | .i32,.i32 | .i64,.i64 | .u8,.u8 | .u16,.u16 | .u32,.u32 | .u64,.u64=>true
 | _,_=>false
def XZ(P:Program)(op:BinOp)(k:IntKind)(a b:Int):Option AV:=
 match op with
 | .add=>some (.int k (CL k (a+b)))
 | .sub=>some (.int k (CL k (a - b)))
 | .mul=>some (.int k (CL k (a * b)))
 | .eql=>some (.bool (MT a b))
 | .neq=>some (.bool (!MT a b))
 | .lss=>some (.bool (Ku a b))
 | .leq=>some (.bool (!Ku b a))
 | .gtr=>some (.bool (Ku b a))
 | .geq=>some (.bool (!Ku a b))
 | .quo | .rem=>(C4 P (Op.intDiv op k a b)).bind ofValue
 | .shl | .shr=>none
 | _=>(C4 P (Op.intBits op k a b)).bind ofValue
def AM(P:Program)(op:BinOp)(t:TypeId)(x y:AV):Option AV:=
 match x,y with
 | .int k a,.int k' b=>match op with
  | .shl | .shr=>(C4 P (Op.shift op k a k' b)).bind ofValue
  | _=>AG (Bn k k') (XZ P op k a b)
 | .str a,.str b=>SV op a b
 | x,y=>match op with
  | .eql=>(Z7 P t x y).bind fun b=>some (.bool b)
  | .neq=>(Z7 P t x y).bind fun b=>some (.bool (!b))
  | _=>none
def Xh(P:Program)(t:TypeId):Bool:=match P.underlying t with
 | some (.pointer e)=>(match P.info? e with | some j=>!Nat.beq j.size 0 | none=>false)
 | _=>false
def Gt(s:AD)(i:Nat):Bool:=match rowAt s i with
 | some r=>CQ r.mode && r.par.isNone
 | none=>false
def IE(P:Program)(s:AD)(neg:Bool)(t:TypeId)(x y:AV):Option AV:=
 match x,y with
 | .ptr (some (i,o)),.ptr (some (j,q))=>AG (Xh P t && Gt s i && Gt s j) (some (.bool ((Nat.beq i j && Nat.beq o q) != neg)))
 | x,y=>AM P (bif neg then .neq else .eql) t x y
def dF(P:Program)(op:UnOp):AV→Option AV
 | .int k n=>match op with
  | .neg=>some (.int k (CL k (0 - n)))
  | .xor=>(C4 P (Op.unary .xor (.int k n))).bind ofValue
  | _=>none
 | .bool b=>match op with
  | .not=>some (.bool (!b))
  | _=>none
 | _=>none
def Jo(place:Nat→Option (Nat×Nat))(cells:List AV):List (Nat×AV)→Option (List AV)
 | []=>some cells
 | (i,v)::rest=>(place i).bind fun p =>
  AG (Nat.beq v.cells.length p.2 && Nat.ble (p.1+v.cells.length) cells.length)
   (Jo place (cells.take p.1++(v.cells++cells.drop (p.1+v.cells.length))) rest)
def D4(P:Program):List Field→Option (List (Nat×Nat))
 | []=>some []
 | f::l=>(A3 P f.type).bind fun n=>(D4 P l).bind fun r=>some ((f.offset,n)::r)
def E4(P:Program)(t:TypeId)(parts:List (Nat×AV)):Option AV:=
 (DU P t).bind fun z=>match P.underlying t with
  | some (.struct fields)=>(D4 P fields.toList).bind fun places =>
   (Jo (fun i=>places[i]?) z.cells parts).bind fun l=>some (.agg l)
  | some (.array _ e)=>(A3 P e).bind fun n =>
   (Jo (fun i=>some (i * n,n)) z.cells parts).bind fun l=>some (.agg l)
  | _=>none
def P3(l:List AV):Nat→List AV
 | 0=>[]
 | n+1=>l++P3 l n
def Ak(P:Program)(t:TypeId)(len:Nat)(parts:List (Nat×AV)):Option Af:=
 match P.underlying t with
 | some (.slice e)=>(A3 P e).bind fun n=>AG (Nat.ble (len * n) 16777216) <|
  (DU P e).bind fun z=>AG (Nat.beq z.cells.length n) <|
   (Jo (fun i=>some (i * n,n)) (P3 z.cells len) parts).bind fun l=>some (Fq e n l)
 | _=>none
def Ae(P:Program)(s:AD)(src dst:TypeId)(x:AV):Option AV:=
 match P.underlying src,P.underlying dst,x with
 | some _,some (.int k),.int _ n=>some (.int k (CL k n))
 | some _,some .string,.str l=>some (.str l)
 | some (.slice e),some .string,.slice a len _=>match P.underlying e with
  | some (.int .u8)=>match a with
   | none=>some (.str [])
   | some (i,o)=>(Be s i o len).bind fun l=>(bytesOf l).bind fun b=>some (.str b)
  | _=>none
 | some (.pointer u),some .unsafePointer,x=>seenPtr u x
 | some .unsafePointer,some (.pointer u),x=>seenPtr u x
 | _,_,_=>none
where
 seenPtr (u:TypeId):AV→Option AV
  | .ptr none=>some (.ptr none)
  | .ptr (some (i,o))=>(rowAt s i).bind fun r=>(A3 P u).bind fun n =>
   AG (CQ r.mode && r.bytes && Nat.beq o 0 && Nat.beq r.elem u && Nat.ble n r.n && !Nat.beq n 0) (some (.ptr (some (i,o))))
  | _=>none
 bytesOf:List AV→Option (List Nat)
  | []=>some []
  | .int .u8 (.ofNat n)::l=>AG (Nat.blt n 256) ((bytesOf l).bind fun r=>some (n::r))
  | _::_=>none
def GW:AV→Option Nat
 | .int _ n=>SJ n
 | _=>none
def BT(x:AV)(y:Nat):Option Nat:=(GW x).bind fun i=>AG (Nat.ble i y) (some i)
def Bf(P:Program)(s:AD)(t:TypeId)(x:AV)(lo hi mx:Option AV):Option AV:=
 match x with
 | .str l=>(match mx with | some _=>none | none=>some ()).bind fun _ =>
  (match hi with | some h=>BT h l.length | none=>some l.length).bind fun h =>
  (match lo with | some v=>BT v h | none=>some 0).bind fun o =>
  (match P.underlying t with | some .string=>some () | _=>none).bind fun _=>some (.str ((l.drop o).take (h - o)))
 | .slice a len cap=>match P.underlying t with
  | some (.slice e)=>(A3 P e).bind fun n =>
   (match cap with
    | some c=>some c
    | none=>match a with
     | none=>none
     | some (i,o)=>(rowAt s i).bind fun r=>AG (Nat.ble o r.n && Nat.beq n r.sz && !Nat.beq n 0) (some ((r.n - o) / n))).bind fun far =>
   (match mx with | some m=>(BT m far).bind fun c=>AG (cap.isSome || Nat.blt 0 far) (some (some c)) | none=>some cap).bind fun m =>
   (match hi,m with
    | some h,some c=>BT h c
    | some h,none=>BT h far
    | none,some c=>(match mx with | none=>some len | some _=>(fun(_:Nat)=>none) c)
    | none,none=>some len).bind fun h =>
   (match lo with | some v=>BT v h | none=>some 0).bind fun l =>
   some (.slice
    (match a with
     | none=>none
     | some (i,o)=>match m with
      | some c=>bif Nat.beq c l then some (i,o)else some (i,o+l * n)
      | none=>some (i,o+l * n))
    (h - l) (match m with | some c=>some (c - l) | none=>none))
  | _=>none
 | .ptr (some (i,o))=>match P.underlying t with
  | some (.array len e)=>arr len e i o
  | some (.pointer u)=>match P.underlying u with
   | some (.array len e)=>arr len e i o
   | _=>none
  | _=>none
 | _=>none
where
 arr (len:Nat) (e:TypeId) (i o:Nat):Option AV:=(A3 P e).bind fun n =>
  (match mx with | some m=>BT m len | none=>some len).bind fun m =>
  (match hi with | some h=>BT h m | none=>match mx with | none=>some len | some _=>none).bind fun h =>
  (match lo with | some v=>BT v h | none=>some 0).bind fun l =>
  some (.slice (some (i,bif Nat.beq m l then o else o+l * n)) (h - l) (some (m - l)))
def AO(P:Program)(t:TypeId)(x:AV)(f:Nat):Option AV:=
 match x with
 | .ptr (some (i,o))=>match P.underlying t with
  | some (.struct fs)=>(fs[f]?).bind fun fd=>(A3 P fd.type).bind fun n =>
   AG (!Nat.beq n 0) (some (.ptr (some (i,o+fd.offset))))
  | _=>none
 | _=>none
def SN(P:Program)(t:TypeId)(cs:List AV)(off:Nat):Option AV:=
 (ED P t).bind fun g=>match g with
  | true=>(A3 P t).bind fun n=>some (.agg ((cs.drop off).take n))
  | false=>cs[off]?
def Pb(P:Program)(t:TypeId)(x:AV)(f:Nat):Option AV:=
 match x with
 | .agg cs=>match P.underlying t with
  | some (.struct fs)=>(fs[f]?).bind fun fd=>SN P fd.type cs fd.offset
  | _=>none
 | _=>none
def AP(P:Program)(t:TypeId)(x ix:AV):Option AV:=
 (GW ix).bind fun k=>match x with
  | .ptr (some (i,o))=>match P.underlying t with
   | some (.array len e)=>(A3 P e).bind fun n=>AG (Nat.blt k len) (some (.ptr (some (i,o+k * n))))
   | _=>none
  | .gptr g o=>match P.underlying t with
   | some (.array len e)=>(A3 P e).bind fun n=>AG (Nat.blt k len) (some (.gptr g (o+k * n)))
   | _=>none
  | .slice (some (i,o)) len _=>match P.underlying t with
   | some (.slice e)=>(A3 P e).bind fun n=>AG (Nat.blt k len) (some (.ptr (some (i,o+k * n))))
   | _=>none
  | _=>none
def Ph(P:Program)(t:TypeId)(x ix:AV):Option AV:=
 (GW ix).bind fun k=>match x with
  | .agg cs=>match P.underlying t with
   | some (.array len e)=>(A3 P e).bind fun n=>AG (Nat.blt k len) (SN P e cs (k * n))
   | _=>none
  | .str l=>match P.underlying t with
   | some .string=>(l[k]?).bind fun b=>some (.int .u8 (.ofNat b))
   | _=>none
  | _=>none
def IB:AV→Option AV
 | .ptr none | .nilIface | .nilFunc | .junk=>none
 | v=>some v
def Za(x:AV)(i:Nat):Option AV:=
 match x with
 | .tuple vs=>vs[i]?
 | _=>none
def Ru(c a b:AV):Option AV:=
 match c with
 | .bool true=>some a
 | .bool false=>some b
 | _=>none
def FG(mx:Bool):AV→List AV→Option AV
 | v,[]=>some v
 | .int k a,.int k' b::l=>AG (Bn k k') (FG mx (.int k (bif (bif mx then Ku a b else Ku b a)then b else a)) l)
 | _,_=>none
def Ib:AV→AV→Option Bool
 | .int k a,.int k' b=>AG (Bn k k') (some (MT a b))
 | .str a,.str b=>some (CB a b)
 | .agg a,.agg b=>keysEq a b
 | _,_=>none
where
 keysEq:List AV→List AV→Option Bool
 | [],[]=>some true
 | .int k a::x,.int k' b::y=>AG (Bn k k') ((keysEq x y).bind fun r=>some (MT a b && r))
 | .str a::x,.str b::y=>(keysEq x y).bind fun r=>some (CB a b && r)
 | _,_=>none
def Fg(k:AV):List (AV×AV)→Nat→Option (Option (Nat×AV))
 | [],_=>some none
 | (k',v)::l,i=>(Ib k k').bind fun e=>match e with
  | true=>some (some (i,v))
  | false=>Fg k l (i+1)
def GZ(P:Program):Nat→TypeId→List AV→Bool
 | 0,_,_=>false
 | d+1,t,cs=>match P.underlying t with
  | some (.int q)=>match cs with
   | [.int q' n]=>Bn q' q && BZ q n
   | _=>false
  | some .string=>match cs with
   | [.str l]=>Nat.ble l.length 1099511627776
   | _=>false
  | some (.array n e)=>Nat.beq cs.length (P.cellsOf t) && (List.range n).all fun i=>GZ P d e ((cs.drop (i * P.cellsOf e)).take (P.cellsOf e))
  | some (.struct fs)=>Nat.beq cs.length (P.cellsOf t) && fs.toList.all fun f=>GZ P d f.type ((cs.drop f.offset).take (P.cellsOf f.type))
  | _=>false
def En(P:Program)(t:TypeId)(k:AV):Bool:=match P.underlying t with
 | some (.array _ _) | some (.struct _)=>match k with
  | .agg cs=>GZ P 4 t cs
  | _=>false
 | _=>GZ P 1 t [k]
def EQ(P:Program)(t:TypeId):Bool:=match P.underlying t with
 | some (.int _) | some .string=>true
 | some (.array _ _) | some (.struct _)=>P.keyType t && (P.tiled (P.types.size+1) t && (Nat.ble 4 P.types.size && Nat.ble P.types.size 9990))
 | _=>false
def Ga(P:Program)(t:TypeId):Bool:=match P.underlying t with
 | some (.map kt _)=>EQ P kt
 | _=>false
def S6(P:Program)(t:TypeId):Option TypeId:=match P.underlying t with
 | some (.map kt _)=>some kt
 | _=>none
def KA(s:AD)(kt:TypeId)(i:Nat):Option (List (AV×AV)):=match s.heap.get i with
 | some (.map kt' es)=>AG (Nat.beq kt' kt) (some es)
 | _=>none
def SI(s:AD)(kt:TypeId)(i:Nat):Option (List (AV×AV)):=match s.heap.get i with
 | some (.map kt' es)=>AG (Nat.beq kt' kt) (some es)
 | some (.mapRo kt' es)=>AG (Nat.beq kt' kt) (some es)
 | _=>none
def GD(P:Program)(s:AD)(t:TypeId)(m k:AV)(ok:Bool):Option AV:=
 match P.underlying t with
 | some (.map kt et)=>AG (En P kt k) <|
  (match m with
   | .map none=>some []
   | .map (some i)=>SI s kt i
   | _=>none).bind fun es=>(Fg k es 0).bind fun r =>
   (match r with
    | some (_,v)=>some (v,true)
    | none=>(DU P et).bind fun z=>some (z,false)).bind fun p=>some (bif ok then .tuple [p.1,.bool p.2]else p.1)
 | _=>none
def setNth(es:List (AV×AV))(i:Nat)(v:AV):List (AV×AV):=
 match es,i with
 | [],_=>[]
 | (k,_)::l,0=>(k,v)::l
 | e::l,i+1=>e::setNth l i v
def YK(k v:AV)(es:List (AV×AV)):Option (List (AV×AV)):=(Fg k es 0).bind fun r=>match r with
 | some (j,_)=>some (setNth es j v)
 | none=>some (es++[(k,v)])
def M6(P:Program)(s:AD)(t:TypeId)(m k v:AV):Option AD:=
 match P.underlying t,m with
 | some (.map kt _),.map (some i)=>AG (En P kt k) <|
  (KA s kt i).bind fun es=>(YK k v es).bind fun es'=>some (setObj s i (.map kt es'))
 | _,_=>none
def delNth(es:List (AV×AV))(i:Nat):List (AV×AV):=
 match es,i with
 | [],_=>[]
 | _::l,0=>l
 | e::l,i+1=>e::delNth l i
def I5(P:Program)(s:AD)(t:TypeId)(m k:AV):Option AD:=
 match P.underlying t with
 | some (.map kt _)=>AG (En P kt k) <| match m with
  | .map none=>some s
  | .map (some i)=>(KA s kt i).bind fun es=>(Fg k es 0).bind fun r=>match r with
    | some (j,_)=>some (setObj s i (.map kt (delNth es j)))
    | none=>some s
  | _=>none
 | _=>none
def Bk(P:Program)(s:AD)(t:TypeId):AV→Option AV
 | .str l=>match P.underlying t with
  | some .string=>some (.int .i64 (.ofNat l.length))
  | _=>none
 | .slice _ n _=>match P.underlying t with
  | some (.slice _)=>some (.int .i64 (.ofNat n))
  | _=>none
 | .map none=>match P.underlying t with
  | some (.map ..)=>some (.int .i64 (.ofNat 0))
  | _=>none
 | .map (some i)=>match P.underlying t with
  | some (.map ..)=>match s.heap.get i with
   | some (.map _ es)=>some (.int .i64 (.ofNat es.length))
   | some (.mapRo _ es)=>some (.int .i64 (.ofNat es.length))
   | _=>none
  | _=>none
 | _=>none
def Sq(P:Program)(s:AD)(t:TypeId):AV→Option AV
 | .slice a _ cap=>match P.underlying t with
  | some (.slice e)=>match cap with
   | some c=>some (.int .i64 (.ofNat c))
   | none=>match a with
    | some (i,o)=>(A3 P e).bind fun n=>(rowAt s i).bind fun r=>AG (!r.spare && Nat.ble o r.n && Nat.beq n r.sz && !Nat.beq n 0) (some (.int .i64 (.ofNat ((r.n - o) / n))))
    | none=>none
  | _=>none
 | _=>none
def XG:AV→Option AV
 | .slice none _ _=>some (.ptr none)
 | .slice (some (i,o)) (_+1) _=>some (.ptr (some (i,o)))
 | _=>none
def Made.val(i:Nat):Made→AV
 | .ptr=>.ptr (some (i,0))
 | .slice n=>.slice (some (i,0)) n (some n)
 | .map=>.map (some i)
def As(P:Program)(e:TypeId):Option (Af×Made):=(DU P e).bind fun z=>some (Fq e 0 z.cells,.ptr)
def Cr(e:TypeId)(v:AV):Option (Af×Made):=some (Fq e 0 v.cells,.ptr)
def Bv(P:Program)(t:TypeId)(l c:AV):Option (Af×Made):=
 match P.underlying t,l,c with
  | some (.slice e),.int .i64 (.ofNat l),.int .i64 (.ofNat c)=>(Cx P e).bind fun by_=>(A3 P e).bind fun n =>
   AG (Nat.beq l c && Nat.ble (by_ * c) 1099511627776 && Nat.ble c 1099511627776) <|
   (DU P e).bind fun z=>AG (Nat.beq z.cells.length n) (some (Fq e n (P3 z.cells c),.slice c))
  | _,_,_=>none
def Pk(P:Program)(t:TypeId):Bool:=match P.underlying t with
 | some (.int _)=>true
 | _=>false
def QF(s:AD)(i o n size:Nat):Option (List AV):=bif Nat.beq n 0 then some []else Be s i o (n * size)
def B1(P:Program)(s:AD)(e:TypeId)(size:Nat):AV→Option (Nat×List AV)
 | .int _ (.ofNat n)=>AG (Nat.ble n 1099511627776 && Nat.blt 0 n) ((DU P e).bind fun z=>AG (Nat.beq z.cells.length size) (some (n,P3 z.cells n)))
 | .slice none _ _=>some (0,[])
 | .slice (some (i,o)) n _=>(QF s i o n size).bind fun l=>some (n,l)
 | .str l=>AG (Nat.beq size 1) (some (l.length,l.map fun b=>.int .u8 (.ofNat b)))
 | _=>none
def Bs(P:Program)(t:TypeId):Bool:=match P.underlying t with
 | some (.slice _) | some .string=>true
 | _=>false
def CZ(e:TypeId)(sz:Nat)(c:AH AV)(n:Nat)(par:Option Nat)(base:Bool):Af:=
 .row { elem:=e,sz,n,c,spare:=true,mode:=.own,par,bytes:=base }
def Cm(P:Program)(e:TypeId)(size:Nat):Bool:=match DU P e with
 | some z=>Nat.beq z.cells.length size
 | none=>false
def B8(P:Program)(s:AD)(e:TypeId)(size n:Nat)(cells:List AV):Option (AV×AD):=
 AG (Cm P e size) (some (.slice (some (s.next,0)) n none,newObj s (CZ e size (AH.fill .leaf 0 cells) cells.length none true)))
def Ch(s:AD)(i:Nat)(r:B7)(ends:Bool):AD:=
 bif ends then setObj (BC s i r) i (.row { r with mode:=.sealed,par:=none })else Bu (BC s i r) i
def D2(P:Program)(s:AD)(e:TypeId)(size i o len:Nat)(src:Nat×List AV)(r:B7)(old:List AV):Option (AV×AD):=
 AG (CQ r.mode && Nat.beq r.elem e && Cm P e size) <|
  let ends:=Nat.beq (o+len * size) r.n
  let s2:=Ch s i r ends
  some (.slice (some (s.next,0)) (len+src.1) none,
   newObj s2 (CZ e size (bif Nat.beq o 0 then r.c.fill (len * size) src.2 else AH.fill .leaf 0 (old++src.2)) (old++src.2).length (bif ends then some i else none) (r.bytes && Nat.beq o 0)))
def Iy(P:Program)(s:AD)(e:TypeId)(size i o len:Nat)(src:Nat×List AV)(r:B7):Option (AV×AD):=
 AG (Nat.beq size r.sz) <|
 bif Nat.ble (o+(len+src.1) * size) r.n then
  (CD s i (o+len * size) src.2).bind fun s'=>some (.slice (some (i,o)) (len+src.1) none,s')
 else (Be s i o (len * size)).bind fun old =>
  bif r.spare then D2 P s e size i o len src r old else B8 P s e size (len+src.1) (old++src.2)
def FZ(P:Program)(s:AD)(e:TypeId)(size i o len c:Nat)(src:Nat×List AV):Option (AV×AD):=
 bif Nat.ble (len+src.1) c then
  (CD s i (o+len * size) src.2).bind fun s'=>some (.slice (some (i,o)) (len+src.1) (some c),s')
 else (Be s i o (len * size)).bind fun old=>B8 P s e size (len+src.1) (old++src.2)
def appTo(P:Program)(s:AD)(e:TypeId)(size:Nat)(a:Option (Nat×Nat))(len:Nat)(cap:Option Nat)(src:Nat×List AV):Option (AV×AD):=
 match a with
 | none=>bif Nat.beq src.1 0 then some (.slice none 0 (some 0),s)else B8 P s e size src.1 src.2
 | some (i,o)=>match cap with
  | some c=>FZ P s e size i o len c src
  | none=>(rowAt s i).bind fun r=>Iy P s e size i o len src r
def A8(P:Program)(s:AD)(argTypes:List TypeId)(args:List AV):Option (AV×AD):=
 match argTypes,args with
 | [st,xt],[.slice a len cap,x]=>match P.underlying st with
  | some (.slice e)=>(A3 P e).bind fun size=>(Cx P e).bind fun by_ =>
   AG (!Nat.beq size 0 && (match x with | .int ..=>Pk P xt | _=>Bs P xt)) <|
   (B1 P s e size x).bind fun src =>
   AG (Ar src.2 && Nat.ble ((len+src.1) * by_) 1099511627776 && Nat.ble (len+src.1) 1099511627776) <|
   appTo P s e size a len cap src
  | _=>none
 | _,_=>none
def XA(P:Program)(s:AD)(argTypes:List TypeId)(args:List AV):Option (AV×AD):=
 match argTypes,args with
 | dt::_,[.slice a dl _,x]=>match P.underlying dt with
  | some (.slice e)=>(A3 P e).bind fun size =>
   (match x with | .slice _ n _=>some n | .str l=>some l.length | _=>none).bind fun sl =>
   let n:=bif Nat.ble sl dl then sl else dl
   (match x with
    | .slice none _ _=>some []
    | .slice (some (i,o)) _ _=>Be s i o (n * size)
    | .str l=>AG (Nat.beq size 1) (some ((l.take n).map fun b=>.int .u8 (.ofNat b)))
    | _=>none).bind fun cells =>
   (match a with
    | none=>some s
    | some (i,o)=>CD s i o cells).bind fun s'=>some (.int .i64 (.ofNat n),s')
  | _=>none
 | _,_=>none
def R3(r:B7):Af:=.row { r with n:=0,spare:=true,mode:=.ro,par:=none,bytes:=false,glob:=none }
def SY(P:Program)(s:AD)(t:TypeId)(n:Nat):Option (Nat×Nat)→Option (AV×AD)
 | none=>none
 | some (i,o)=>match P.underlying t with
  | some (.pointer e)=>(rowAt s i).bind fun r=>AG (CQ r.mode && r.bytes && Nat.beq o 0 && Nat.beq r.elem e && Nat.ble n 1099511627776) <| (A3 P e).bind fun z=>AG (Nat.beq z 1) <|
   (Be s i o n).bind fun l=>(Ae.bytesOf l).bind fun b=>some (.str b,setObj (BC s i r) i (R3 r))
  | _=>none
def Yz(P:Program)(s:AD)(argTypes:List TypeId)(args:List AV):Option (AV×AD):=
 match argTypes,args with
 | [t,_],[.ptr a,.int .i64 (.ofNat n)]=>match n with
  | 0=>some (.str [],s)
  | n+1=>SY P s t (n+1) a
 | _,_=>none
def X8(s:AD):List AV→Option (AV×AD)
 | [x]=>some (x,s)
 | _=>none
def Mm(e:TypeId)(s:AD):List AV→Option (AV×AD)
 | [.int .i64 (.ofNat n)]=>AG (Nat.ble n 1099511627776) (some (.slice (some (s.next,0)) n none,newObj s (CZ e 1 .leaf n none true)))
 | _=>none
def RX(s:AD):List AV→Option (AV×AD)
 | [.str a,.str b]=>some (.int .i64 (bif F1 a b then -1 else bif CB a b then 0 else 1),s)
 | _=>none
def Nd(P:Program)(name:String)(rt:Array TypeId):Option (AD→List AV→Option (AV×AD)):=
  bif name == "internal/abi.NoEscape" then some X8 else
  bif name == "internal/bytealg.abigen_runtime_cmpstring" then some RX else
  bif name == "internal/bytealg.MakeNoZero" then (match rt.toList with
    | [t]=>match P.underlying t with
      | some (.slice e)=>match A3 P e with
        | some 1=>some (Mm e)
        | _=>none
      | _=>none
    | _=>none)
  else none
def XQ(P:Program)(f:FuncId):Option (AD→List AV→Option (AV×AD)):=match P.funcs[f]? with
  | some fn=>match fn.body with
    | some _=>none
    | none => bif fn.origin == "" then Nd P fn.name fn.resultTypes else none
  | none=>none
def PS(P:Program)(s:AD)(argTypes:List TypeId)(args:List AV):Option (AV×AD):=
 match argTypes,args with
 | t::_,[x]=>match P.underlying t,x with
  | some (.slice _),.slice none _ _=>some (BV,s)
  | some (.slice _),.slice _ 0 _=>some (BV,s)
  | some (.slice e),.slice (some (i,o)) n _=>(DU P e).bind fun z=>(CD s i o (P3 z.cells n)).bind fun s'=>some (BV,s')
  | _,_=>none
 | _,_=>none
inductive Sh where
 | p1 (f:AV→Option AV)
 | p2 (f:AV→AV→Option AV)
 | p (f:List AV→Option AV)
 | r1 (f:AD→AV→Option AV)
 | r (f:AD→List AV→Option AV)
 | mk (f:List AV→Option (Af×Made))
 | e (f:AD→List AV→Option (AV×AD))
 | call (f:FuncId)
 | callv
def Sh.isEff:Sh→Bool
 | .e _ | .call _ | .callv=>true
 | _=>false
def Sh.isRead:Sh→Bool
 | .r1 _ | .r _=>true
 | _=>false
def Rt:List AV→Option AV
 | [c,a,b]=>Ru c a b
 | _=>none
def Xx{α:Type}(f:AV→AV→Option α):List AV→Option α
 | [a,b]=>f a b
 | _=>none
def Xy{α:Type}(f:AV→AV→AV→Option α):List AV→Option α
 | [a,b,c]=>f a b c
 | _=>none
def Xz(x:Option AD):Option (AV×AD):=match x with
 | some s=>some (BV,s)
 | none=>none
def Bg(P:Program)(t:TypeId)(lo hi mx:Bool)(s:AD):List AV→Option AV
 | [x]=>match lo,hi,mx with
  | false,false,false=>Bf P s t x none none none
  | _,_,_=>none
 | [x,a]=>match lo,hi,mx with
  | true,false,false=>Bf P s t x (some a) none none
  | false,true,false=>Bf P s t x none (some a) none
  | _,_,_=>none
 | [x,a,b]=>match lo,hi,mx with
  | true,true,false=>Bf P s t x (some a) (some b) none
  | false,true,true=>Bf P s t x none (some a) (some b)
  | _,_,_=>none
 | [x,a,b,c]=>match lo,hi,mx with
  | true,true,true=>Bf P s t x (some a) (some b) (some c)
  | _,_,_=>none
 | _=>none
def zipIdx(is:List Nat)(l:List AV):List (Nat×AV):=is.zip l
def Fk:Operand→Bool
 | .tmp _=>true
 | _=>false
def YI(P:Program)(op:BinOp)(t:TypeId)(x y:Operand):Option Bool:=match op with
 | .eql=>bif Fk x && Fk y && Fj P t then some false else none
 | .neq=>bif Fk x && Fk y && Fj P t then some true else none
 | _=>none
def Av(P:Program)(o:Op):Option (Sh×List Operand):=
 match o with
 | .move x | .assign x=>some (.p1 some,[x])
 | .pick c a b=>some (.p Rt,[c,a,b])
 | .build t ps=>some (.p (fun l=>E4 P t (zipIdx (ps.toList.map (·.1)) l)),ps.toList.map (·.2))
 | .nilCheck x=>some (.p1 IB,[x])
 | .binOp op t x y _=>match YI P op t x y with
  | some neg=>some (.r (fun s=>Xx (IE P s neg t)),[x,y])
  | none=>some (.p2 (AM P op t),[x,y])
 | .unOp op _ x=>some (.p1 (dF P op),[x])
 | .makeFunc fn first captured=>match fn with
  | .func f=>some (.p (fun l=>some (.func f (l.take first.size) (l.drop first.size))),first.toList++captured.toList)
  | _=>none
 | .fieldAddr t x f=>some (.p1 (fun x=>AO P t x f),[x])
 | .field t x f=>some (.p1 (fun x=>Pb P t x f),[x])
 | .indexAddr t x i=>some (.p2 (AP P t),[x,i])
 | .index t x i=>some (.p2 (Ph P t),[x,i])
 | .extract t i=>some (.p1 (fun x=>Za x i),[t])
 | .load t a=>some (.r1 (fun s a=>AE P s t a),[a])
 | .lookup t m k ok=>AG (Ga P t) (some (.r (fun s=>Xx (fun m k=>GD P s t m k ok)),[m,k]))
 | .convert src dst x=>some (.r1 (fun s x=>Ae P s src dst x),[x])
 | .slice t x lo hi mx=>some (.r (Bg P t lo.isSome hi.isSome mx.isSome),[x]++lo.toList++hi.toList++mx.toList)
 | .alloc e=>some (.mk (fun l=>match l with | []=>As P e | _=>none),[])
 | .box e x=>some (.mk (fun l=>match l with | [v]=>Cr e v | _=>none),[x])
 | .buildSlice t len ps=>some (.mk (fun l=>(Ak P t len (zipIdx (ps.toList.map (·.1)) l)).bind fun r=>some (r,.slice len)),ps.toList.map (·.2))
 | .makeMap t none=>AG (Ga P t) (some (.mk (fun l=>match l with | []=>(S6 P t).bind fun kt=>some (.map kt [],.map) | _=>none),[]))
 | .makeSlice t l c=>some (.mk (Xx (Bv P t)),[l,c])
 | .store t a x=>some (.e (fun s=>Xx (fun a x=>Xz (Aa P s t a x))),[a,x])
 | .mapUpdate t m k x | .insert t m k x=>AG (Ga P t) (some (.e (fun s=>Xy (fun m k x=>Xz (M6 P s t m k x))),[m,k,x]))
 | .call { callee,args,argTypes }=>match callee with
  | .value (.func f)=>match XQ P f with
   | some e=>some (.e e,args.toList)
   | none=>some (.call f,args.toList)
  | .value x=>some (.callv,x::args.toList)
  | .invoke ..=>none
  | .builtin b=>match b with
   | .len=>match argTypes[0]? with
    | some t=>some (.r (fun s l=>match l with | [x]=>Bk P s t x | _=>none),args.toList)
    | none=>none
   | .cap=>match argTypes[0]? with
    | some t=>some (.r (fun s l=>match l with | [x]=>Sq P s t x | _=>none),args.toList)
    | none=>none
   | .min=>some (.p (fun l=>match l with | v::l=>FG false v l | []=>none),args.toList)
   | .max=>some (.p (fun l=>match l with | v::l=>FG true v l | []=>none),args.toList)
   | .append=>some (.e (fun s l=>A8 P s argTypes.toList l),args.toList)
   | .copy=>some (.e (fun s l=>XA P s argTypes.toList l),args.toList)
   | .unsafeSliceData=>some (.p (fun l=>match l with | [x]=>XG x | _=>none),args.toList)
   | .unsafeString=>some (.e (fun s l=>Yz P s argTypes.toList l),args.toList)
   | .clear=>some (.e (fun s l=>PS P s argTypes.toList l),args.toList)
   | .delete=>match argTypes[0]? with
    | some t=>AG (Ga P t) (some (.e (fun s=>Xx (fun m k=>Xz (I5 P s t m k))),args.toList))
    | none=>none
   | _=>none
 | _=>none
def en(t:Nat):Nat:=Nat.shiftLeft 1 t
def Ei:List Operand→Nat
 | []=>0
 | .tmp t::l=>Nat.lor (en t) (Ei l)
 | _::l=>Ei l
def Jm(P:Program):List Oper→Nat→Nat→Nat
 | [],_,e=>e
 | o::l,wr,e =>
  let rd:=match Av P o.op with
   | some (_,xs)=>Ei xs
   | none=>match o.op with
    | .range _ x | .next x _ | .entry x=>Ei [x]
    | _=>0
  Jm P l (match o.dst with | some d=>Nat.lor wr (en d) | none=>wr) (Nat.lor e (Nat.sub rd (Nat.land rd wr)))
def Dq(P:Program):Code→Nat
 | .region _ ops _=>Jm P ops.toList 0 0
 | .seq a b=>Nat.lor (Dq P a) (Dq P b)
 | .cond c a b=>Nat.lor (Ei [c]) (Nat.lor (Dq P a) (Dq P b))
 | .block _ b | .loop b | .scope b=>Dq P b
 | .rangeFunc f ps a b=>Nat.lor (Ei [f]) (Nat.lor (ps.toList.foldl (fun m t=>Nat.lor m (en t)) 0) (Nat.lor (Dq P a) (Dq P b)))
 | _=>0
def Gv:List ResultVar→Nat
 | []=>0
 | .tmp t::l | .cell t _::l=>Nat.lor (en t) (Gv l)
def EX(m:Nat):Nat→Nat→List Nat
 | 0,_=>[]
 | n+1,k=>bif m.testBit k then k::EX m n (k+1)else EX m n (k+1)
def CT(fn:Func):Nat:=fn.params.size+fn.nfree
def AT(P:Program)(fn:Func):List Tmp:=
 List.range (CT fn)++match fn.body with
 | none=>[]
 | some c=>EX (Nat.lor (Dq P c) (Gv fn.results.toList)) (fn.ntmps - CT fn) (CT fn)
def Ao:List Tmp→Tmp→Option Nat
 | [],_=>none
 | a::l,t=>bif Nat.beq a t then some 0 else (Ao l t).bind fun j=>some (j+1)
def Nb(P:Program)(o:Oper):Bool:=match Av P o.op with
 | some (s,_)=>s.isEff
 | none=>true
def SO(b:Array Nat)(done:Nat)(i:Nat):Bool:=Nat.beq (Nat.land (b.getD i 0) done) (b.getD i 0)
def P1(P:Program)(ops:Array Oper)(b:Array Nat):Nat→Nat→List Nat→List Nat→List Nat
 | 0,_,_,acc=>acc.reverse
 | f+1,done,todo,acc =>
  match todo.find? fun i=>SO b done i && !Nb P (ops.getD i default)with
  | some i=>P1 P ops b f (done+2 ^ i) (todo.filter fun j=>!Nat.beq j i) (i::acc)
  | none=>match todo.find? fun i=>SO b done i with
   | some i=>P1 P ops b f (done+2 ^ i) (todo.filter fun j=>!Nat.beq j i) (i::acc)
   | none=>acc.reverse
def aU(P:Program)(ops:Array Oper):List Nat:=P1 P ops (Region.before ops) ops.size 0 (List.range ops.size) []
def FH(P:Program)(o:Oper):List Tmp:=o.dst.toList++((match Av P o.op with
 | some (_,xs)=>xs
 | none=>[]).filterMap fun x:Operand=>match x with
  | .tmp t=>some t
  | _=>none)
def SE(o:Oper):List Nat:=match o.guard with
 | some (j,_)=>[j]
 | none=>[]
def M4(P:Program)(ops:Array Oper)(b:Array Nat)(before:List Nat)(i:Nat):Bool:=
 let o:=ops.getD i default
 let anc:=b.getD i 0
 Nat.blt i ops.size && !before.contains i &&
 (List.range ops.size).all (fun j=>!anc.testBit j || before.contains j) &&
 o.after.all (fun e=>!Region.binds .any e || before.contains e.on) &&
 before.all (fun j=>!Nb P (ops.getD j default) || anc.testBit j) &&
 (SE o).all (fun j=>anc.testBit j) &&
 before.all (fun j=>let p:=ops.getD j default
  (match o.dst with
   | none=>true
   | some d=>p.dst != some d && (!(FH P p).contains d || anc.testBit j)) &&
  (match p.dst with
   | none=>true
   | some d=>!(FH P o).contains d || anc.testBit j))
def D8(P:Program)(ops:Array Oper)(b:Array Nat):List Nat→List Nat→Bool
 | before,[]=>Nat.beq before.length ops.size
 | before,i::l=>M4 P ops b before i && D8 P ops b (before++[i]) l
inductive Ir where
 | push | set (j:Nat)
structure FV where
 guard:Option (CX×Bool)
 sh:Sh
 xs:List CX
 ans:CX
structure AB where
 guard:Option (CX×Bool)
 sh:Sh
 xs:List CX
 dst:Ir
 again:List FV
structure Y7 where
 map:List (Tmp×CX)
 cnt:Nat
def Dg:List (Tmp×CX)→Tmp→Option CX
 | [],_=>none
 | (a,x)::l,t=>bif Nat.beq a t then some x else Dg l t
def B3(cnt:Nat):CX→CX
 | .loc p=>.loc (cnt - 1 - p)
 | x=>x
def Dj(vars:List Tmp)(c:Y7)(t:Tmp):Option CX:=
 match Dg c.map t with
 | some x=>some x
 | none=>(Ao vars t).bind fun j=>some (.var j)
def Dh(vars:List Tmp)(c:Y7):Operand→Option CX
 | .tmp t=>Dj vars c t
 | .const v=>(ofValue v).bind fun a=>some (.const a)
 | .global g=>some (.const (.gptr g 0))
 | .func f=>some (.const (.func f [] []))
def Gr(vars:List Tmp)(c:Y7):List Operand→Option (List CX)
 | []=>some []
 | x::l=>(Dh vars c x).bind fun a=>(Gr vars c l).bind fun r=>some (a::r)
def isVar(j:Nat):CX→Bool
 | .var i=>Nat.beq i j
 | _=>false
def HT(j:Nat):List (Tmp×CX)→Bool
 | []=>true
 | (_,x)::l=>!isVar j x && HT j l
def Ix(vars:List Tmp)(later:List (Option Tmp))(o:Oper)(x:CX):Bool:=
 (match o.op with | .move _=>true | _=>false) && o.guard.isNone &&
 (match o.dst with | some d=>(Ao vars d).isNone | none=>false) &&
 (match x with
  | .var j=>!(later.any fun d=>match d with
   | some t=>match Ao vars t with
    | some i=>Nat.beq i j
    | none=>false
   | none=>false)
  | _=>true)
def El(cnt:Nat):Option (CX×Bool)→Option (CX×Bool)
 | none=>none
 | some (x,b)=>some (B3 cnt x,b)
def He(cnt:Nat)(r:FV):FV:={ guard:=El cnt r.guard,sh:=r.sh,xs:=r.xs.map (B3 cnt),ans:=B3 cnt r.ans }
def Mt(j:Nat)(r:FV):Bool:=(match r.guard with | none=>true | some (x,_)=>!isVar j x) && r.xs.all fun x=>!isVar j x
def Dp(P:Program)(nt:Nat)(vars:List Tmp)(ops:Array Oper)(b:Array Nat)(draw:Bool):List Nat→Y7→List (Nat×FV)→Option (List AB)
  | [],_,_=>some []
  | i::l,c,rs=>(ops[i]?).bind fun o=>(Av P o.op).bind fun sh=>(Gr vars c sh.2).bind fun xs =>
    match (match xs with | [x]=>bif Ix vars (l.map fun j=>(ops.getD j default).dst) o x then some x else none | _=>none),o.dst with
    | some x,some d=>AG (Nat.blt d nt) (Dp P nt vars ops b draw l { c with map:=(d,x)::c.map } rs)
    | _,_ =>
      (match o.guard with
        | none=>some none
        | some (j,want)=>(ops[j]?).bind fun p=>p.dst.bind fun d=>(Dj vars c d).bind fun x=>some (some (x,want))).bind fun g =>
      (match o.dst with
        | none=>some (Ir.push,{ c with cnt:=c.cnt+1 })
        | some d=>AG (Nat.blt d nt) <| match Ao vars d with
          | some j=>AG (HT j c.map && rs.all fun r=>Mt j r.2) (some (Ir.set j,c))
          | none=>some (Ir.push,{ map:=(d,.loc c.cnt)::c.map,cnt:=c.cnt+1 })).bind fun q =>
      let ag:=match draw,sh.1.isEff with
        | true,true=>rs.filter fun(r:Nat×FV)=>!(b.getD i 0).testBit r.1
        | _,_=>[]
      let rd:=draw && sh.1.isRead
      AG (!rd || (match q.1 with | .push=>true | .set _=>false)) <|
      (Dp P nt vars ops b draw l q.2 (bif rd then (i,{ guard:=g,sh:=sh.1,xs,ans:=.loc c.cnt })::rs else rs)).bind fun r =>
        some ({ guard:=El c.cnt g,sh:=sh.1,xs:=xs.map (B3 c.cnt),dst:=q.1,again:=ag.map fun(r:Nat×FV)=>He q.2.cnt r.2 }::r)
structure Is where
 ad:CX
 rd:AD→AV→Option AV
 jt:Nat
 jok:Nat
 jk:Nat
 id2:Nat
 res:List CX
inductive Ab where
 | skip
 | ops (l:List AB)
 | seq (a b:Ab)
 | cond (x:CX) (a b:Ab)
 | block (id:Nat) (c:Ab)
 | loop (c:Ab)
 | rangeFunc (fn:FuncId) (f:CX) (params:Array Tmp) (assign body:Code)
 | exit (id:Nat)
 | ret
 | never
 | rangeMap (r:Is) (body:Ab)
structure dP where
 ty:TypeId
 ad:Operand
 tm:Tmp
 it:Tmp
 tn:Tmp
 ok:Tmp
 te:Tmp
 tk:Tmp
 key:Tmp
 id2:Nat
def Dr(o:Oper):Option (Op×Tmp):=match o.guard,o.dst with
 | none,some d=>some (o.op,d)
 | _,_=>none
def Ol:Op→Option (TypeId×Operand)
 | .load t a=>some (t,a)
 | _=>none
def Lz:Op→Option (TypeId×Tmp)
 | .range t (.tmp m)=>some (t,m)
 | _=>none
def Om:Op→Option Tmp
 | .next (.tmp i) false=>some i
 | _=>none
def Lx:Op→Option Tmp
 | .entry (.tmp i)=>some i
 | _=>none
def QU:Op→Option Tmp
 | .extract (.tmp n) 0=>some n
 | _=>none
def Tl:Op→Option Tmp
 | .assign (.tmp n)=>some n
 | _=>none
def Mw:List Oper→Option (TypeId×Operand×Tmp×Tmp)
 | [o0,o1]=>(Dr o0).bind fun p0=>(Dr o1).bind fun p1=>(Ol p0.1).bind fun l=>(Lz p1.1).bind fun r =>
  AG (Nat.beq l.1 r.1 && Nat.beq p0.2 r.2) (some (l.1,l.2,p0.2,p1.2))
 | _=>none
def My(it:Tmp):List Oper→Option (Tmp×Tmp)
 | [o0,o1]=>(Dr o0).bind fun p0=>(Dr o1).bind fun p1=>(Om p0.1).bind fun i=>(QU p1.1).bind fun n =>
  AG (Nat.beq i it && Nat.beq n p0.2) (some (p0.2,p1.2))
 | _=>none
def KW(it:Tmp):List Oper→Option (Tmp×Tmp×Tmp)
 | [o0,o1,o2]=>(Dr o0).bind fun p0=>(Dr o1).bind fun p1=>(Dr o2).bind fun p2=>(Lx p0.1).bind fun i=>(QU p1.1).bind fun n=>(Tl p2.1).bind fun k =>
  AG (Nat.beq i it && (Nat.beq n p0.2 && Nat.beq k p1.2)) (some (p0.2,p1.2,p2.2))
 | _=>none
def YT(ops1:Array Oper)(d1:Bool):Code→Option dP
 | .block id (.loop (.seq (.region _ ops2 false) (.seq (.cond (.tmp c) .skip (.exit id')) (.block id2 (.seq (.region _ ops3 false) _))))) =>
  AG (!d1) <| (Mw ops1.toList).bind fun h=>(My h.2.2.2 ops2.toList).bind fun n=>(KW h.2.2.2 ops3.toList).bind fun e =>
   AG (Nat.beq id' id && Nat.beq c n.2) (some ⟨h.1,h.2.1,h.2.2.1,h.2.2.2,n.1,n.2,e.1,e.2.1,e.2.2,id2⟩)
 | _=>none
def SP(P:Program)(f:FuncId)(vars:List Tmp):List CX:=match P.funcs[f]? with
 | some fn=>fn.results.toList.filterMap fun v=>match v with
  | .cell t _=>(Ao vars t).map CX.var
  | _=>none
 | none=>[]
def R0(P:Program)(f:FuncId)(nt:Nat)(vars:List Tmp)(p:dP):Option Is:=
 (Dh vars ⟨[],0⟩ p.ad).bind fun ad=>(Ao vars p.it).bind fun jt=>(Ao vars p.ok).bind fun jok=>(Ao vars p.key).bind fun jk =>
  AG ((Ao vars p.tm).isNone && ((Ao vars p.tn).isNone && ((Ao vars p.te).isNone && (Ao vars p.tk).isNone))) <|
  AG (Nat.blt p.tm nt && (Nat.blt p.tn nt && (Nat.blt p.te nt && (Nat.blt p.tk nt && (Nat.blt p.it nt && (Nat.blt p.ok nt && Nat.blt p.key nt)))))) <|
  AG (H7 P p.ty && (!Nat.beq jt jok && (!Nat.beq jt jk && !Nat.beq jok jk))) (some ⟨ad,fun s a=>AE P s p.ty a,jt,jok,jk,p.id2,SP P f vars⟩)
def GI:Ab→Option Ab
 | .block _ (.loop (.seq _ (.seq _ (.block _ (.seq _ b)))))=>some b
 | _=>none
def Kc(r:Option Is)(a b:Ab):Ab:=match r with
 | none=>.seq a b
 | some r=>match GI b with
  | some c=>.rangeMap r c
  | none=>.seq a b
def Gd(P:Program)(f:FuncId)(nt:Nat)(vars:List Tmp):Code→Code→Option Is
 | .region _ ops d,b=>(YT ops d b).bind (R0 P f nt vars)
 | _,_=>none
def bj:Option (List AB)→Ab
 | some l=>.ops l
 | none=>.never
def AX(P:Program)(fn:FuncId)(nt:Nat)(vars:List Tmp):Code→Ab
 | .skip | .label _=>.skip
 | .ret=>.ret
 | .exit id=>.exit id
 | .goto _ | .refuse _=>.never
 | .region _ ops draw=>match draw with
  | false=>bj (Dp P nt vars ops #[] false (List.range ops.size) ⟨[],0⟩ [])
  | true=>bj (AG (D8 P ops (Region.before ops) [] (aU P ops)) (Dp P nt vars ops (Region.before ops) true (aU P ops) ⟨[],0⟩ []))
 | .seq a b=>Kc (Gd P fn nt vars a b) (AX P fn nt vars a) (AX P fn nt vars b)
 | .cond c a b=>match Dh vars ⟨[],0⟩ c with
  | some z=>.cond z (AX P fn nt vars a) (AX P fn nt vars b)
  | none=>.never
 | .block id c=>.block id (AX P fn nt vars c)
 | .loop c=>.loop (AX P fn nt vars c)
 | .scope c=>AX P fn nt vars c
 | .rangeFunc f ps a b=>match Dh vars ⟨[],0⟩ f with
  | some x=>.rangeFunc fn x ps a b
  | none=>.never
structure Az where
 na:Nat
 nv:Nat
 body:Ab
 results:List (CX×Option TypeId)
def B4(vars:List Tmp):List ResultVar→Option (List (CX×Option TypeId))
 | []=>some []
 | .tmp t::l=>(Ao vars t).bind fun j=>(B4 vars l).bind fun r=>some ((.var j,none)::r)
 | .cell t ty::l=>(Ao vars t).bind fun j=>(B4 vars l).bind fun r=>some ((.var j,some ty)::r)
def AS(P:Program)(f:FuncId):Option Az:=(P.funcs[f]?).bind fun fn=>fn.body.bind fun c =>
 AG (Nat.ble (CT fn) fn.ntmps) <|
 let vars:=AT P fn
 (B4 vars fn.results.toList).bind fun r =>
  some { na:=CT fn,nv:=vars.length,body:=AX P f fn.ntmps vars c,results:=r }
def Ic (l:List AV):Nat→AV:=
 List.rec (fun _=>BV) (fun a _ ih i=>Nat.rec a (fun i _=>ih i) i) l
def Et (v:AV) (l:List AV):Nat→List AV:=
 List.rec (fun _=>[]) (fun a l ih i=>Nat.rec (v::l) (fun i _=>a::ih i) i) l
def CM (loc var:List AV) (x:CX):AV:=
 match x with
 | .loc i=>Ic loc i
 | .var j=>Ic var j
 | .const v=>v
def Cs (loc var:List AV) (l:List CX):List AV:=
 List.rec [] (fun x _ ih=>CM loc var x::ih) l
inductive JG where
 | normal | exit (id:Nat) | ret
structure Aq where
 exit:JG
 var:List AV
 marks:List Nat
 st:AD
def Ep:AV→AV→Bool
 | .bool a,.bool b=>a == b
 | .int k a,.int k' b=>Bn k k' && MT a b
 | .str a,.str b=>CB a b
 | .ptr none,.ptr none=>true
 | .gptr a b,.gptr c d=>Nat.beq a c && Nat.beq b d
 | .ptr (some (i,o)),.ptr (some (j,p))=>Nat.beq i j && Nat.beq o p
 | .slice none n (some c),.slice none n' (some c')=>Nat.beq n n' && Nat.beq c c'
 | .slice none n none,.slice none n' none=>Nat.beq n n'
 | .slice (some (i,o)) n none,.slice (some (j,p)) n' none=>Nat.beq i j && Nat.beq o p && Nat.beq n n'
 | .slice (some (i,o)) n (some c),.slice (some (j,p)) n' (some c')=>Nat.beq i j && Nat.beq o p && Nat.beq n n' && Nat.beq c c'
 | .map none,.map none=>true
 | .map (some i),.map (some j)=>Nat.beq i j
 | .func f a c,.func g b d=>Nat.beq f g && eqAs a b && eqAs c d
 | .nilFunc,.nilFunc=>true
 | .nilIface,.nilIface=>true
 | .yield i,.yield j=>Nat.beq i j
 | .agg a,.agg b=>eqAs a b
 | .tuple a,.tuple b=>eqAs a b
 | _,_=>false
where
 eqAs:List AV→List AV→Bool
 | [],[]=>true
 | a::x,b::y=>Ep a b && eqAs x y
 | _,_=>false
abbrev Gh:=FuncId→List AV→AD→Option (AV×AD)
structure Cf where
 P:Program
 nat:Gh
structure Cg where
 code:Option Nat→Ab→List AV→List Nat→AD→Option Aq
 call:FuncId→List AV→AD→Option (AV×AD)
 round:Nat→List AV→AD→Option (AV×AD)
def Fe(F:Cg)(f:AV)(args:List AV)(s:AD):Option (AV×AD):=
 match f with
 | .func f first cap=>F.call f (first++(args++cap)) s
 | .yield l=>F.round l args s
 | _=>none
def DA(s:AD)(x:Option AV):Option (AV×AD):=match x with
 | some v=>some (v,s)
 | none=>none
def one{α:Type}(f:AV→Option α):List AV→Option α
 | [a]=>f a
 | _=>none
def Di(sh:Sh)(xs:List AV)(s:AD):Option AV:=
 match sh with
 | .r1 f=>one (f s) xs
 | .r f=>f s xs
 | _=>none
def Nv(s:AD)(r:Option (Af×Made)):Option (AV×AD):=match r with
 | some p=>some (p.2.val s.next,newObj s p.1)
 | none=>none
def Og {α:Type} (f:CX→Option α) (xs:List CX):Option α:=List.rec none (fun x _ _=>f x) xs
def Pg {α:Type} (f:CX→CX→Option α) (xs:List CX):Option α:=Og (fun x=>Og (f x) xs.tail) xs
def fF (f:AV→Option AV) (xs:List CX) (loc var:List AV) (s:AD):Option (AV×AD):=Og (fun x=>DA s (f (CM loc var x))) xs
def fG (f:AV→AV→Option AV) (xs:List CX) (loc var:List AV) (s:AD):Option (AV×AD):=Pg (fun x y=>DA s (f (CM loc var x) (CM loc var y))) xs
def fH (f:AD→AV→Option AV) (xs:List CX) (loc var:List AV) (s:AD):Option (AV×AD):=Og (fun x=>DA s (f s (CM loc var x))) xs
def shV (F:Cg) (xs:List CX) (loc var:List AV) (s:AD):Option (AV×AD):=Og (fun x=>Fe F (CM loc var x) (Cs loc var xs.tail) s) xs
def dA (F:Cg) (sh:Sh) (xs:List CX) (loc var:List AV) (s:AD):Option (AV×AD):=
 match sh with
 | .p1 f=>fF f xs loc var s
 | .p2 f=>fG f xs loc var s
 | .p f=>DA s (f (Cs loc var xs))
 | .r1 f=>fH f xs loc var s
 | .r f=>DA s (f s (Cs loc var xs))
 | .mk f=>Nv s (f (Cs loc var xs))
 | .e f=>f s (Cs loc var xs)
 | .call f=>F.call f (Cs loc var xs) s
 | .callv=>shV F xs loc var s
def dJ(want:Bool):AV→Bool
 | .bool b=>b == want
 | _=>false
def BK (loc var:List AV) (g:Option (CX×Bool)):Bool:=
 match g with
 | none=>true
 | some p=>dJ p.2 (CM loc var p.1)
def cX:AV→Bool
 | .junk=>true
 | _=>false
def Tf (loc var:List AV) (g:Option (CX×Bool)):Bool:=
 match g with
 | none=>false
 | some p=>cX (CM loc var p.1)
def OK(x:Option AV)(v:AV):Bool:=match x with
 | some u=>Ep u v
 | none=>false
def Ez (s:AD) (loc var:List AV) (r:FV):Bool:=
 !BK loc var r.guard || OK (Di r.sh (Cs loc var r.xs) s) (CM loc var r.ans)
def DX (s:AD) (loc var:List AV) (l:List FV):Bool:=
 List.rec true (fun r _ ih=>Ez s loc var r && ih) l
abbrev Tg:=List AV→List AV→AD→Option (List AV×AD)
def CO (ag:List FV) (d:Ir) (k:Tg) (loc var:List AV) (v:AV) (s:AD):Option (List AV×AD):=
 match d with
 | .push=>bif DX s (v::loc) var ag then k (v::loc) var s else none
 | .set j=>bif DX s loc (Et v var j) ag then k loc (Et v var j) s else none
def I9 (it:AB) (k:Tg) (loc var:List AV) (r:Option (AV×AD)):Option (List AV×AD):=
 match r with
 | none=>none
 | some p=>CO it.again it.dst k loc var p.1 p.2
def Ia (F:Cg) (it:AB) (k:Tg) (loc var:List AV) (s:AD):Option (List AV×AD):=
 match Tf loc var it.guard with
 | true=>none
 | false=>match BK loc var it.guard with
  | true=>I9 it k loc var (dA F it.sh it.xs loc var s)
  | false=>CO [] it.dst k loc var BV s
def Db (F:Cg) (l:List AB):Tg:=
 List.rec (fun _ var s=>some (var,s)) (fun it _ ih loc var s=>Ia F it ih loc var s) l
def Ql(l:List AV):Nat→List AV
 | 0=>[]
 | n+1=>match l with
  | []=>BV::Ql [] n
  | a::l=>a::Ql l n
def BS (P:Program) (s:AD) (var:List AV):List (CX×Option TypeId)→Option (List AV)
 | []=>some []
 | (x,none)::l=>(BS P s var l).bind fun r=>some (CM [] var x::r)
 | (x,some t)::l=>(AE P s t (CM [] var x)).bind fun v=>(BS P s var l).bind fun r=>some (v::r)
def BN:List AV→AV
 | [v]=>v
 | l=>.tuple l
def C8(s:AD):List Nat→Option AD
 | []=>some s
 | i::l=>match s.heap.get i with
  | some .mark=>C8 (Bu s i) l
  | _=>none
def CY:JG→Option Code
 | .normal=>none
 | .ret=>some .ret
 | .exit id=>some (.exit id)
def DM (vars:List Tmp) (var:List AV):List Tmp→List AV→Option (List AV)
 | [],[]=>some var
 | t::ts,v::vs=>(Ao vars t).bind fun j=>DM vars (Et v var j) ts vs
 | _,_=>none
def Ba(s:AD)(l:Nat):Option EE:=match s.heap.get l with
 | some (.loop r)=>some r
 | _=>none
def E6(P:Program)(f:FuncId)(c:Code):Option Ab:=(P.funcs[f]?).bind fun fn=>some (AX P f fn.ntmps (AT P fn) c)
def De(P:Program)(f:FuncId):List Tmp:=match P.funcs[f]? with
 | some fn=>AT P fn
 | none=>[]
def ZN(marks:List Nat)(r:Option (List AV×AD)):Option Aq:=match r with
 | some p=>some ⟨.normal,p.1,marks,p.2⟩
 | none=>none
def GU(F:Cg)(rnd:Option Nat)(b:Ab)(r:Aq):Option Aq:=match r.exit with
 | .normal=>F.code rnd b r.var r.marks r.st
 | _=>some r
def HC(F:Cg)(rnd:Option Nat)(b:Ab)(r:Option Aq):Option Aq:=match r with
 | some r=>GU F rnd b r
 | none=>none
def NX(F:Cg)(rnd:Option Nat)(a b:Ab)(var:List AV)(marks:List Nat)(s:AD)(v:AV):Option Aq:=match v with
 | .bool t=>match t with
  | true=>F.code rnd a var marks s
  | false=>F.code rnd b var marks s
 | _=>none
def I3(id:Nat)(r:Aq):Option Aq:=match r.exit with
 | .exit id'=>bif Nat.beq id' id then some ⟨.normal,r.var,r.marks,r.st⟩else some r
 | _=>some r
def Jd(id:Nat)(r:Option Aq):Option Aq:=match r with
 | some r=>I3 id r
 | none=>none
def Fb(var:List AV)(marks:List Nat)(s:AD)(c:Option Code):Option Aq:=match c with
 | none=>some ⟨.normal,var,marks,s⟩
 | some .ret=>some ⟨.ret,var,marks,s⟩
 | some (.exit id)=>some ⟨.exit id,var,marks,s⟩
 | some _=>none
def Pj:LoopState→Bool
 | .busy=>true
 | _=>false
def I8:LoopState→Bool
 | .ready=>true
 | _=>false
def GA(var:List AV)(marks:List Nat)(l:Nat)(q:Option (AV×AD)):Option Aq:=
 q.bind fun q=>(Ba q.2 l).bind fun r=>bif Pj r.state then none else
  Fb var marks (setObj q.2 l (.loop { r with state:=.exhausted })) r.pending
def EG(F:Cg)(var:List AV)(f:AV)(params:Array Tmp)(assign body:Code)(fn:FuncId)(dfr:Nat)(marks:List Nat)(s:AD):Option Aq:=
 GA var marks s.next (Fe { F with round:=fun _ _ _=>none } f [.yield s.next] (newObj s (.loop { state:=.ready,pending:=none,fn,var,params,assign,body,dfr })))
def Je(F:Cg)(rnd:Option Nat)(fn:FuncId)(f:AV)(params:Array Tmp)(assign body:Code)(var:List AV)(marks:List Nat)(s:AD):Option Aq:=
 match rnd with
 | some l=>(Ba s l).bind fun r=>EG F var f params assign body fn r.dfr marks s
 | none=>EG F var f params assign body fn s.next (s.next::marks) (newObj s .mark)
def XU:Af→Option Af
 | .row r=>some (.row { r with mode:=.ro,par:=none })
 | .map kt es=>some (.mapRo kt es)
 | .mapRo kt es=>some (.mapRo kt es)
 | _=>none
def frz(n:Nat)(h:AH Af):AD:=⟨n,h.mapO XU⟩
def EU:AV→Bool
 | .agg _=>false
 | _=>true
def Hh(a b:AV):Bool:=match a,b with
 | .junk,.junk=>true
 | _,_=>Ep a b
def Mh:List AV→List AV→Option (List AV)
 | [],[]=>some []
 | a::l,b::m=>(bif Hh a b then some a else AG (EU a && EU b) (some .junk)).bind fun c=>(Mh l m).bind fun r=>some (c::r)
 | _,_=>none
def eQ(x b:AV):Bool:=Hh x b || (EU x && Hh .junk b)
def XC:List AV→List AV→Bool
 | [],[]=>true
 | x::l,b::m=>eQ x b && XC l m
 | _,_=>false
def GL:List Nat→List Nat→Bool
 | [],[]=>true
 | a::l,b::m=>Nat.beq a b && GL l m
 | _,_=>false
def Hz(id2:Nat):JG→Bool
 | .normal=>true
 | .exit i=>Nat.beq i id2
 | .ret=>false
def Lc:AV→Bool
 | .bool _ | .int .. | .str _=>true
 | _=>false
def YQ:List AV→List AV→Option (List AV)
 | [],[]=>some []
 | a::l,x::m=>(bif Lc x || Hh a x then some x else AG (EU x) (some .junk)).bind fun c=>(YQ l m).bind fun r=>some (c::r)
 | _,_=>none
def K1(var:List AV):List CX→List Nat
 | []=>[]
 | .var j::l=>match var[j]? with
  | some (.ptr (some (i,_)))=>i::K1 var l
  | _=>K1 var l
 | _::l=>K1 var l
def CA(r:B7):Bool:=CQ r.mode && (r.par.isNone && r.glob.isNone)
def bA(h:AH Af):List Nat→AH Af→Option (AH Af)
 | [],t=>some t
 | i::l,t=>match h.get i with
  | some (.row r)=>AG (CA r) (bA h l (t.set i (.row r)))
  | _=>none
def cU(W:List Nat)(n:Nat)(h:AH Af):Option AD:=(bA h W (h.mapO XU)).bind fun t=>some ⟨n,t⟩
def FP(r q:B7):Bool:=Nat.beq q.n r.n && (Nat.beq q.elem r.elem && CQ q.mode)
def EZ:List AV→List AV→Bool
 | [],[]=>true
 | a::l,b::m=>(Lc b || Hh a b) && EZ l m
 | _,_=>false
def Lb(s q:AD):List Nat→Bool
 | []=>true
 | i::l=>(match rowAt s i,rowAt q i with
  | some r,some r'=>FP r r' && (match r.c.take 0 r.n,r'.c.take 0 r.n with
   | some a,some b=>Ep (.agg a) (.agg b)
   | _,_=>false)
  | _,_=>false) && Lb s q l
def TM(s q:AD):List Nat→Option (List (List AV))
 | []=>some []
 | i::l=>(rowAt s i).bind fun r=>(rowAt q i).bind fun r'=>AG (FP r r') ((r.c.take 0 r.n).bind fun a=>(r'.c.take 0 r.n).bind fun b=>AG (EZ a b) ((TM s q l).bind fun m=>some (b::m)))
def Yf(h:AH Af):List Nat→List (List AV)→Option (AH Af)
 | [],[]=>some h
 | i::l,C::m=>match h.get i with
  | some (.row r)=>Yf (h.set i (.row { r with c:=r.c.fill 0 C })) l m
  | _=>none
 | _,_=>none
def eT:List (List AV)→List (List AV)→Bool
 | [],[]=>true
 | a::l,b::m=>Ep (.agg a) (.agg b) && eT l m
 | _,_=>false
inductive Lu where
 | go
 | ret (X:List AV) (M:List (List AV))
def Xi (l:List AB):List Nat:=List.rec [] (fun it _ ih=>match it.dst with
 | .set j=>j::ih
 | .push=>ih) l
def Il:Ab→Option (List Nat)
 | .ops l=>some (Xi l)
 | .seq a b=>(Il a).bind fun x=>(Il b).bind fun y=>some (x++y)
 | .cond _ a b=>(Il a).bind fun x=>(Il b).bind fun y=>some (x++y)
 | .block _ c=>Il c
 | .loop c=>Il c
 | .rangeFunc ..=>none
 | .rangeMap r c=>(Il c).bind fun x=>some (r.jt::r.jok::r.jk::x)
 | _=>some []
def Ma:List Nat→List AV→Option (List AV)
 | [],A=>some A
 | j::l,A=>AG (EU (Ic A j)) (Ma l (Et .junk A j))
def C3 (F:Cg) (rnd:Option Nat) (r:Is) (body:Ab) (A:List AV) (W:List Nat) (marks:List Nat) (s:AD) (k:AV):Option Lu:=
 (F.code rnd body (Et k (Et (.bool true) A r.jok) r.jk) marks s).bind fun q=>AG (GL q.marks marks) (match q.exit with
  | .ret=>(YQ A q.var).bind fun X=>(TM s q.st W).bind fun M=>some (.ret X M)
  | e=>AG (Hz r.id2 e && (XC q.var A && Lb s q.st W)) (some .go))
def FL (f:AV→Option Lu) (R:Option (List AV×List (List AV))):List (AV×AV)→Option (Option (List AV×List (List AV)))
 | []=>some R
 | e::l=>(f e.1).bind fun o=>match o with
  | .go=>FL f R l
  | .ret X M=>match R with
   | none=>FL f (some (X,M)) l
   | some Y=>AG (eT Y.2 M) ((Mh Y.1 X).bind fun Z=>FL f (some (Z,Y.2)) l)
def KX (F:Cg) (rnd:Option Nat) (r:Is) (body:Ab) (it:AV) (marks:List Nat) (n:Nat) (h:AH Af) (A0:List AV) (l:List (AV×AV)):Option Aq:=
 (Il body).bind fun J=>(Ma (r.jok::r.jk::J) A0).bind fun A=>AG (Ep (Ic A r.jt) it && Ep (Ic A0 r.jt) it)
  ((cU (K1 A0 r.res) n h).bind fun s=>(FL (C3 F rnd r body A (K1 A0 r.res) marks s) none l).bind fun R=>match R with
   | none=>some ⟨.normal,Et (.bool false) A r.jok,marks,⟨n,h⟩⟩
   | some Z=>(Yf h (K1 A0 r.res) Z.2).bind fun h'=>some ⟨.ret,Z.1,marks,⟨n,h'⟩⟩)
def SH(s:AD):AV→Option (List (AV×AV))
 | .map (some i)=>match s.heap.get i with
  | some (.map _ es)=>some es
  | some (.mapRo _ es)=>some es
  | _=>none
 | _=>none
def ZO (F:Cg) (rnd:Option Nat) (r:Is) (body:Ab) (var:List AV) (marks:List Nat) (s:AD):Option Aq:=
 (r.rd s (CM [] var r.ad)).bind fun m=>(SH s m).bind fun es =>
  KX F rnd r body (.ptr (some (s.next,0))) marks (s.next+1) s.heap (Et (.ptr (some (s.next,0))) var r.jt) es
def CF (F:Cg) (rnd:Option Nat) (c:Ab) (var:List AV) (marks:List Nat) (s:AD):Option Aq:=
 match c with
 | .skip=>some ⟨.normal,var,marks,s⟩
 | .ret=>some ⟨.ret,var,marks,s⟩
 | .exit id=>some ⟨.exit id,var,marks,s⟩
 | .never=>none
 | .ops l=>ZN marks (Db F l [] var s)
 | .seq a b=>HC F rnd b (F.code rnd a var marks s)
 | .cond x a b=>NX F rnd a b var marks s (CM [] var x)
 | .block id body=>Jd id (F.code rnd body var marks s)
 | .loop body=>HC F rnd (.loop body) (F.code rnd body var marks s)
 | .rangeFunc fn f params assign body=>Je F rnd fn (CM [] var f) params assign body var marks s
 | .rangeMap r body=>ZO F rnd r body var marks s
def Nl:JG→Bool
 | .normal | .ret=>true
 | .exit _=>false
def I4 (P:Program) (cf:Az) (r:Option Aq):Option (AV×AD):=
 r.bind fun r=>bif Nl r.exit then (C8 r.st r.marks).bind fun s=>(BS P s r.var cf.results).bind fun l=>some (BN l,s)else none
def Fc (P:Program) (F:Cg) (args:List AV) (s:AD) (cf:Option Az):Option (AV×AD):=
 cf.bind fun cf=>bif Nat.beq args.length cf.na then I4 P cf (F.code none cf.body (Ql args cf.nv) [] s)else none
def Gf (E:Cf) (F:Cg) (f:FuncId) (args:List AV) (s:AD):Option (AV×AD):=
 match E.nat f args s with
 | some p=>some p
 | none=>Fc E.P F args s (AS E.P f)
def D5:JG→Bool
 | .normal=>true
 | _=>false
def GM:Option Code→LoopState
 | none=>.ready
 | some _=>.done
def Hf(l:Nat)(q:Option Aq):Option (AV×AD):=q.bind fun q=>(Ba q.st l).bind fun r =>
 some (.bool (CY q.exit).isNone,setObj q.st l (.loop { r with state:=GM (CY q.exit),pending:=CY q.exit }))
def GJ(F:Cg)(l:Nat)(cb:Ab)(q:Option Aq):Option (AV×AD):=q.bind fun q=>bif D5 q.exit then
  (Ba q.st l).bind fun r=>bif I8 r.state then Hf l (F.code (some l) cb q.var q.marks (setObj q.st l (.loop { r with state:=.busy })))else none
 else none
def In (E:Cf) (F:Cg) (l:Nat) (args:List AV) (s:AD):Option (AV×AD):=
 (Ba s l).bind fun r=>(DM (De E.P r.fn) r.var r.params.toList args).bind fun var =>
  (E6 E.P r.fn r.assign).bind fun ca=>(E6 E.P r.fn r.body).bind fun cb=>GJ F l cb (F.code (some l) ca var [] s)
def eX:Cg:=⟨fun _ _ _ _ _=>none,fun _ _ _=>none,fun _ _ _=>none⟩
def eV (E:Cf) (F:Cg):Cg:=⟨CF F,Gf E F,In E F⟩
def Ck (E:Cf) (n:Nat):Cg:=Nat.rec eX (fun _ F=>eV E F) n
structure RB where
 b:Nat
 off:Nat
 N:Nat
 sz:Nat
abbrev A5:=Nat→Option RB
mutual
inductive AK (ρ:A5):AV→Value→Prop
 | bool (b:Bool):AK ρ (.bool b) (.bool b)
 | int (k:IntKind) (n:Int):AK ρ (.int k n) (.int k n)
 | str {l:List Nat} {s:ByteArray} (h:s.data.toList.map (fun(b:UInt8)=>b.toNat)=l):AK ρ (.str l) (.string s)
 | ptrNil:AK ρ (.ptr none) (.pointer none)
 | ptr {i o:Nat} {rb:RB} (h:ρ i=some rb):AK ρ (.ptr (some (i,o))) (.pointer (some ⟨rb.b,rb.off+o,none⟩))
 | gptr (g o:Nat):AK ρ (.gptr g o) (.pointer (some ⟨g,o,none⟩))
 | sliceNil:AK ρ (.slice none 0 (some 0)) (.slice none 0 0)
 | slice {i o len c:Nat} {rb:RB} (h:ρ i=some rb) (hl:len≤c):AK ρ (.slice (some (i,o)) len (some c)) (.slice (some ⟨rb.b,rb.off+o,none⟩) len c)
 | sliceOpen {i o len c:Nat} {rb:RB} (h:ρ i=some rb) (hs:0<rb.sz) (hl:len≤c) (h1:o+c * rb.sz≤rb.N) (h2:rb.N<o+(c+1) * rb.sz):
   AK ρ (.slice (some (i,o)) len none) (.slice (some ⟨rb.b,rb.off+o,none⟩) len c)
 | sliceEnd {i o:Nat} {rb:RB} {a:Addr} (h:ρ i=some rb) (hs:0<rb.sz) (h1:o≤rb.N) (h2:rb.N<o+rb.sz):
   AK ρ (.slice (some (i,o)) 0 none) (.slice (some a) 0 0)
 | mapNil:AK ρ (.map none) (.map none)
 | map {i:Nat} {rb:RB} (h:ρ i=some rb):AK ρ (.map (some i)) (.map (some rb.b))
 | func {f:FuncId} {a c:List AV} {a' c':Array Value} (ha:AJ ρ a a'.toList) (hc:AJ ρ c c'.toList):AK ρ (.func f a c) (.func (.func f) a' c')
 | yield {i:Nat} {rb:RB} (h:ρ i=some rb):AK ρ (.yield i) (.func (.yield rb.b) #[] #[])
 | nilFunc:AK ρ .nilFunc .nilFunc
 | nilIface:AK ρ .nilIface .nilIface
 | iface {t:TypeId} {v:AV} {v':Value} (h:AK ρ v v'):AK ρ (.iface t v) (.iface t v')
 | agg {cs:List AV} {cs':Array Value} (h:AJ ρ cs cs'.toList):AK ρ (.agg cs) (.agg cs')
 | tuple {cs:List AV} {cs':Array Value} (h:AJ ρ cs cs'.toList):AK ρ (.tuple cs) (.tuple cs')
 | any {v':Value} (h:v'.cells.toList=[v']):AK ρ .junk v'
inductive AJ (ρ:A5):List AV→List Value→Prop
 | nil:AJ ρ [] []
 | cons {v:AV} {v':Value} {l:List AV} {l':List Value} (h:AK ρ v v') (hs:AJ ρ l l'):AJ ρ (v::l) (v'::l')
end
def A5.le(ρ σ:A5):Prop:=∀i rb,ρ i=some rb→σ i=some rb
theorem A5.le_refl(ρ:A5):ρ.le ρ:=fun _ _ h=>h
theorem A5.le_trans{ρ σ τ:A5}(h:ρ.le σ)(k:σ.le τ):ρ.le τ:=fun i rb e=>k i rb (h i rb e)
mutual
theorem AK.mono{ρ σ:A5}(le:ρ.le σ){v:AV}{v':Value}(h:AK ρ v v'):AK σ v v':=by
 cases h with
 | bool b=>exact .bool b
 | int k n=>exact .int k n
 | str h=>exact .str h
 | ptrNil=>exact .ptrNil
 | ptr h=>exact .ptr (le _ _ h)
 | gptr g o=>exact .gptr g o
 | sliceNil=>exact .sliceNil
 | slice h hl=>exact .slice (le _ _ h) hl
 | sliceOpen h hs hl h1 h2=>exact .sliceOpen (le _ _ h) hs hl h1 h2
 | sliceEnd h hs h1 h2=>exact .sliceEnd (le _ _ h) hs h1 h2
 | mapNil=>exact .mapNil
 | map h=>exact .map (le _ _ h)
 | func ha hc=>exact .func (AJ.mono le ha) (AJ.mono le hc)
 | yield h=>exact .yield (le _ _ h)
 | nilFunc=>exact .nilFunc
 | nilIface=>exact .nilIface
 | iface h=>exact .iface (AK.mono le h)
 | agg h=>exact .agg (AJ.mono le h)
 | tuple h=>exact .tuple (AJ.mono le h)
 | any h=>exact .any h
theorem AJ.mono{ρ σ:A5}(le:ρ.le σ){v:List AV}{v':List Value}(h:AJ ρ v v'):AJ σ v v':=by
 cases h with
 | nil=>exact .nil
 | cons h hs=>exact .cons (AK.mono le h) (AJ.mono le hs)
end
section lists
variable{ρ:A5}
theorem AJ.length{l:List AV}{l':List Value}(h:AJ ρ l l'):l.length=l'.length:=by
 induction l generalizing l' with
 | nil=>cases h;rfl
 | cons a l ih=>cases h with | cons h hs=>simp[ih hs]
theorem AJ.get{l:List AV}{l':List Value}(h:AJ ρ l l'){k:Nat}{v:AV}(hk:l[k]? = some v):∃v',l'[k]? = some v'∧AK ρ v v':=by
  induction l generalizing l' k with
  | nil=>simp at hk
  | cons a l ih =>
    cases h with
    | cons h hs =>
      cases k with
      | zero=>simp at hk;subst hk;exact⟨_,rfl,h⟩
      | succ k=>simp at hk;obtain⟨v',h1,h2⟩:=ih hs hk;exact⟨v',by simpa using h1,h2⟩
theorem AJ.of_get{l:List AV}{l':List Value}(hl:l.length=l'.length)(h:∀ (k:Nat)(v:AV)(v':Value),l[k]? = some v→l'[k]? = some v'→AK ρ v v'):AJ ρ l l':=by
  induction l generalizing l' with
  | nil=>cases l' with | nil=>exact .nil | cons=>simp at hl
  | cons a l ih =>
    cases l' with
    | nil=>simp at hl
    | cons a' l'=>exact .cons (h 0 a a' rfl rfl) (ih (by simpa using hl) fun k v v' h1 h2=>h (k+1) v v' (by simpa using h1) (by simpa using h2))
theorem AJ.append{l m:List AV}{l' m':List Value}(h:AJ ρ l l')(k:AJ ρ m m'):AJ ρ (l++m) (l'++m'):=by
 induction l generalizing l' with
 | nil=>cases h;exact k
 | cons a l ih=>cases h with | cons h hs=>exact .cons h (ih hs)
theorem AJ.take{l:List AV}{l':List Value}(h:AJ ρ l l')(n:Nat):AJ ρ (l.take n) (l'.take n):=by
  induction l generalizing l' n with
  | nil=>cases h;simp;exact .nil
  | cons a l ih =>
    cases h with
    | cons h hs=>cases n with
      | zero=>exact .nil
      | succ n=>exact .cons h (ih hs n)
theorem AJ.drop{l:List AV}{l':List Value}(h:AJ ρ l l')(n:Nat):AJ ρ (l.drop n) (l'.drop n):=by
  induction l generalizing l' n with
  | nil=>cases h;simp;exact .nil
  | cons a l ih =>
    cases h with
    | cons h hs=>cases n with
      | zero=>exact .cons h hs
      | succ n=>exact ih hs n
theorem AK.cells{v:AV}{v':Value}(h:AK ρ v v'):AJ ρ v.cells v'.cells.toList:=by
 cases h with
 | agg h=>exact h
 | bool b=>exact .cons (.bool b) .nil
 | int k n=>exact .cons (.int k n) .nil
 | str h=>exact .cons (.str h) .nil
 | ptrNil=>exact .cons .ptrNil .nil
 | ptr h=>exact .cons (.ptr h) .nil
 | gptr g o=>exact .cons (.gptr g o) .nil
 | sliceNil=>exact .cons .sliceNil .nil
 | slice h hl=>exact .cons (.slice h hl) .nil
 | sliceOpen h hs hl h1 h2=>exact .cons (.sliceOpen h hs hl h1 h2) .nil
 | sliceEnd h hs h1 h2=>exact .cons (.sliceEnd h hs h1 h2) .nil
 | mapNil=>exact .cons .mapNil .nil
 | map h=>exact .cons (.map h) .nil
 | func ha hc=>exact .cons (.func ha hc) .nil
 | yield h=>exact .cons (.yield h) .nil
 | nilFunc=>exact .cons .nilFunc .nil
 | nilIface=>exact .cons .nilIface .nil
 | iface h=>exact .cons (.iface h) .nil
 | tuple h=>exact .cons (.tuple h) .nil
 | any h=>rw[h];exact .cons (.any h) .nil
theorem AK.oneCell{v:AV}{v':Value}(h:AK ρ v v')(hc:v.isCell=true):v'.oneCell'=true:=by
 cases h<;>first | rfl | cases hc
theorem AJ.oneCell{l:List AV}{l':List Value}(h:AJ ρ l l')(hc:Ar l=true):∀v∈l',v.oneCell'=true:=by
  induction l generalizing l' with
  | nil=>cases h;simp
  | cons a l ih =>
    cases h with
    | cons h hs =>
      simp only[Ar,Bool.and_eq_true]at hc
      intro v hv
      rcases gg.1 hv with rfl | hv
      · exact h.oneCell hc.1
      · exact ih hs hc.2 v hv
end lists
theorem HX(ρ:A5){v:Value}{a:AV}(h:HW v=some a):AK ρ a v:=by
 unfold HW at h
 split at h<;>first
  | (injection h with h;subst h;first | exact .bool _ | exact .int _ _ | exact .str rfl | exact .ptrNil | exact .sliceNil | exact .mapNil | exact .nilFunc | exact .nilIface)
  | cases h
theorem ES(ρ:A5):∀ {l:List Value}{r:List AV},Dw l=some r→AJ ρ r l
 | [],r,h=>by simp[Dw]at h;subst h;exact .nil
 | v::l,r,h=>by
  simp only[Dw,fQ]at h
  obtain⟨a,ha,r',hr,h⟩:=h
  injection h with h;subst h
  exact .cons (HX ρ ha) (ES ρ hr)
theorem Bi(ρ:A5){v:Value}{a:AV}(h:ofValue v=some a):AK ρ a v:=by
 unfold ofValue at h
 split at h
 ·simp only[fQ]at h
  obtain⟨l,hl,h⟩:=h
  injection h with h;subst h
  exact .agg (ES ρ hl)
 ·simp only[fQ]at h
  obtain⟨l,hl,h⟩:=h
  injection h with h;subst h
  exact .tuple (ES ρ hl)
 ·exact HX ρ h
theorem Cq(ρ:A5):AK ρ BV undef:=.tuple .nil
theorem AA{α:Type}{b:Bool}{x:Option α}{a:α}(h:AG b x=some a):b=true∧x=some a:=by
 cases b with
 | true=>exact⟨rfl,h⟩
 | false=>cases h
inductive CH (ρ:A5):List (AV×AV)→List MapEntry→Prop
 | nil:CH ρ [] []
 | cons {k v:AV} {e:MapEntry} {l:List (AV×AV)} {l':List MapEntry} (hk:AK ρ k e.key) (hv:AK ρ v e.val) (hs:CH ρ l l'):CH ρ ((k,v)::l) (e::l')
theorem CH.mono{ρ σ:A5}(le:ρ.le σ){l:List (AV×AV)}{l':List MapEntry}(h:CH ρ l l'):CH σ l l':=by
 induction h with
 | nil=>exact .nil
 | cons hk hv _ ih=>exact .cons (hk.mono le) (hv.mono le) ih
theorem CH.length{ρ:A5}{l:List (AV×AV)}{l':List MapEntry}(h:CH ρ l l'):l.length=l'.length:=by
 induction h with
 | nil=>rfl
 | cons _ _ _ ih=>simp[ih]
structure GT(P:Program)(ρ:A5)(w:World)(kt:TypeId)(es:List (AV×AV))(rb:RB):Prop where
 ex:∃ (es':Array MapEntry) (clock:Nat),w.heap[rb.b]? = some (.map es' clock)∧MapKept.Stamped es' clock∧(∃l,l.Perm es'.toList∧CH ρ es l)∧∀e∈es'.toList,∃l,keyOf P kt e.key=some l
structure BF(ρ:A5)(w:World)(r:B7)(rb:RB):Prop where
 cells:∀k v,k<r.n→r.c.get k=some v→∃v',w.cell? ⟨rb.b,rb.off+k,none⟩=some v'∧AK ρ v v'
 le:r.n≤rb.N
 sz:r.sz=rb.sz
 tight:r.spare=false→rb.N=r.n
 own:r.mode≠.ro→∃cs,w.heap[rb.b]? = some (.cells cs r.elem (0,0))∧rb.off+rb.N≤cs.size
 base:r.bytes=true→rb.off=0
 gl:∀g,r.glob=some g→rb.b=g∧rb.off=0
 par:∀p,r.par=some p→∃rp,ρ p=some rp
def DN(ρ:A5)(vars:List Tmp)(var:List AV)(tmps:Array Value):Prop:=
 ∀ (t:Tmp) (k:Nat),Ao vars t=some k→t<tmps.size∧∃v:AV,var[k]? = some v∧AK ρ v (tmps.getD t undef)
end
end Go.Proofs.YtdmgdlbodeemeaaGreatDoor.Am
set_option linter.unusedVariables false
set_option linter.unusedSimpArgs false
namespace Go.Proofs.YtdmgdlbodeemeaaGreatDoor.Am
open Go
noncomputable section
theorem Em{α:Type}{P:Program}{w:World}:∀ {s:Sem α}{a:α},C4 P s=some a→s.run P w=.ok a w:=by
 intro s
 induction s with
 | pure b=>intro a h;simp[C4]at h;subst h;rfl
 | program k ih=>intro a h;simp only[C4]at h;simp only[Sem.run];exact ih P h
 | mark m k ih=>intro a h;simp only[C4]at h;simp only[Sem.run];exact ih h
 | load=>intro a h;simp[C4]at h
 | store=>intro a h;simp[C4]at h
 | new=>intro a h;simp[C4]at h
 | shape=>intro a h;simp[C4]at h
 | freeze=>intro a h;simp[C4]at h
 | frozen=>intro a h;simp[C4]at h
 | getObj=>intro a h;simp[C4]at h
 | setObj=>intro a h;simp[C4]at h
 | choose=>intro a h;simp[C4]at h
 | sys=>intro a h;simp[C4]at h
 | halt=>intro a h;simp[C4]at h
section types
variable{P:Program}{w:World}{t:TypeId}
theorem AF{d:TypeDesc}(h:P.underlying t=some d):(underlying t).run P w=.ok d w:=by simp[underlying,h]
theorem GK{g:Bool}(h:ED P t=some g):(isAgg t).run P w=.ok g w:=by
 unfold ED at h
 split at h
 ·injection h with h;subst h;simp[isAgg,underlying, *]
 ·injection h with h;subst h;simp[isAgg,underlying, *]
 ·rename_i d _ _ hd
  injection h with h;subst h
  simp only[isAgg,Sem.run_bind,AF hd,Result.andThen_ok]
  cases d<;>simp_all
 ·cases h
theorem Ap{n:Nat}(h:A3 P t=some n):(sizeOf t).run P w=.ok n w:=by
 unfold A3 at h
 split at h
 ·injection h with h;subst h;simp[sizeOf,typeInfo, *]
 ·cases h
theorem TR{n:Nat}(h:Cx P t=some n):∃i,(typeInfo t).run P w=.ok i w∧i.bytes=n:=by
 unfold Cx at h
 split at h
 ·injection h with h;rename_i i hi;exact⟨i,by simp[typeInfo,hi],h⟩
 ·cases h
theorem Hg(ρ:A5){z:AV}(h:DU P t=some z):∃v,(zeroValue t).run P w=.ok v w∧AK ρ z v:=by
  unfold DU at h
  split at h
  · split at h
    · rename_i i hi _ v hv
      exact⟨v,by simp[zeroValue,typeInfo,hi,hv],Bi ρ h⟩
    · cases h
  · cases h
end types
theorem JF{k:IntKind}{n:Int}(h:BZ k n=true):k.wrap n=n:=by
 have hb:k.min≤n∧n≤k.max:=by
  unfold BZ at h
  cases n with
  | ofNat m=>cases k<;>simp[fT]at h<;>simp[IntKind.min,IntKind.max,IntKind.signed,IntKind.bits]<;>omega
  | negSucc m=>cases k<;>simp[fT]at h<;>simp[IntKind.min,IntKind.max,IntKind.signed,IntKind.bits]<;>omega
 cases k<;>simp[IntKind.min,IntKind.max,IntKind.signed,IntKind.bits]at hb<;>simp only[IntKind.wrap,IntKind.signed,IntKind.bits]<;>simp<;>omega
theorem F6(k:IntKind)(n:Int):CL k n=k.wrap n:=by
 unfold CL
 cases h:BZ k n with
 | true=>simp[JF h]
 | false=>rfl
theorem CU(a b:Int):Ku a b=decide (a<b):=by
 cases a with
 | ofNat a=>cases b with
  | ofNat b=>rw[Bool.eq_iff_iff];simp only[Ku,fb,decide_eq_true_iff,g9];omega
  | negSucc b=>simp only[Ku];rw[eq_comm,decide_eq_false_iff_not];simp only[g9];omega
 | negSucc a=>cases b with
  | ofNat b=>simp only[Ku];rw[eq_comm,decide_eq_true_iff];simp only[g9];omega
  | negSucc b=>rw[Bool.eq_iff_iff];simp only[Ku,fb,decide_eq_true_iff];omega
theorem EN(a b:Int):MT a b=(a == b):=by
 rw[Bool.eq_iff_iff,beq_iff_eq]
 cases a with
 | ofNat a=>cases b with
  | ofNat b=>simp only[MT,gR,g9];omega
  | negSucc b=>simp[MT]
 | negSucc a=>cases b with
  | ofNat b=>simp[MT]
  | negSucc b=>simp only[MT,gR];omega
theorem CI{k k':IntKind}(h:Bn k k'=true):k=k':=by cases k<;>cases k'<;>first | rfl | cases h
theorem X3{n:Int}{m:Nat}(h:SJ n=some m):n=(m:Int):=by cases n<;>simp[SJ]at h;subst h;rfl
theorem Xc{P:Program}{ρ:A5}{op:BinOp}{k:IntKind}{a b:Int}{v:AV}(h:XZ P op k a b=some v)(t:TypeId)(w:World):
  ∃v',(Go.binOp op t (.int k a) (.int k b)).run P w=.ok v' w∧AK ρ v v':=by
 unfold XZ at h
 split at h
 case h_1=>injection h with h;subst h;exact⟨.int k (k.wrap (a+b)),by simp[Go.binOp,Op.intArith],by rw[F6];exact .int _ _⟩
 case h_2=>injection h with h;subst h;exact⟨.int k (k.wrap (a - b)),by simp[Go.binOp,Op.intArith],by rw[F6];exact .int _ _⟩
 case h_3=>injection h with h;subst h;exact⟨.int k (k.wrap (a * b)),by simp[Go.binOp,Op.intArith],by rw[F6];exact .int _ _⟩
 case h_4=>injection h with h;subst h;exact⟨.bool (a == b),by simp[Go.binOp,Op.intCmp],by rw[EN];exact .bool _⟩
 case h_5=>injection h with h;subst h;exact⟨.bool (a != b),by simp[Go.binOp,Op.intCmp],by rw[EN];exact .bool _⟩
 case h_6=>injection h with h;subst h;exact⟨.bool (a<b),by simp[Go.binOp,Op.intCmp],by rw[CU];exact .bool _⟩
 case h_7=>injection h with h;subst h;exact⟨.bool (a≤b),by simp[Go.binOp,Op.intCmp],by rw[CU,show(!decide (b<a))=decide (a≤b)from by rw[Bool.eq_iff_iff];simp];exact .bool _⟩
 case h_8=>injection h with h;subst h;exact⟨.bool (a > b),by simp[Go.binOp,Op.intCmp],by rw[CU];exact .bool _⟩
 case h_9=>injection h with h;subst h;exact⟨.bool (a≥b),by simp[Go.binOp,Op.intCmp],by rw[CU,show(!decide (a<b))=decide (a≥b)from by rw[Bool.eq_iff_iff];simp];exact .bool _⟩
 case h_10 =>
  simp only[fQ]at h
  obtain⟨u,hu,h⟩:=h
  exact⟨u,by have:=Em (w:=w) hu;simpa[Go.binOp]using this,Bi ρ h⟩
 case h_11 =>
  simp only[fQ]at h
  obtain⟨u,hu,h⟩:=h
  exact⟨u,by have:=Em (w:=w) hu;simpa[Go.binOp]using this,Bi ρ h⟩
 case h_12=>cases h
 case h_13=>cases h
 case h_14 =>
  simp only[fQ]at h
  obtain⟨u,hu,h⟩:=h
  refine⟨u,?_,Bi ρ h⟩
  have:=Em (w:=w) hu
  rename_i n1 n2 n3 n4 n5 n6 n7 n8 n9 n10 n11 n12 n13
  cases op<;>first | (exfalso;simp at *;done) | simpa[Go.binOp]using this
abbrev C1(l:List UInt8):List Nat:=l.map (fun(b:UInt8)=>b.toNat)
theorem toNat_inj{a b:UInt8}(h:a.toNat=b.toNat):a=b:=UInt8.toNat_inj.1 h
theorem Gz:∀ (x y:List UInt8),CB (C1 x) (C1 y)=(x == y)
 | [],[]=>rfl
 | [],_::_=>rfl
 | _::_,[]=>rfl
 | a::x,b::y=>by
  simp only[C1,fm,CB]
  by_cases e:a=b
  ·subst e
   have:Nat.beq a.toNat a.toNat=true:=by simp[gR]
   rw[this]
   have ih:=Gz x y
   simp only[C1]at ih
   simp[ih]
  ·have:Nat.beq a.toNat b.toNat=false:=AH.beq_no (fun h=>e (toNat_inj h))
   rw[this]
   simp[e]
theorem Kj:∀ (x y:List UInt8),F1 (C1 x) (C1 y)=Op.bytesLess x y
 | [],[]=>rfl
 | [],_::_=>rfl
 | _::_,[]=>rfl
 | a::x,b::y=>by
  simp only[C1,fm,F1,Op.bytesLess]
  have ih:=Kj x y
  simp only[C1]at ih
  have h1:Nat.blt a.toNat b.toNat=decide (a<b):=by rw[Bool.eq_iff_iff];simp[fb,UInt8.lt_iff_toNat_lt]
  have h2:Nat.beq a.toNat b.toNat=(a == b):=by
   rw[Bool.eq_iff_iff,beq_iff_eq,gR]
   exact⟨fun h=>toNat_inj h,fun h=>by rw[h]⟩
  rw[h1,h2,ih]
  cases decide (a<b)<;>cases (a == b)<;>rfl
theorem Eo(s:ByteArray):(C1 s.data.toList).length=s.size:=by simp[C1]
theorem Yl{P:Program}{ρ:A5}{op:BinOp}{x y:ByteArray}{v:AV}(h:SV op (C1 x.data.toList) (C1 y.data.toList)=some v)(w:World):
  ∃v',(Op.stringOp op x y).run P w=.ok v' w∧AK ρ v v':=by
 unfold SV at h
 rw[Gz,Kj,Eo,Eo]at h
 unfold Op.stringOp
 rw[ByteArray.toList_eq,ByteArray.toList_eq]
 split at h
 case h_1 =>
  obtain⟨hb,h⟩:=AA h
  injection h with h;subst h
  have hb':x.size+y.size≤1152921504606846976:=by simpa[fT]using hb
  refine⟨.string (x++y),?_,.str (by simp[C1])⟩
  have:¬ ((x.size+y.size:Nat):Int) > IntKind.i64.max:=by simp[IntKind.max,IntKind.signed,IntKind.bits];omega
  simp only[this,if_false]
  rfl
 case h_2=>injection h with h;subst h;exact⟨_,rfl,.bool _⟩
 case h_3=>injection h with h;subst h;exact⟨_,rfl,.bool _⟩
 case h_4=>injection h with h;subst h;exact⟨_,rfl,.bool _⟩
 case h_5=>injection h with h;subst h;exact⟨_,rfl,.bool _⟩
 case h_6=>injection h with h;subst h;exact⟨_,rfl,.bool _⟩
 case h_7=>injection h with h;subst h;exact⟨_,rfl,.bool _⟩
 case h_8=>cases h
section
variable{P:Program}{ρ:A5}{w:World}
theorem IZ{t:TypeId}(h:Fj P t=true):∃e,P.underlying t=some (.pointer e):=by
 unfold Fj at h;split at h
 ·rename_i e he;exact⟨e,he⟩
 ·cases h
theorem GX{t:TypeId}(h:HM P t=true):∃e,P.underlying t=some (.slice e):=by
 unfold HM at h;split at h
 ·rename_i e he;exact⟨e,he⟩
 ·cases h
theorem IY{t:TypeId}(h:H7 P t=true):∃k e,P.underlying t=some (.map k e):=by
 unfold H7 at h;split at h
 ·rename_i k e he;exact⟨k,e,he⟩
 ·cases h
theorem E9{t:TypeId}(h:HL P t=true):∃a b c,P.underlying t=some (.func a b c):=by
 unfold HL at h;split at h
 ·rename_i a b c he;exact⟨a,b,c,he⟩
 ·cases h
theorem MZ{t:TypeId}(h:MY P t=true):P.underlying t=some .bool:=by
 unfold MY at h;split at h
 ·rename_i he;exact he
 ·cases h
set_option maxHeartbeats 1000000 in
theorem cQ{t:TypeId}{x y:AV}{x' y':Value}{b:Bool}(h:Z7 P t x y=some b)(hx:AK ρ x x')(hy:AK ρ y y')(d:Nat):
  (Op.equalIn (d+1) t x' y').run P w=.ok b w:=by
 unfold Z7 at h
 split at h
 all_goals first | (cases h;done) | skip
 ·obtain⟨ht,h⟩:=AA h
  injection h with h;subst h
  cases hx;cases hy
  simp[Op.equalIn,AF (MZ ht)]
 ·obtain⟨ht,h⟩:=AA h
  injection h with h;subst h
  obtain⟨e,ht⟩:=IZ ht
  cases hx;cases hy<;>simp[Op.equalIn,AF ht]
 ·obtain⟨ht,h⟩:=AA h
  injection h with h;subst h
  obtain⟨e,ht⟩:=IZ ht
  cases hy;cases hx<;>simp[Op.equalIn,AF ht]
 ·obtain⟨ht,h⟩:=AA h
  injection h with h;subst h
  obtain⟨e,ht⟩:=GX ht
  cases hx;cases hy<;>simp[Op.equalIn,AF ht]
 ·obtain⟨ht,h⟩:=AA h
  injection h with h;subst h
  obtain⟨e,ht⟩:=GX ht
  cases hy;cases hx<;>simp[Op.equalIn,AF ht]
 ·obtain⟨ht,h⟩:=AA h
  injection h with h;subst h
  obtain⟨k,e,ht⟩:=IY ht
  cases hx;cases hy<;>simp[Op.equalIn,AF ht]
 ·obtain⟨ht,h⟩:=AA h
  injection h with h;subst h
  obtain⟨k,e,ht⟩:=IY ht
  cases hy;cases hx<;>simp[Op.equalIn,AF ht]
 ·obtain⟨ht,h⟩:=AA h
  injection h with h;subst h
  obtain⟨a,b,c,ht⟩:=E9 ht
  cases hy;cases hx;simp[Op.equalIn,AF ht]
 ·obtain⟨ht,h⟩:=AA h
  injection h with h;subst h
  obtain⟨a,b,c,ht⟩:=E9 ht
  cases hy;cases hx;simp[Op.equalIn,AF ht]
 ·obtain⟨ht,h⟩:=AA h
  injection h with h;subst h
  obtain⟨a,b,c,ht⟩:=E9 ht
  cases hy;cases hx;simp[Op.equalIn,AF ht]
theorem XP{t:TypeId}{x y:AV}{x' y':Value}{b:Bool}(h:Z7 P t x y=some b)(hx:AK ρ x x')(hy:AK ρ y y'):
  (Op.equal t x' y').run P w=.ok b w:=cQ h hx hy 9999
def YH:Value→Bool
 | .nilIface | .agg _=>false
 | _=>true
theorem D3{x':Value}(h:YH x'=true)(op:BinOp)(t:TypeId)(ox oy:Operand)(y':Value):
  (eqGuard op t ox oy x' y').run P w=.ok () w:=by
 cases x'<;>first | (cases h;done) | (cases op<;>rfl)
theorem LA{t:TypeId}{x y:AV}{x':Value}{b:Bool}(h:Z7 P t x y=some b)(hx:AK ρ x x'):YH x'=true:=by
 unfold Z7 at h
 split at h<;>first | (cases h;done) | (cases hx<;>rfl)
theorem QV      {op : BinOp} {t : TypeId} {x y v : AV} {x' y' : Value} (h : AM   P op t x y = some v) (hx : AK   ρ x x') (hy : AK   ρ y y') (ox oy : Operand) :
    ∃v',(do eqGuard op t ox oy x' y';Go.binOp op t x' y').run P w=.ok v' w∧AK ρ v v':=by
  unfold AM at h
  split at h
  · cases hx;cases hy
    rename_i k a k' b
    rw[Sem.run_bind,D3 rfl]
    simp only[Result.andThen_ok]
    split at h
    · simp only[fQ]at h
      obtain⟨u,hu,h⟩:=h
      exact⟨u,by have:=Em (w:=w) hu;simpa[Go.binOp]using this,Bi ρ h⟩
    · simp only[fQ]at h
      obtain⟨u,hu,h⟩:=h
      exact⟨u,by have:=Em (w:=w) hu;simpa[Go.binOp]using this,Bi ρ h⟩
    · obtain⟨hk,h2⟩:=AA h
      have hkk:=CI hk
      subst hkk
      exact Xc h2 t w
  · cases hx;cases hy
    rename_i a b s1 h1 s2 h2
    subst h1;subst h2
    rw[Sem.run_bind,D3 rfl]
    simp only[Result.andThen_ok]
    obtain⟨v',h1,h2⟩:=Yl (P:=P) (ρ:=ρ) h w
    refine⟨v',?_,h2⟩
    rw[← h1]
    cases op<;>first | rfl | (simp[SV]at h;done)
  · split at h
    · simp only[fQ]at h
      obtain⟨b,hb,h⟩:=h
      injection h with h;subst h
      rw[Sem.run_bind,D3 (LA hb hx)]
      simp only[Result.andThen_ok]
      refine⟨.bool b,?_,.bool b⟩
      have he:=XP (w:=w) hb hx hy
      have:Go.binOp .eql t x' y'=(do pure (.bool (← Op.equal t x' y')):Sem Value):=by
        unfold Z7 at hb
        split at hb<;>first | (cases hb;done) | (cases hx<;>cases hy<;>rfl)
      rw[this,Sem.run_bind,he]
      rfl
    · simp only[fQ]at h
      obtain⟨b,hb,h⟩:=h
      injection h with h;subst h
      rw[Sem.run_bind,D3 (LA hb hx)]
      simp only[Result.andThen_ok]
      refine⟨.bool (!b),?_,.bool _⟩
      have he:=XP (w:=w) hb hx hy
      have:Go.binOp .neq t x' y'=(do pure (.bool (!(← Op.equal t x' y'))):Sem Value):=by
        unfold Z7 at hb
        split at hb<;>first | (cases hb;done) | (cases hx<;>cases hy<;>rfl)
      rw[this,Sem.run_bind,he]
      rfl
    · cases h
theorem dG{op:UnOp}{x v:AV}{x':Value}(h:dF P op x=some v)(hx:AK ρ x x'):
  ∃v',(Op.unary op x').run P w=.ok v' w∧AK ρ v v':=by
 unfold dF at h
 split at h
 ·cases hx
  rename_i k n
  split at h
  ·injection h with h;subst h
   exact⟨.int k (k.wrap (0 - n)),rfl,by rw[F6];exact .int _ _⟩
  ·simp only[fQ]at h
   obtain⟨u,hu,h⟩:=h
   exact⟨u,Em hu,Bi ρ h⟩
  ·cases h
 ·cases hx
  split at h
  ·injection h with h;subst h
   exact⟨_,rfl,.bool _⟩
  ·cases h
 ·cases h
theorem Ml{x v:AV}{x':Value}(h:IB x=some v)(hx:AK ρ x x')(ev:Operand→Value)(o:Oper)(y:Operand)(ho:o.op=.nilCheck y)(he:ev y=x'):
  ∃v',(execOp ev o).run P w=.ok (.value v') w∧AK ρ v v':=by
 unfold IB at h
 split at h<;>first | (cases h;done) | skip
 injection h with h;subst h
 refine⟨x',?_,hx⟩
 cases hx<;>first | (simp only[execOp,ho,he];done) | (simp only[execOp,ho,he];rfl) | (exfalso;simp_all;done)
theorem Nf{x v:AV}{i:Nat}{x':Value}(h:Za x i=some v)(hx:AK ρ x x'):
  ∃v',(Instr.extract x' i).run P w=.ok v' w∧AK ρ v v':=by
 unfold Za at h
 split at h<;>first | (cases h;done) | skip
 cases hx with
 | tuple hs =>
  rename_i cs'
  obtain⟨v',h1,h2⟩:=hs.get h
  refine⟨v',?_,h2⟩
  have:cs'[i]? = some v':=by rw[← Array.getElem?_toList];exact h1
  simp[Instr.extract,this]
theorem N8{t:TypeId}{cs:List AV}{cs':Array Value}{off:Nat}{v:AV}(h:SN P t cs off=some v)(hc:AJ ρ cs cs'.toList):
  ∃v',(part t cs' off).run P w=.ok v' w∧AK ρ v v':=by
 unfold SN at h
 simp only[fQ]at h
 obtain⟨g,hg,h⟩:=h
 cases g with
 | true =>
  simp only[fQ]at h
  obtain⟨n,hn,h⟩:=h
  injection h with h;subst h
  refine⟨.agg (cs'.extract off (off+n)),by simp[part,GK hg,Ap hn],.agg ?_⟩
  have:(cs'.extract off (off+n)).toList=(cs'.toList.drop off).take n:=by
   rw[Array.toList_extract,List.extract_eq_take_drop]
   congr 1
   omega
  rw[this]
  exact(hc.drop off).take n
 | false =>
  obtain⟨v',h1,h2⟩:=hc.get h
  refine⟨v',?_,h2⟩
  have:cs'[off]? = some v':=by rw[← Array.getElem?_toList];exact h1
  simp[part,GK hg,this]
theorem Jx{x:AV}{x':Value}{k:Nat}(h:GW x=some k)(hx:AK ρ x x'):∃kd,x'=.int kd (k:Int):=by
 unfold GW at h
 split at h<;>first | (cases h;done) | skip
 cases hx
 rename_i kd n
 exact⟨kd,by rw[X3 h]⟩
theorem Sw{t:TypeId}{x v:AV}{x':Value}{f:Nat}(h:Pb P t x f=some v)(hx:AK ρ x x'):
  ∃v',(Instr.field t x' f).run P w=.ok v' w∧AK ρ v v':=by
 unfold Pb at h
 split at h<;>first | (cases h;done) | skip
 split at h<;>first | (cases h;done) | skip
 rename_i fs hfs
 simp only[fQ]at h
 obtain⟨fd,hfd,h⟩:=h
 cases hx with
 | agg hs =>
  obtain⟨v',h1,h2⟩:=N8 (w:=w) h hs
  exact⟨v',by simp[Instr.field,AF hfs,hfd,asAgg,h1],h2⟩
theorem Sz        {t : TypeId} {x ix v : AV} {x' ix' : Value} (h : Ph     P t x ix = some v) (hx : AK   ρ x x') (hi : AK   ρ ix ix') :
    ∃v',(Instr.index t x' ix').run P w=.ok v' w∧AK ρ v v':=by
  unfold Ph at h
  simp only[fQ]at h
  obtain⟨k,hk,h⟩:=h
  obtain⟨kd,rfl⟩:=Jx hk hi
  split at h<;>first | (cases h;done) | skip
  · split at h<;>first | (cases h;done) | skip
    rename_i len e he
    simp only[fQ]at h
    obtain⟨n,hn,h⟩:=h
    obtain⟨hlt,h⟩:=AA h
    have hlt':k<len:=by simpa[fb]using hlt
    cases hx with
    | agg hs =>
      obtain⟨v',h1,h2⟩:=N8 (w:=w) h hs
      refine⟨v',?_,h2⟩
      have:(0:Int)≤(k:Int)∧(k:Int)<(len:Int):=by omega
      simp only[Instr.index,asIntOf,Sem.run_bind,Sem.run_pure,Result.andThen_ok,AF he,this,and_self,if_true,Ap hn]
      simpa using h1
  · split at h <;> first | (cases h; done) | skip
    rename_i l _ he
    simp only[fQ]at h
    obtain⟨b,hb,h⟩:=h
    injection h with h;subst h
    cases hx with
    | str hs =>
      rename_i s
      subst hs
      rw[gq]at hb
      simp only[Option.map_eq_some_iff]at hb
      obtain⟨u,hu,rfl⟩:=hb
      refine⟨.int .u8 u.toNat,?_,.int _ _⟩
      have h0:(0:Int)≤(k:Int):=by omega
      have:s[k]? = some u:=by
        rw[← hu]
        rcases fS k s.size with hlt | hge
        · rw [getElem?_pos s k hlt, fX                       (by simpa using hlt)]
          rfl
        · rw[getElem?_neg s k (by omega),ff (by simpa using hge)]
      simp[Instr.index,asIntOf,AF he,this]
end
structure FY(P:Program)(ρ:A5)(w:World)(l:EE)(rb:RB):Prop where
 ex:∃L:Loop,w.heap[rb.b]? = some (.loop L)∧L.state=l.state∧L.pending=l.pending∧L.params=l.params∧L.assign=l.assign∧L.body=l.body ∧
  (∃rd,ρ l.dfr=some rd∧L.defers=rd.b)∧DN ρ (De P l.fn) l.var L.tmps∧(∀fn,P.funcs[l.fn]? = some fn→fn.ntmps≤L.tmps.size)∧l.var.length=(De P l.fn).length
def Cv(P:Program)(ρ:A5)(w:World):Af→RB→Prop
 | .row r,rb=>BF ρ w r rb
 | .map kt es,rb=>GT P ρ w kt es rb
 | .mapRo kt es,rb=>GT P ρ w kt es rb
 | .loop l,rb=>FY P ρ w l rb
 | .mark,rb=>w.heap[rb.b]? = some (.deferred (some []))
 | .iter _ _,_=>False
def wr:Af→Bool
 | .row r=>CQ r.mode
 | .mapRo _ _=>false
 | _=>true
def FS:Af→Option Nat
 | .row r=>r.par
 | _=>none
def Da:Af→Option Nat
 | .row r=>r.glob
 | _=>none
structure Aw(P:Program)(ρ:A5)(s:AD)(w:World):Prop where
 obj:∀i o rb,s.heap.get i=some o→ρ i=some rb→Cv P ρ w o rb
 lt:∀i rb,ρ i=some rb→rb.b<w.heap.size
 sep:∀i j oi oj ri rj,i≠j→s.heap.get i=some oi→s.heap.get j=some oj→ρ i=some ri→ρ j=some rj→ri.b=rj.b→wr oj=true→FS oj=some i∧wr oi=false
 glb:∀i o g,s.heap.get i=some o→Da o=some g→∃rb,ρ i=some rb
def FR(ρ:A5)(s:AD)(b:Nat):Prop:=∃i o rb,s.heap.get i=some o∧wr o=true∧ρ i=some rb∧rb.b=b
structure Fr(ρ:A5)(s:AD)(w:World)(ρ':A5)(s':AD)(w':World):Prop where
 le:ρ.le ρ'
 fresh:∀i,ρ i=none→(i<s.next∨s'.next≤i)→ρ' i=none
 next:s.next≤s'.next
 size:w.heap.size≤w'.heap.size
 os:w'.os=w.os
 tape:w'.tape=w.tape
 output:w'.output=w.output
 keep:∀b,b<w.heap.size→¬ FR ρ s b→w'.heap[b]? = w.heap[b]?
 own:∀b,FR ρ' s' b→FR ρ s b∨w.heap.size≤b
 unborn:∀i,ρ i=none→(i<s.next∨s'.next≤i)→s'.heap.get i=s.heap.get i
section
variable{P:Program}{ρ ρ1 ρ2:A5}{s s1 s2:AD}{w w1 w2:World}
theorem Fr.refl(ρ:A5)(s:AD)(w:World):Fr ρ s w ρ s w:=
 ⟨A5.le_refl ρ,fun _ h _=>h,fR _,fR _,rfl,rfl,rfl,fun _ _ _=>rfl,fun _ h=>.inl h,fun _ _ _=>rfl⟩
theorem Fr.trans(h:Fr ρ s w ρ1 s1 w1)(k:Fr ρ1 s1 w1 ρ2 s2 w2):Fr ρ s w ρ2 s2 w2 where
 le:=A5.le_trans h.le k.le
 fresh:=fun i hi hr=>k.fresh i (h.fresh i hi (hr.imp id (fun h'=>fU k.next h'))) (hr.imp (fun h'=>fV h' h.next) id)
 next:=fU h.next k.next
 size:=fU h.size k.size
 os:=k.os.trans h.os
 tape:=k.tape.trans h.tape
 output:=k.output.trans h.output
 keep:=fun b hb ho=>(k.keep b (fV hb h.size) (fun ho1=>(h.own b ho1).elim ho (fun hge=>by omega))).trans (h.keep b hb ho)
 own:=fun b hb=>(k.own b hb).elim (fun h1=>h.own b h1) (fun hge=>.inr (fU h.size hge))
 unborn:=fun i hi hr=>(k.unborn i (h.fresh i hi (hr.imp id (fun h'=>fU k.next h'))) (hr.imp (fun h'=>fV h' h.next) id)).trans (h.unborn i hi (hr.imp id (fun h'=>fU k.next h')))
theorem HD{a:Addr}(h:w1.heap[a.block]? = w.heap[a.block]?):w1.cell? a=w.cell? a:=by simp[World.cell?,h]
theorem DN.mono{σ:A5}(le:ρ.le σ){vars:List Tmp}{var:List AV}{tmps:Array Value}(h:DN ρ vars var tmps):DN σ vars var tmps:=
 fun t k hk=>let ⟨h1,v,h2,h3⟩:=h t k hk;⟨h1,v,h2,h3.mono le⟩
theorem Cv.mono    {o : Af}   {rb : RB} (h : Cv    P ρ w o rb) (le : ρ.le ρ1) (hk : w1.heap[rb.b]? = w.heap[rb.b]?) : Cv    P ρ1 w1 o rb := by
  cases o with
  | row r =>
    exact⟨fun k v hk' hv=>by
        obtain⟨v',h1,h2⟩:=h.cells k v hk' hv
        exact⟨v',(HD (a:=⟨rb.b,_,none⟩) hk).trans h1,h2.mono le⟩,
      h.le,h.sz,h.tight,fun hm=>by
        obtain⟨cs,h1,h2⟩:=h.own hm
        exact⟨cs,hk.trans h1,h2⟩,h.base,h.gl,fun p hp=>let ⟨rp,h1⟩:=h.par p hp;⟨rp,le _ _ h1⟩⟩
  | map kt es =>
    obtain⟨es',clock,h1,h2,⟨l,h3,h4⟩,h5⟩:=h.ex
    exact⟨es',clock,hk.trans h1,h2,⟨l,h3,h4.mono le⟩,h5⟩
  | mapRo kt es =>
    obtain⟨es',clock,h1,h2,⟨l,h3,h4⟩,h5⟩:=h.ex
    exact⟨es',clock,hk.trans h1,h2,⟨l,h3,h4.mono le⟩,h5⟩
  | loop l =>
    obtain⟨L,h0,h1,h2,h4,h5,h6,⟨rd,h7,h7'⟩,h8,h9⟩:=h.ex
    exact⟨L,hk.trans h0,h1,h2,h4,h5,h6,⟨rd,le _ _ h7,h7'⟩,h8.mono le,h9⟩
  | mark=>exact hk.trans h
  | iter=>exact h
def Bc(ρ:A5)(i:Nat)(rb:RB):A5:=fun j=>if j=i then some rb else ρ j
theorem AQ(i:Nat)(rb:RB):Bc ρ i rb i=some rb:=by simp[Bc]
theorem AL{i j:Nat}(rb:RB)(h:j≠i):Bc ρ i rb j=ρ j:=by simp[Bc,h]
theorem Ay{i:Nat}{rb:RB}(h:ρ i=none):ρ.le (Bc ρ i rb):=fun j r hj=>by
 have:j≠i:=fun e=>by subst e;rw[h]at hj;cases hj
 rw[AL rb this];exact hj
theorem An(s:AD)(o:Af)(j:Nat):(newObj s o).heap.get j=if j=s.next then some o else s.heap.get j:=AH.get_set _ _ _ _
theorem BU(s:AD)(i:Nat)(o:Af)(j:Nat):(setObj s i o).heap.get j=if j=i then some o else s.heap.get j:=AH.get_set _ _ _ _
theorem BE(s:AD)(i j:Nat):(Bu s i).heap.get j=if j=i then none else s.heap.get j:=AH.get_del _ _ _
theorem EP{o:Obj}{b:Nat}(h:b<w.heap.size):(w.alloc o).heap[b]? = w.heap[b]? :=
 Go.RowKit.Below.heap_alloc w o b h
theorem Aw.new  (h : Aw  P ρ s w) {o : Af}   {o' : Obj} {rb : RB} (hf : ρ s.next = none) (hb : rb.b = w.heap.size)
    (ho:Cv P (Bc ρ s.next rb) (w.alloc o') o rb):
    Aw P (Bc ρ s.next rb) (newObj s o) (w.alloc o')∧Fr ρ s w (Bc ρ s.next rb) (newObj s o) (w.alloc o'):=by
  have hle:=Ay (rb:=rb) hf
  have hglb:∀i oi g,(newObj s o).heap.get i=some oi→Da oi=some g→∃r,Bc ρ s.next rb i=some r:=by
    intro i oi g hi hg
    rw[An]at hi
    by_cases e:i=s.next
    · subst e;exact⟨_,AQ _ _⟩
    · rw[if_neg e]at hi
      obtain⟨r,hr⟩:=h.glb i oi g hi hg
      exact⟨r,hle _ _ hr⟩
  refine⟨⟨?_,?_,?_,hglb⟩,?_⟩
  · intro i oi ri hi hr
    rw[An]at hi
    by_cases e:i=s.next
    · subst e
      rw[if_pos rfl]at hi
      injection hi with hi
      rw[AQ]at hr
      injection hr with hr
      subst hi;subst hr
      exact ho
    · rw [if_neg e] at hi
      rw[AL rb e]at hr
      exact(h.obj i oi ri hi hr).mono hle (EP (h.lt i ri hr))
  · intro i ri hr
    by_cases e:i=s.next
    · subst e
      rw[AQ]at hr
      injection hr with hr
      subst hr
      simp[hb]
    · rw[AL rb e]at hr
      have:=h.lt i ri hr
      simp;omega
  · intro i j oi oj ri rj hne hi hj hri hrj hbb hw
    rw[An]at hi hj
    by_cases ei:i=s.next
    · subst ei
      have ej:j≠s.next:=fun e=>hne e.symm
      rw[AQ]at hri
      rw[AL rb ej]at hrj
      injection hri with hri
      subst hri
      have:=h.lt j rj hrj
      omega
    · by_cases ej : j = s.next
      · subst ej
        rw[AL rb ei]at hri
        rw[AQ]at hrj
        injection hrj with hrj
        subst hrj
        have:=h.lt i ri hri
        omega
      · rw [if_neg ei] at hi
        rw[if_neg ej]at hj
        rw[AL rb ei]at hri
        rw[AL rb ej]at hrj
        exact h.sep i j oi oj ri rj hne hi hj hri hrj hbb hw
  · refine ⟨hle, ?_, by simp [newObj], by simp, rfl, rfl, rfl, fun b hb _ => EP            hb, ?_, ?_⟩
    · intro i hi hr
      have:i≠s.next:=by simp[newObj]at hr;omega
      rw[AL rb this];exact hi
    · rintro b ⟨i, oi, ri, hi, hw, hr, rfl⟩
      rw[An]at hi
      by_cases e:i=s.next
      · subst e
        rw[AQ]at hr
        injection hr with hr
        subst hr
        exact .inr (by omega)
      · rw [if_neg e] at hi
        rw[AL rb e]at hr
        exact .inl ⟨i,oi,ri,hi,hw,hr,rfl⟩
    · intro i _ hi
      rw[An,if_neg (by simp[newObj]at hi;omega)]
theorem Aw.set  (h : Aw  P ρ s w) {i : Nat} {o o1 : Af}   {rb : RB} (hg : s.heap.get i = some o) (hr : ρ i = some rb) (hw : wr o = true) (hp : ∀ p, FS    o = some p → p ≠ i → s.heap.get p = none)
    (hp1:FS o1=none) (hsz:w1.heap.size=w.heap.size) (hkeep:∀b,b≠rb.b→w1.heap[b]? = w.heap[b]?) (hos:w1.os=w.os) (htape:w1.tape=w.tape) (hout:w1.output=w.output)
    (ho:Cv P ρ w1 o1 rb):Aw P ρ (setObj s i o1) w1∧Fr ρ s w ρ (setObj s i o1) w1:=by
  have hsep:∀j oj rj,j≠i→s.heap.get j=some oj→ρ j=some rj→rj.b≠rb.b:=by
    intro j oj rj hne hj hrj e
    have:=hp j (h.sep j i oj o rj rb hne hj hg hrj hr e hw).1 hne
    rw[hj]at this
    cases this
  have hglb:∀j oj g,(setObj s i o1).heap.get j=some oj→Da oj=some g→∃r,ρ j=some r:=by
    intro j oj g hj hg
    rw[BU]at hj
    by_cases e:j=i
    · subst e;exact⟨_,hr⟩
    · rw[if_neg e]at hj
      exact h.glb j oj g hj hg
  refine⟨⟨?_,?_,?_,hglb⟩,?_⟩
  · intro j oj rj hj hrj
    rw[BU]at hj
    by_cases e:j=i
    · subst e
      rw[if_pos rfl]at hj
      injection hj with hj
      subst hj
      rw[hr]at hrj
      injection hrj with hrj
      subst hrj
      exact ho
    · rw[if_neg e]at hj
      exact(h.obj j oj rj hj hrj).mono (A5.le_refl ρ) (hkeep _ (hsep j oj rj e hj hrj))
  · intro j rj hrj
    rw[hsz];exact h.lt j rj hrj
  · intro j k oj ok rj rk hne hj hk hrj hrk hbb hwk
    rw[BU]at hj hk
    by_cases ej:j=i
    · subst ej
      have ek:k≠j:=fun e=>hne e.symm
      rw[if_neg ek]at hk
      rw[hr]at hrj
      injection hrj with hrj
      subst hrj
      exact absurd hbb.symm (hsep k ok rk ek hk hrk)
    · by_cases ek : k = i
      · subst ek
        rw[if_neg ej]at hj
        rw[hr]at hrk
        injection hrk with hrk
        subst hrk
        exact absurd hbb (hsep j oj rj ej hj hrj)
      · rw [if_neg ej] at hj
        rw[if_neg ek]at hk
        exact h.sep j k oj ok rj rk hne hj hk hrj hrk hbb hwk
  · refine ⟨A5.le_refl  ρ, fun _ h _ => h, fR          _, by omega, hos, htape, hout, ?_, ?_, ?_⟩
    · intro b _ hno
      exact hkeep b (fun e=>hno ⟨i,o,rb,hg,hw,hr,e.symm⟩)
    · rintro b ⟨j, oj, rj, hj, hwj, hrj, rfl⟩
      rw[BU]at hj
      by_cases e:j=i
      · subst e
        rw[hr]at hrj
        injection hrj with hrj
        subst hrj
        exact .inl ⟨j,o,rb,hg,hw,hr,rfl⟩
      · rw[if_neg e]at hj
        exact .inl ⟨j,oj,rj,hj,hwj,hrj,rfl⟩
    · intro j hrj _
      rw[BU,if_neg]
      intro e
      subst e
      rw[hr]at hrj
      cases hrj
theorem Aw.del  (h : Aw  P ρ s w) {i : Nat} {rb : RB} (hr : ρ i = some rb) : Aw  P ρ (Bu     s i) w ∧ Fr ρ s w ρ (Bu     s i) w := by
  have hglb:∀j oj g,(Bu s i).heap.get j=some oj→Da oj=some g→∃r,ρ j=some r:=by
    intro j oj g hj hg
    rw[BE]at hj
    by_cases e:j=i
    · rw[if_pos e]at hj;cases hj
    · rw[if_neg e]at hj
      exact h.glb j oj g hj hg
  refine⟨⟨?_,h.lt,?_,hglb⟩,⟨A5.le_refl ρ,fun _ h _=>h,fR _,fR _,rfl,rfl,rfl,fun _ _ _=>rfl,?_,?_⟩⟩
  · intro j oj rj hj hrj
    rw[BE]at hj
    by_cases e:j=i
    · rw[if_pos e]at hj;cases hj
    · rw[if_neg e]at hj
      exact h.obj j oj rj hj hrj
  · intro j k oj ok rj rk hne hj hk
    rw[BE]at hj hk
    by_cases ej:j=i
    · rw[if_pos ej]at hj;cases hj
    · by_cases ek : k = i
      · rw[if_pos ek]at hk;cases hk
      · rw [if_neg ej] at hj
        rw[if_neg ek]at hk
        exact h.sep j k oj ok rj rk hne hj hk
  · rintro b ⟨j, oj, rj, hj, hwj, hrj, rfl⟩
    rw[BE]at hj
    by_cases e:j=i
    · rw[if_pos e]at hj;cases hj
    · rw[if_neg e]at hj
      exact .inl ⟨j,oj,rj,hj,hwj,hrj,rfl⟩
  · intro j hrj _
    rw[BE,if_neg]
    intro e
    subst e
    rw[hr]at hrj
    cases hrj
theorem Au{i:Nat}{r:B7}(h:rowAt s i=some r):s.heap.get i=some (.row r):=by
 unfold rowAt at h
 split at h
 ·injection h with h;subst h;assumption
 ·cases h
theorem Bq(b o k:Nat):(⟨b,o,none⟩:Addr).add k=⟨b,o+k,none⟩:=by unfold Addr.add;split<;>simp_all
theorem Cc(h:Aw P ρ s w){i off n:Nat}{l:List AV}{rb:RB}(hr:ρ i=some rb)(hl:Be s i off n=some l):
  ∃l':List Value,AJ ρ l l'∧l'.length=n∧∀w1:World,w1.heap=w.heap→(loadCells ⟨rb.b,rb.off+off,none⟩ n).run P w1=.ok l'.toArray w1:=by
 unfold Be at hl
 simp only[fQ]at hl
 obtain⟨r,hrow,hl⟩:=hl
 obtain⟨hb,hl⟩:=AA hl
 have hb:off+n≤r.n:=by simpa[fT]using hb
 have hok:BF ρ w r rb:=h.obj i _ rb (Au hrow) hr
 have hlen:=AH.take_length hl
 have hc:∀k,k<n→∃v v',l[k]? = some v∧w.cell? ⟨rb.b,rb.off+off+k,none⟩=some v'∧AK ρ v v':=by
  intro k hk
  have hv:l[k]? = some l[k]:=fX (by omega)
  have hg:=AH.take_get hl k hk
  rw[hv]at hg
  obtain⟨v',h1,h2⟩:=hok.cells (off+k) _ (by omega) hg
  exact⟨l[k],v',hv,by rw[show rb.off+off+k=rb.off+(off+k)from by omega];exact h1,h2⟩
 let f:Nat→Value:=fun k=>(w.cell? ⟨rb.b,rb.off+off+k,none⟩).getD undef
 have hf:∀k,k<n→w.cell? ⟨rb.b,rb.off+off+k,none⟩=some (f k):=by
  intro k hk
  obtain⟨v,v',_,h2,_⟩:=hc k hk
  simp[f,h2]
 refine⟨(List.range n).map f,?_,by simp,?_⟩
 ·refine AJ.of_get (by simp[hlen]) ?_
  intro k v v' hv hv'
  have hk:k<n:=by
   rcases fS k n with h' | h'
   ·exact h'
   ·rw[ff (by omega)]at hv;cases hv
  obtain⟨u,u',h1,h2,h3⟩:=hc k hk
  rw[h1]at hv
  injection hv with hv
  subst hv
  rw[gq,List.getElem?_range hk]at hv'
  simp only[gS]at hv'
  injection hv' with hv'
  rw[← hv']
  have:f k=u':=by simp[f,h2]
  rw[this];exact h3
 ·intro w1 he
  exact run_loadCells w1 _ n f (fun j hj=>by rw[Bq];exact(HD (by rw[he])).trans (hf j hj))
theorem J3(h:Aw P ρ s w){i off:Nat}{v:AV}{rb:RB}(hr:ρ i=some rb)(hl:Cb s i off=some v):
  ∃v',AK ρ v v'∧w.cell? ⟨rb.b,rb.off+off,none⟩=some v':=by
 unfold Cb at hl
 simp only[fQ]at hl
 obtain⟨r,hrow,hl⟩:=hl
 obtain⟨hb,hl⟩:=AA hl
 have hb:off<r.n:=by simpa[fb]using hb
 have hok:BF ρ w r rb:=h.obj i _ rb (Au hrow) hr
 obtain⟨v',h1,h2⟩:=hok.cells off v hb hl
 exact⟨v',h2,h1⟩
theorem J5       (h : Aw  P ρ s w) {t : TypeId} {a v : AV} {a' : Value} (hl : AE    P s t a = some v) (ha : AK   ρ a a') :
    ∃v',(Instr.loadAt t a').run P w=.ok v' w∧AK ρ v v'∧∃ad,a'=.pointer (some ad)∧(loadVar t ad).run P w=.ok v' w:=by
  unfold AE at hl
  split at hl<;>first | (cases hl;done) | skip
  · rename_i i o
    cases ha
    simp only[fQ]at hl
    obtain⟨r,hgr,g,hg,hl⟩:=hl
    have hrow:rowAt s i=some r∧r.glob=some i:=by
      unfold MX at hgr
      simp only[fQ]at hgr
      obtain⟨r',h1,h2⟩:=hgr
      split at h2<;>first | (cases h2;done) | skip
      rename_i g' hg'
      obtain⟨h3,h4⟩:=AA h2
      injection h4 with h4
      subst h4
      exact⟨h1,by rw[hg',fW h3]⟩
    obtain⟨rb,hr⟩:=h.glb i _ i (Au hrow.1) hrow.2
    have hok:BF ρ w r rb:=h.obj i _ rb (Au hrow.1) hr
    obtain⟨hb,ho⟩:=hok.gl i hrow.2
    cases g with
    | true =>
      simp only[fQ]at hl
      obtain⟨n,hn,l,hl,hv⟩:=hl
      injection hv with hv;subst hv
      obtain⟨l',h1,h2,h3⟩:=Cc h hr hl
      rw[hb,ho,fY]at h3
      have hrun:(loadVar t ⟨i,o,none⟩).run P w=.ok (.agg l'.toArray) w:=by
        simp[loadVar,GK hg,Ap hn,h3 w rfl]
      exact⟨.agg l'.toArray,by simp[Instr.loadAt,Instr.sureAddr,hrun],.agg (by simpa using h1),_,rfl,hrun⟩
    | false =>
      obtain⟨v',h1,h2⟩:=J3 h hr hl
      rw[hb,ho,fY]at h2
      have hrun:(loadVar t ⟨i,o,none⟩).run P w=.ok v' w:=by
        simp[loadVar,GK hg,h2]
      exact⟨v',by simp[Instr.loadAt,Instr.sureAddr,hrun],h1,_,rfl,hrun⟩
  rename_i i o
  cases ha with
  | ptr hr =>
    rename_i rb
    simp only[fQ]at hl
    obtain⟨g,hg,hl⟩:=hl
    cases g with
    | true =>
      simp only[fQ]at hl
      obtain⟨n,hn,l,hl,hv⟩:=hl
      injection hv with hv;subst hv
      obtain⟨l',h1,h2,h3⟩:=Cc h hr hl
      have hrun:(loadVar t ⟨rb.b,rb.off+o,none⟩).run P w=.ok (.agg l'.toArray) w:=by
        simp[loadVar,GK hg,Ap hn,h3 w rfl]
      exact⟨.agg l'.toArray,by simp[Instr.loadAt,Instr.sureAddr,hrun],.agg (by simpa using h1),_,rfl,hrun⟩
    | false =>
      obtain⟨v',h1,h2⟩:=J3 h hr hl
      have hrun:(loadVar t ⟨rb.b,rb.off+o,none⟩).run P w=.ok v' w:=by
        simp[loadVar,GK hg,h2]
      exact⟨v',by simp[Instr.loadAt,Instr.sureAddr,hrun],h1,_,rfl,hrun⟩
end
section
variable{P:Program}{ρ ρ1 ρ2:A5}{s s1 s2:AD}{w w1 w2:World}
theorem Xq{e:TypeId}{sz:Nat}{l:List AV}{cs:Array Value}(hl:AJ ρ l cs.toList)(b:Nat)(hb:w.heap[b]? = some (.cells cs e (0,0))):
  Cv P ρ w (Fq e sz l) ⟨b,0,l.length,sz⟩:=by
 have hlen:=hl.length
 refine⟨?_,fR _,rfl,fun _=>rfl,fun _=>⟨cs,hb,by simp[hlen]⟩,fun _=>rfl,(fun g hg=>by cases hg),fun p hp=>by cases hp⟩
 intro k v hk hv
 simp only[AH.get_fill,fa,fY,true_and,Nat.sub_zero]at hv
 rw[if_pos hk]at hv
 obtain⟨v',h1,h2⟩:=hl.get hv
 refine⟨v',?_,h2⟩
 simp only[World.cell?,hb,fY]
 rw[← Array.getElem?_toList]
 simpa using h1
theorem GH(h:Aw P ρ s w)(hf:ρ s.next=none){e:TypeId}{sz:Nat}{l:List AV}{cs:Array Value}(hl:AJ ρ l cs.toList):
  ∃ρ',ρ' s.next=some ⟨w.heap.size,0,l.length,sz⟩∧Aw P ρ' (newObj s (Fq e sz l)) (w.alloc (.cells cs e))∧Fr ρ s w ρ' (newObj s (Fq e sz l)) (w.alloc (.cells cs e)):=by
 have hle:=Ay (rb:=⟨w.heap.size,0,l.length,sz⟩) hf
 obtain⟨h1,h2⟩:=h.new (o:=Fq e sz l) (o':=.cells cs e) (rb:=⟨w.heap.size,0,l.length,sz⟩) hf rfl
  (Xq (hl.mono hle) _ (World.alloc_heap_new w _))
 exact⟨_,AQ _ _,h1,h2⟩
theorem GN        (h : Aw  P ρ s w) {i off : Nat} {vs : List AV} {vs' : List Value} {rb : RB} (hr : ρ i = some rb) (hs : CD     s i off vs = some s1) (hv : AJ    ρ vs vs') :
    ∃w1,(storeCells ⟨rb.b,rb.off+off,none⟩ vs').run P w=.ok () w1∧Aw P ρ s1 w1∧Fr ρ s w ρ s1 w1:=by
  cases vs with
  | nil =>
    cases hv
    simp only[CD]at hs
    injection hs with hs
    subst hs
    exact⟨w,rfl,h,Fr.refl _ _ _⟩
  | cons v0 vs0 =>
    have hsv:CD s i off (v0::vs0)=(rowAt s i).bind fun r =>
      AG (CQ r.mode && Nat.ble (off+(v0::vs0).length) r.n && Ar (v0::vs0))
        (some (setObj (BC s i r) i (.row { r with c:=r.c.fill off (v0::vs0),par:=none }))):=rfl
    rw[hsv]at hs
    generalize v0::vs0=vs at hs hv
    simp only[fQ]at hs
    obtain⟨r,hrow,hs⟩:=hs
    obtain⟨hb,hs⟩:=AA hs
    injection hs with hs
    subst hs
    simp only[Bool.and_eq_true,fT]at hb
    obtain⟨⟨hown,hle⟩,hall⟩:=hb
    have hg:=Au hrow
    have hok:BF ρ w r rb:=h.obj i _ rb hg hr
    have hmode:r.mode≠.ro:=fun e=>by rw[e]at hown;cases hown
    obtain⟨cs,hblk,hsz⟩:=hok.own hmode
    obtain⟨e,he0⟩:∃e,r.elem=e:=⟨_,rfl⟩
    rw[he0]at hblk
    have hlen:=hv.length
    have hfit:rb.off+off+vs'.length≤cs.size:=by have:=hok.le;omega
    have hrun:=run_storeCells_at P rb.b (rb.off+off) e vs' 0 cs w hblk (by simpa using hfit) (hv.oneCell hall)
    refine⟨_,hrun,?_⟩
    simp only[fi]
    generalize hnew:(cs.toList.take (rb.off+off)++vs'++cs.toList.drop (rb.off+off+vs'.length)).toArray=cs1
    have hblk1:(w.setRow rb.b cs1).heap[rb.b]? = some (.cells cs1 e (0,0)):=setRow_heap w rb.b cs cs1 e (0,0) hblk
    have hsize1:cs1.size=cs.size:=by rw[← hnew];simp;omega
    have hget:∀k,cs1[k]? = if rb.off+off≤k∧k<rb.off+off+vs'.length then vs'[k - (rb.off+off)]? else cs[k]? := by
      intro k
      rw[← hnew,List.getElem?_toArray]
      by_cases h1:k<rb.off+off
      · rw[if_neg (by omega),ft,gI (by simp;omega),gx h1,Array.getElem?_toList]
      · rw[ft,gJ (by simp;omega)]
        have hmin:(cs.toList.take (rb.off+off)).length=rb.off+off:=by simp;omega
        rw[hmin]
        by_cases h2:k<rb.off+off+vs'.length
        · rw[if_pos (by omega),gI (by omega)]
        · rw[if_neg (by omega),gJ (by omega),hX,← Array.getElem?_toList]
          congr 1
          omega
    have key:∀sx:AD,Aw P ρ sx w→Fr ρ s w ρ sx w→sx.heap.get i=some (.row r)→(∀p,r.par=some p→p≠i→sx.heap.get p=none) →
        Aw P ρ (setObj sx i (.row { r with c:=r.c.fill off vs,par:=none })) (w.setRow rb.b cs1) ∧
        Fr ρ s w ρ (setObj sx i (.row { r with c:=r.c.fill off vs,par:=none })) (w.setRow rb.b cs1):=by
      intro sx hx hfx hgx hpx
      obtain⟨h1,h2⟩:=hx.set (o1:=.row { r with c:=r.c.fill off vs,par:=none }) (w1:=w.setRow rb.b cs1) hgx hr (by simpa[wr]using hown) hpx rfl (by simp)
        (fun b hb=>setRow_other w rb.b b cs1 hb) rfl rfl rfl (by
          refine⟨?_,hok.le,hok.sz,hok.tight,fun _=>⟨cs1,by show _=some (Obj.cells cs1 r.elem (0,0));rw[he0];exact hblk1,by rw[hsize1];exact hsz⟩,hok.base,hok.gl,fun p hp=>by cases hp⟩
          intro k v hk hkv
          simp only[AH.get_fill]at hkv
          have hcell:(w.setRow rb.b cs1).cell? ⟨rb.b,rb.off+k,none⟩=cs1[rb.off+k]? := by simp[World.cell?,hblk1]
          rw[hcell,hget]
          by_cases hin:off≤k∧k<off+vs.length
          · rw [if_pos hin] at hkv
            rw[if_pos (by omega),show rb.off+k - (rb.off+off)=k - off from by omega]
            exact hv.get hkv
          · rw [if_neg hin] at hkv
            rw[if_neg (by omega)]
            obtain⟨v',h1,h2⟩:=hok.cells k v hk hkv
            refine⟨v',?_,h2⟩
            simpa[World.cell?,hblk]using h1)
      exact⟨h1,hfx.trans h2⟩
    unfold BC
    split
    · rename_i hp
      exact key s h (Fr.refl _ _ _) hg (fun p hp' _=>by rw[hp]at hp';cases hp')
    · rename_i p hp
      by_cases hpi:p=i
      · have:Nat.beq p i=true:=by rw[hpi];simp[gR]
        rw[this]
        exact key s h (Fr.refl _ _ _) hg (fun q hq hqi=>by rw[hp]at hq;injection hq with hq;exact absurd (hq.symm.trans hpi) hqi)
      · rw[AH.beq_no hpi]
        obtain⟨rp,hrp⟩:=hok.par p hp
        obtain⟨hd,hfd⟩:=h.del hrp
        exact key (Bu s p) hd hfd (by rw[BE,if_neg (fun e=>hpi e.symm)];exact hg) (fun q hq _=>by
          rw[hp]at hq
          injection hq with hq
          subst hq
          rw[BE,if_pos rfl])
theorem Ac{a b:Nat}(h:Nat.beq a b=true):a=b:=fW h
theorem TV(h:Aw P ρ s w){t:TypeId}{a v:AV}{a' v':Value}(hs:Aa P s t a v=some s1)(ha:AK ρ a a')(hv:AK ρ v v'):
  ∃w1,(Instr.storeAt t a' v').run P w=.ok () w1∧Aw P ρ s1 w1∧Fr ρ s w ρ s1 w1:=by
 unfold Aa at hs
 split at hs<;>first | (cases hs;done) | skip
 rename_i i o
 cases ha with
 | ptr hr =>
  rename_i rb
  simp only[fQ]at hs
  obtain⟨n,hn,hs⟩:=hs
  obtain⟨hb,hs⟩:=AA hs
  have hb:=Ac hb
  obtain⟨w1,h1,h2⟩:=GN h hr hs hv.cells
  refine⟨w1,?_,h2⟩
  have hc:v'.cells.size=n:=by have:=hv.cells.length;simp at this;omega
  simp[Instr.storeAt,Instr.sureAddr,storeVar,Ap hn,hc,h1]
def K5(P:Program)(ρ:A5)(s:AD)(w:World)(sem:Sem Value)(o:Af)(m:Made):Prop:=
 ∃v' w' ρ',sem.run P w=.ok v' w'∧AK ρ' (m.val s.next) v'∧Aw P ρ' (newObj s o) w'∧Fr ρ s w ρ' (newObj s o) w'
theorem Sk(h:Aw P ρ s w)(hf:ρ s.next=none){e:TypeId}{o:Af}{m:Made}(hs:As P e=some (o,m)):
  K5 P ρ s w (Instr.alloc e true (.tuple #[])) o m:=by
 unfold As at hs
 simp only[fQ]at hs
 obtain⟨z,hz,hs⟩:=hs
 injection hs with hs
 injection hs with h1 h2
 subst h1;subst h2
 obtain⟨z',hz',hzr⟩:=Hg (w:=w) ρ hz
 obtain⟨ρ',h1,h2,h3⟩:=GH h hf (e:=e) (sz:=0) hzr.cells
 exact⟨.pointer (some ⟨w.heap.size,0,none⟩),_,ρ',by simp[Instr.alloc,hz',newVar,newRow],AK.ptr h1,h2,h3⟩
theorem ZK(h:Aw P ρ s w)(hf:ρ s.next=none){e:TypeId}{v:AV}{v':Value}{o:Af}{m:Made}(hs:Cr e v=some (o,m))(hv:AK ρ v v'):
  K5 P ρ s w (Instr.box e v') o m:=by
 unfold Cr at hs
 injection hs with hs
 injection hs with h1 h2
 subst h1;subst h2
 obtain⟨ρ',h1,h2,h3⟩:=GH h hf (e:=e) (sz:=0) hv.cells
 exact⟨.pointer (some ⟨w.heap.size,0,none⟩),_,ρ',by simp[Instr.box,newVar,newRow],AK.ptr h1,h2,h3⟩
theorem Pt(h:Aw P ρ s w)(hf:ρ s.next=none)(t kt:TypeId):K5 P ρ s w (Instr.makeMap t none) (.map kt []) .map:=by
 have hle:=Ay (rb:=⟨w.heap.size,0,0,0⟩) hf
 obtain⟨h1,h2⟩:=h.new (o:=.map kt []) (o':=.map #[] 0) (rb:=⟨w.heap.size,0,0,0⟩) hf rfl ⟨#[],0,World.alloc_heap_new w _,MapKept.stamped_empty 0,⟨[],.refl _,.nil⟩,by simp⟩
 exact⟨.map (some w.heap.size),_,_,by simp[Instr.makeMap],AK.map (AQ _ _),h1,h2⟩
theorem Jp       {place : Nat → Option (Nat × Nat)} {place' : Nat → Option (Nat × Nat)} (hp : ∀ i p, place i = some p → place' i = some p) :
    ∀ {parts:List (Nat×AV)} {parts':List (Nat×Value)} {cs l:List AV} {cs':Array Value},Jo place cs parts=some l→AJ ρ cs cs'.toList →
      (parts.map (·.1)=parts'.map (·.1))→AJ ρ (parts.map (·.2)) (parts'.map (·.2))→∃l',Instr.fill place' cs' parts'=some l'∧AJ ρ l l'.toList:=by
  intro parts
  induction parts with
  | nil =>
    intro parts' cs l cs' h hc hm hv
    cases parts' with
    | nil=>simp[Jo]at h;subst h;exact⟨cs',rfl,hc⟩
    | cons=>simp at hm
  | cons p rest ih =>
    intro parts' cs l cs' h hc hm hv
    cases parts' with
    | nil=>simp at hm
    | cons p' rest' =>
      obtain⟨i,v⟩:=p
      obtain⟨i',v'⟩:=p'
      simp only[fm,List.cons.injEq]at hm
      obtain⟨hi,hm⟩:=hm
      skip
      subst hi
      simp only[fm]at hv
      cases hv with
      | cons hv hvs =>
        simp only[Jo,fQ]at h
        obtain⟨q,hq,h⟩:=h
        obtain⟨hb,h⟩:=AA h
        simp only[Bool.and_eq_true,fT]at hb
        obtain⟨hb1,hb2⟩:=hb
        have hb1:=Ac hb1
        have hvc:=hv.cells
        have hvl:=hvc.length
        have hcl:=hc.length
        simp only[Array.length_toList]at hvl hcl
        have hnew:AJ ρ (cs.take q.1++(v.cells++cs.drop (q.1+v.cells.length)))
            (v'.cells.zipIdx.foldl (fun cs (c,j)=>cs.setIfInBounds (q.1+j) c) cs').toList:=by
          have e:(v'.cells.zipIdx.foldl (fun cs (c,j)=>cs.setIfInBounds (q.1+j) c) cs').toList=cs'.toList.take q.1++(v'.cells.toList++cs'.toList.drop (q.1+v.cells.length)):=by
            have key:∀ (l:List Value) (k:Nat) (a:Array Value),q.1+k+l.length≤a.size →
                ((l.zipIdx k).foldl (fun cs (x:Value×Nat)=>cs.setIfInBounds (q.1+x.2) x.1) a).toList=a.toList.take (q.1+k)++(l++a.toList.drop (q.1+k+l.length)):=by
              intro l
              induction l with
              | nil=>intro k a _;simp
              | cons x l ihl =>
                intro k a hk
                simp only[gH]at hk
                rw[List.zipIdx_cons,List.foldl_cons,ihl (k+1) _ (by simp;omega)]
                simp only[Array.toList_setIfInBounds,gH]
                have e:=list_seg_step a.toList (q.1+k) x l (by simp;omega)
                simpa[gB,ft]using e
            have:=key v'.cells.toList 0 cs' (by simp;omega)
            simp only[fi]at this
            rw[← Array.foldl_toList,Array.toList_zipIdx]
            rw[hvl]
            simpa using this
          rw[e]
          exact(hc.take _).append (hvc.append (hc.drop _))
        obtain⟨l',h1,h2⟩:=ih h hnew hm hvs
        refine⟨l',?_,h2⟩
        have hpq:=hp i q hq
        obtain⟨o,n⟩:=q
        simp only[Instr.fill,hpq]
        have c1:¬ (v'.cells.size≠n∨o+v'.cells.size > cs'.size):=by simp only at hb1 hb2;omega
        have:(decide (v'.cells.size≠n) || decide (o+v'.cells.size > cs'.size))=false:=by
          rw[Bool.eq_false_iff];intro hh;apply c1;simpa using hh
        simp only[this]
        exact h1
theorem GV:∀ {fs:List Field}{l:List (Nat×Nat)},D4 P fs=some l →
  ∀w:World,((fs.mapM fun f=>do pure (f.offset,← sizeOf f.type):Sem (List (Nat×Nat)))).run P w=.ok l w
 | [],l,h,w=>by simp[D4]at h;subst h;rfl
 | f::fs,l,h,w=>by
  simp only[D4,fQ]at h
  obtain⟨n,hn,r,hr,h⟩:=h
  injection h with h
  subst h
  have ih:=GV hr w
  simp only[List.mapM_cons,Sem.run_bind,Ap hn,Sem.run_pure,Result.andThen_ok,ih]
theorem Sp{t:TypeId}{parts:List (Nat×AV)}{parts':Array (Nat×Value)}{v:AV}(h:E4 P t parts=some v)
  (hm:parts.map (·.1)=parts'.toList.map (·.1)) (hv:AJ ρ (parts.map (·.2)) (parts'.toList.map (·.2))) (w:World):
  ∃v',(Instr.build t parts').run P w=.ok v' w∧AK ρ v v':=by
 unfold E4 at h
 simp only[fQ]at h
 obtain⟨z,hz,h⟩:=h
 obtain⟨z',hz',hzr⟩:=Hg (w:=w) ρ hz
 split at h<;>first | (cases h;done) | skip
 ·rename_i fields hf
  simp only[fQ]at h
  obtain⟨places,hpl,l,hl,h⟩:=h
  injection h with h
  subst h
  have hpl':=GV hpl w
  obtain⟨l',h1,h2⟩:=Jp (place':=fun i=>(places.toArray)[i]?) (fun i p hp=>by simpa using hp) hl hzr.cells hm hv
  refine⟨.agg l',?_,.agg h2⟩
  have hma:(fields.mapM fun f=>do pure (f.offset,← sizeOf f.type):Sem (Array (Nat×Nat))).run P w=.ok places.toArray w:=by
   rw[Array.mapM_eq_mapM_toList,Sem.run_map,hpl']
   rfl
  simp only[Instr.build,Sem.run_bind,hz',Result.andThen_ok,AF hf,hma,h1,Sem.run_pure]
 ·rename_i len e hf
  simp only[fQ]at h
  obtain⟨n,hn,l,hl,h⟩:=h
  injection h with h
  subst h
  obtain⟨l',h1,h2⟩:=Jp (place':=fun i=>some (i * n,n)) (fun i p hp=>hp) hl hzr.cells hm hv
  refine⟨.agg l',?_,.agg h2⟩
  simp only[Instr.build,Sem.run_bind,hz',Result.andThen_ok,AF hf,Ap hn,h1,Sem.run_pure]
theorem Mu      {z : AV} {z' : Value} {n c : Nat} (hz : AK   ρ z z') (hl : z.cells.length = n) :
    AJ ρ (P3 z.cells c) (((Array.range (c * n)).map (z'.cells[· % z'.cells.size]!)).toList):=by
  have hc:=hz.cells
  have hlen:z'.cells.size=n:=by have:=hc.length;simp at this;omega
  have hrl:∀c,(P3 z.cells c).length=c * n:=by
    intro c
    induction c with
    | zero=>simp[P3]
    | succ c ih=>simp[P3,ih,hl,gA];omega
  have hrg:∀ (c k:Nat),k<c * n→(P3 z.cells c)[k]? = z.cells[k % n]? := by
    intro c
    induction c with
    | zero=>intro k hk;omega
    | succ c ih =>
      intro k hk
      simp only[P3]
      by_cases h1:k<n
      · rw[gI (by omega),fy h1]
      · rw [gJ                         (by omega), hl, ih (k - n) (by rw [gA]           at hk; omega)]
        rw[← Nat.mod_eq_sub_mod (by omega)]
  refine AJ.of_get (by simp[hrl]) ?_
  intro k v v' hv hv'
  have hk:k<c * n:=by
    rcases fS k (c * n)with h | h
    · exact h
    · rw[ff (by rw[hrl];omega)]at hv;cases hv
  have hn:0<n:=by
    rcases gO n with h | h
    · subst h;simp at hk
    · exact h
  rw[hrg c k hk]at hv
  obtain⟨u,h1,h2⟩:=hc.get hv
  have:v'=u:=by
    rw[Array.getElem?_toList,Array.getElem?_map,Array.getElem?_range]at hv'
    rw[if_pos hk]at hv'
    simp only[gS]at hv'
    injection hv' with hv'
    rw[← hv',hlen]
    rw[Array.getElem?_toList]at h1
    rw[getElem!_def,h1]
  rw[this]
  exact h2
theorem M2(h:Aw P ρ s w)(hf:ρ s.next=none){t:TypeId}{len:Nat}{parts:List (Nat×AV)}{parts':Array (Nat×Value)}{o:Af}(hs:Ak P t len parts=some o)
  (hm:parts.map (·.1)=parts'.toList.map (·.1)) (hv:AJ ρ (parts.map (·.2)) (parts'.toList.map (·.2))):
  K5 P ρ s w (Instr.buildSlice t len parts') o (.slice len):=by
 unfold Ak at hs
 split at hs<;>first | (cases hs;done) | skip
 rename_i e he
 simp only[fQ]at hs
 obtain⟨n,hn,hs⟩:=hs
 obtain⟨hb,hs⟩:=AA hs
 have hb:len * n≤16777216:=by simpa[fT]using hb
 simp only[fQ]at hs
 obtain⟨z,hz,hs⟩:=hs
 obtain⟨hc,hs⟩:=AA hs
 simp only[fQ]at hs
 obtain⟨l,hl,hs⟩:=hs
 injection hs with hs
 subst hs
 obtain⟨z',hz',hzr⟩:=Hg (w:=w) ρ hz
 have hz2:=Mu (c:=len) hzr (Ac hc)
 obtain⟨l',h1,h2⟩:=Jp (place':=fun i=>some (i * n,n)) (fun i p hp=>hp) hl hz2 hm hv
 obtain⟨ρ',g1,g2,g3⟩:=GH h hf (e:=e) (sz:=n) h2
 refine⟨.slice (some ⟨w.heap.size,0,none⟩) len len,_,ρ',?_,AK.slice g1 (fR _),g2,g3⟩
 have hbig:¬ len * n > 2 ^ 24:=by omega
 by_cases h0:len * n=0
 ·have hr0:Array.range 0=#[]:=by simp
  rw[h0,hr0]at h1
  simp only[Array.map_empty]at h1
  simp[Instr.buildSlice,AF he,Ap hn,h0,hr0,h1,newRow]
 ·simp[Instr.buildSlice,AF he,Ap hn,hbig,h0,hz',h1,newRow]
theorem Kv(h:Aw P ρ s w)(hf:ρ s.next=none){t:TypeId}{l c:AV}{l' c':Value}{o:Af}{m:Made}(hs:Bv P t l c=some (o,m))
  (hl:AK ρ l l') (hc:AK ρ c c'):K5 P ρ s w (Instr.makeSlice t l' c') o m:=by
 unfold Bv at hs
 split at hs<;>first | (cases hs;done) | skip
 rename_i e l0 c0 he
 cases hl;cases hc
 simp only[fQ]at hs
 obtain⟨by_,hby,n,hn,hs⟩:=hs
 obtain⟨hb,hs⟩:=AA hs
 simp only[Bool.and_eq_true,fT]at hb
 obtain⟨⟨hlc,hb1⟩,hb2⟩:=hb
 have hlc:=Ac hlc
 subst hlc
 simp only[fQ]at hs
 obtain⟨z,hz,hs⟩:=hs
 obtain⟨hc,hs⟩:=AA hs
 injection hs with hs
 injection hs with hs1 hs2
 subst hs1;subst hs2
 obtain⟨z',hz',hzr⟩:=Hg (w:=w) ρ hz
 have hz2:=Mu (c:=l0) hzr (Ac hc)
 obtain⟨i,hi,hi2⟩:=TR (w:=w) hby
 obtain⟨ρ',g1,g2,g3⟩:=GH h hf (e:=e) (sz:=n) hz2
 refine⟨.slice (some ⟨w.heap.size,0,none⟩) l0 l0,_,ρ',?_,AK.slice g1 (fR _),g2,g3⟩
 have hw:IntKind.i64.wrap (l0:Int)=(l0:Int):=JF (k:=.i64) (n:=Int.ofNat l0) (by simp[BZ,fT];omega)
 have hmul:((by_:Int) * (l0:Int))≤1099511627776:=by
  have:((by_ * l0:Nat):Int)≤1099511627776:=by omega
  simpa using this
 have h1:¬ ((l0:Int)<0):=by omega
 have h2:¬ ((i.bytes:Int) * (l0:Int) > 2 ^ 48):=by rw[hi2];omega
 have h3:¬ ((281474976710656:Int)<(i.bytes:Int) * (l0:Int)):=by omega
 by_cases h0:l0 * n=0
 ·have hr0:Array.range 0=#[]:=by simp
  simp[Instr.makeSlice,AF he,asInt,asIntOf,hi,hw,h1,h3,Ap hn,h0,newRow,hr0]
 ·simp[Instr.makeSlice,AF he,asInt,asIntOf,hi,hw,h1,h3,Ap hn,h0,hz',newRow]
end
end
end Go.Proofs.YtdmgdlbodeemeaaGreatDoor.Am
