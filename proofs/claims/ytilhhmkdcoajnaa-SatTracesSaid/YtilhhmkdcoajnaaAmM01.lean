/- Binary tries over Nat keys, made for evaluation by the kernel: get, set, and their laws; conditions: none. -/
import GoSem.Dispatch
import Derived.CallsIn
import Derived.Laws.Sem
import Derived.Laws.Entries
import Derived.Laws.Slices
import Derived.Laws.Strings
import Derived.Lib.Hide
namespace Go.Proofs.Ytilhhmkdcoajnaa.Am
noncomputable section
abbrev qI := @Nat.le_refl
abbrev qJ := @Option.bind_eq_some_iff
abbrev qK := @List.length_map
abbrev qL := @List.mem_of_getElem?
abbrev qM := @List.length_append
abbrev qN := @Nat.lt_or_ge
abbrev qO := @Nat.zero_le
abbrev qP := @List.getElem?_eq_getElem
abbrev qQ := @List.length_set
abbrev qR := @List.mem_cons_self
abbrev qS := @List.mem_cons_of_mem
abbrev qT := @Nat.ble_eq
abbrev qU := @Nat.zero_add
abbrev qV := @Nat.le_trans
abbrev qW := @List.mem_append_left
abbrev qX := @List.getElem?_append_left
abbrev qY := @List.getElem?_append_right
abbrev qZ := @List.getElem?_eq_none
abbrev qa := @Nat.mul_one
abbrev qb := @List.length_take
abbrev qc := @List.getElem?_set
abbrev qd := @Int.lt_irrefl
abbrev qe := @List.getD_eq_getElem?_getD
abbrev qf := @Int.natAbs_neg
abbrev qg := @List.mem_of_mem_take
abbrev qh := @List.length_cons
abbrev qi := @Nat.lt_of_lt_of_le
abbrev qj := @Nat.blt_eq
abbrev qk := @List.getElem?_drop
abbrev ql := @List.mem_append_right
abbrev qm := @List.take_append_of_le_length
abbrev qn := @Nat.lt_succ_self
abbrev qo := @List.nil_append
abbrev qp := @List.mem_cons
abbrev qq := @List.getElem?_take_of_lt
abbrev qr := @List.take_length
abbrev qs := @List.getElem?_map
abbrev qt := @Nat.add_mul
abbrev qu := @Nat.eq_of_beq_eq_true
abbrev qw := @Int.neg_neg
abbrev qx := @List.map_append
abbrev qy := @List.countP_cons
abbrev qz := @List.append_assoc
abbrev q0 := @List.foldl_cons
abbrev rA := @Nat.add_assoc
abbrev rB := @List.length_drop
abbrev rC := @List.length_nil
abbrev rD := @List.map_set
abbrev rE := @Int.le_refl
abbrev rF := @List.drop_zero
abbrev rG := @Nat.eq_zero_or_pos
abbrev rH := @List.nodup_append
abbrev rI := @List.map_cons
abbrev rJ := @Nat.sub_self
abbrev rK := @List.cons_append
abbrev rL := @List.drop_drop
abbrev rM := @List.take_zero
abbrev rN := @Nat.add_zero
abbrev rO := @Nat.mul_le_mul_right
abbrev rP := @Nat.lt_trichotomy
abbrev rQ := @List.length_replicate
abbrev rR := @Nat.le_succ
abbrev rS := @List.map_take
abbrev rT := @List.mem_or_eq_of_mem_set
abbrev rU := @List.getElem_of_mem
abbrev rV := @Nat.sub_zero
abbrev rW := @List.map_drop
abbrev rX := @Nat.min_eq_left
abbrev rY := @Nat.lt_succ_of_lt
abbrev rZ := @List.getElem?_take
abbrev re := @List.append_nil
abbrev rf := @List.nodup_cons
abbrev rg := @List.take_append_drop
abbrev rh := @List.take_take
abbrev rl := @Option.map_some
abbrev rm := @List.mem_iff_getElem
abbrev rn := @Nat.mul_le_mul_left
abbrev rq := @List.drop_append
abbrev rt := @List.replicate_succ
abbrev ru := @List.drop_of_length_le
abbrev rv := @Int.ofNat_eq_natCast
abbrev rx := @List.getElem?_set_ne
abbrev ry := @List.take_of_length_le
abbrev rz := @List.drop_eq_nil_of_le
abbrev sA := @List.mem_of_mem_drop
abbrev sB := @List.countP_append
abbrev sC := @List.take_succ_eq_append_getElem
abbrev sD := @List.pairwise_cons
abbrev sE := @List.eq_of_mem_replicate
abbrev sF := @Int.tdiv_eq_ediv_of_nonneg
inductive Aj (α:Type) where
 | leaf
 | node (v:Option α) (l r:Aj α)
namespace Aj
variable{α:Type}
def get:Aj α→Nat→Option α
 | .leaf,_=>none
 | .node v l r,k=>match k with
  | 0=>v
  | k+1=>bif Nat.beq (k % 2) 0 then l.get (k / 2)else r.get (k / 2)
def val:Aj α→Option α
 | .leaf=>none
 | .node v _ _=>v
def left:Aj α→Aj α
 | .leaf=>.leaf
 | .node _ l _=>l
def right:Aj α→Aj α
 | .leaf=>.leaf
 | .node _ _ r=>r
def kH(v:Option α)(l r:Aj α):Aj α:=
 match l with
 | .leaf=>.node v .leaf r
 | .node x a b=>.node v (.node x a b) r
def kI(v:Option α)(l r:Aj α):Aj α:=
 match r with
 | .leaf=>.node v l .leaf
 | .node x a b=>.node v l (.node x a b)
def Q1(v:Option α):Nat→Aj α→Nat→Aj α
 | 0,t,_=>t
 | f+1,t,k=>match k with
  | 0=>.node v t.left t.right
  | k+1=>bif Nat.beq (k % 2) 0 then kH t.val (Q1 v f t.left (k / 2)) t.right
   else kI t.val t.left (Q1 v f t.right (k / 2))
def put(t:Aj α)(k:Nat)(v:Option α):Aj α:=Q1 v (k+1) t k
def set(t:Aj α)(k:Nat)(v:α):Aj α:=t.put k (some v)
def del(t:Aj α)(k:Nat):Aj α:=t.put k none
theorem beq_no{a b:Nat}(h:¬ a=b):Nat.beq a b=false:=by
 cases e:Nat.beq a b with
 | false=>rfl
 | true=>exact absurd (qu e) h
theorem bS(v:Option α)(l r:Aj α):kH v l r=.node v l r:=by cases l<;>rfl
theorem bT(v:Option α)(l r:Aj α):kI v l r=.node v l r:=by cases r<;>rfl
theorem L0(t:Aj α):t.get 0=t.val:=by cases t<;>rfl
theorem D3(t:Aj α)(k:Nat):t.get (k+1)=if k % 2=0 then t.left.get (k / 2)else t.right.get (k / 2):=by
 cases t with
 | leaf=>simp[get,left,right]
 | node v l r =>
  by_cases h:k % 2=0
  ·simp[get,left,h]
  ·have:Nat.beq (k % 2) 0=false:=beq_no h
   simp[get,right,h,this]
theorem am       (v : Option α) : ∀ (f : Nat) (t : Aj   α) (k j : Nat), k < f → (Q1   v f t k).get j = if j = k then v else t.get j := by
  intro f
  induction f with
  | zero=>intro t k j h;omega
  | succ f ih =>
    intro t k j h
    cases k with
    | zero =>
      cases j with
      | zero=>simp[Q1,L0,val]
      | succ j=>simp[Q1,D3,left,right]
    | succ k =>
      by_cases hk:k % 2=0
      · have hb:Nat.beq (k % 2) 0=true:=by rw[hk];rfl
        simp only[Q1,hb,cond_true,bS]
        cases j with
        | zero=>simp[L0,val]
        | succ j =>
          by_cases hj:j % 2=0
          · rw[D3,D3,if_pos hj,if_pos hj]
            simp only[left]
            rw[ih _ _ _ (by omega)]
            by_cases e:j=k
            · subst e;simp
            · rw[if_neg (by omega),if_neg (by omega)]
          · rw[D3,D3,if_neg hj,if_neg hj,if_neg (by omega)]
            simp only[right]
      · have hb:Nat.beq (k % 2) 0=false:=beq_no hk
        simp only[Q1,hb,cond_false,bT]
        cases j with
        | zero=>simp[L0,val]
        | succ j =>
          by_cases hj:j % 2=0
          · rw[D3,D3,if_pos hj,if_pos hj,if_neg (by omega)]
            simp only[left]
          · rw[D3,D3,if_neg hj,if_neg hj]
            simp only[right]
            rw[ih _ _ _ (by omega)]
            by_cases e:j=k
            · subst e;simp
            · rw[if_neg (by omega),if_neg (by omega)]
theorem Un(t:Aj α)(k j:Nat)(v:Option α):(t.put k v).get j=if j=k then v else t.get j:=am v _ t k j (by omega)
theorem get_set(t:Aj α)(k j:Nat)(v:α):(t.set k v).get j=if j=k then some v else t.get j:=Un t k j _
theorem get_del(t:Aj α)(k j:Nat):(t.del k).get j=if j=k then none else t.get j:=Un t k j _
def fill(t:Aj α)(k:Nat):List α→Aj α
 | []=>t
 | v::l=>fill (t.set k v) (k+1) l
theorem get_fill(l:List α):∀ (t:Aj α)(k j:Nat),(t.fill k l).get j=if k≤j∧j<k+l.length then l[j - k]? else t.get j:=by
  induction l with
  | nil=>intro t k j;simp[fill];omega
  | cons v l ih =>
    intro t k j
    simp only[fill,ih,get_set,qh]
    by_cases h1:k+1≤j∧j<k+1+l.length
    · rw [if_pos h1, if_pos (by omega), show j - k = (j - (k + 1)) + 1 from by omega]
      rfl
    · rw[if_neg h1]
      by_cases h2:j=k
      · subst h2;simp
      · rw[if_neg h2,if_neg (by omega)]
def take(t:Aj α)(k:Nat):Nat→Option (List α)
 | 0=>some []
 | n+1=>match t.get k with
  | none=>none
  | some v=>match take t (k+1) n with
   | none=>none
   | some l=>some (v::l)
theorem take_length{t:Aj α}{k n:Nat}{l:List α}(h:t.take k n=some l):l.length=n:=by
  induction n generalizing k l with
  | zero=>simp[take]at h;subst h;rfl
  | succ n ih =>
    simp only[take]at h
    split at h
    · cases h
    · split at h
      · cases h
      · rename_i h2;injection h with h;subst h;simp[ih h2]
theorem take_get {t : Aj   α} {k n : Nat} {l : List α} (h : t.take k n = some l) (j : Nat) (hj : j < n) : t.get (k + j) = l[j]? := by
  induction n generalizing k l j with
  | zero=>omega
  | succ n ih =>
    simp only[take]at h
    split at h
    · cases h
    · rename_i v hv
      split at h
      · cases h
      · rename_i l' h2
        injection h with h
        subst h
        cases j with
        | zero=>simpa using hv
        | succ j=>rw[show k+(j+1)=k+1+j from by omega,ih h2 j (by omega)];rfl
end Aj
end
end Go.Proofs.Ytilhhmkdcoajnaa.Am
namespace Go.Proofs.Ytilhhmkdcoajnaa.Am
open Go
noncomputable section
inductive AV where
 | bool (b:Bool)
 | int (k:IntKind) (n:Int)
 | str (s:List Nat)
 | ptr (a:Option (Nat×Nat))
 | slice (a:Option (Nat×Nat)) (len:Nat) (cap:Option Nat)
 | map (r:Option Nat)
 | func (f:FuncId) (first cap:List AV)
 | yield (l:Nat)
 | nilFunc
 | iface (t:TypeId) (v:AV)
 | nilIface
 | agg (cs:List AV)
 | tuple (vs:List AV)
def BJ:AV:=.tuple []
def AV.cells:AV→List AV
 | .agg cs=>cs
 | v=>[v]
def AV.isCell:AV→Bool
 | .agg _ | .tuple _=>false
 | _=>true
def Ak:List AV→Bool
 | []=>true
 | v::l=>v.isCell && Ak l
inductive fJ where
 | ro | own | sealed
structure EY where
 elem:TypeId
 sz:Nat
 n:Nat
 c:Aj AV
 spare:Bool
 mode:fJ
 par:Option Nat
 bytes:Bool
inductive CX where
 | loc (i:Nat)
 | var (j:Nat)
 | const (v:AV)
inductive Made where
 | ptr | slice (n:Nat) | map
structure Gm where
 state:LoopState
 pending:Option Code
 fn:FuncId
 var:List AV
 params:Array Tmp
 assign:Code
 body:Code
 dfr:Nat
inductive C0 where
 | row (r:EY)
 | map (es:List (AV×AV×Nat)) (clock:Nat)
 | loop (l:Gm)
 | mark
 | iter (s:List Nat) (pos:Nat)
structure AF where
 next:Nat
 heap:Aj C0
def Iq:Value→Option AV
 | .bool b=>some (.bool b)
 | .int k n=>some (.int k n)
 | .string s=>some (.str (s.data.toList.map (fun(b:UInt8)=>b.toNat)))
 | .pointer none=>some (.ptr none)
 | .slice none 0 0=>some (.slice none 0 (some 0))
 | .map none=>some (.map none)
 | .nilFunc=>some .nilFunc
 | .nilIface=>some .nilIface
 | _=>none
def E8:List Value→Option (List AV)
 | []=>some []
 | v::l=>(Iq v).bind fun a=>(E8 l).bind fun r=>some (a::r)
def ofValue:Value→Option AV
 | .agg cs=>(E8 cs.toList).bind fun l=>some (.agg l)
 | .tuple vs=>(E8 vs.toList).bind fun l=>some (.tuple l)
 | v=>Iq v
def AI{α:Type}(b:Bool)(x:Option α):Option α:=bif b then x else none
def ES{α:Type}(P:Program):Sem α→Option α
 | .pure a=>some a
 | .program k=>ES P (k P)
 | .mark _ k=>ES P k
 | _=>none
def CD(k:IntKind):Int→Bool
 | .ofNat m=>match k with
  | .i64=>Nat.ble m 9223372036854775807
  | .u64=>Nat.ble m 18446744073709551615
  | .i32=>Nat.ble m 2147483647
  | .u32=>Nat.ble m 4294967295
  | .u8=>Nat.ble m 255
  | .i8=>Nat.ble m 127
  | .u16=>Nat.ble m 65535
  | .i16=>Nat.ble m 32767
 | .negSucc m=>match k with
  | .i64=>Nat.ble m 9223372036854775807
  | .i32=>Nat.ble m 2147483647
  | .i8=>Nat.ble m 127
  | .i16=>Nat.ble m 32767
  | _=>false
def Dt(k:IntKind)(n:Int):Int:=bif CD k n then n else k.wrap n
def QA:Int→Int→Bool
 | .ofNat a,.ofNat b=>Nat.blt a b
 | .ofNat _,.negSucc _=>false
 | .negSucc _,.ofNat _=>true
 | .negSucc a,.negSucc b=>Nat.blt b a
def Ul:Int→Int→Bool
 | .ofNat a,.ofNat b=>Nat.beq a b
 | .negSucc a,.negSucc b=>Nat.beq a b
 | _,_=>false
def QH:Int→Option Nat
 | .ofNat m=>some m
 | .negSucc _=>none
def Gg:List Nat→List Nat→Bool
 | [],[]=>true
 | a::x,b::y=>bif Nat.beq a b then Gg x y else false
 | _,_=>false
def Mg:List Nat→List Nat→Bool
 | _,[]=>false
 | [],_::_=>true
 | a::x,b::y=>bif Nat.blt a b then true else bif Nat.beq a b then Mg x y else false
def U8(op:BinOp)(x y:List Nat):Option AV:=
 match op with
 | .add=>AI (Nat.ble (x.length+y.length) 1152921504606846976) (some (.str (x++y)))
 | .eql=>some (.bool (Gg x y))
 | .neq=>some (.bool (!Gg x y))
 | .lss=>some (.bool (Mg x y))
 | .leq=>some (.bool (Mg x y || Gg x y))
 | .gtr=>some (.bool (!(Mg x y || Gg x y)))
 | .geq=>some (.bool (!Mg x y))
 | _=>none
def Fp(P:Program)(t:TypeId):Option Bool:=
 match P.underlying t with
 | some (.struct _) | some (.array _ _)=>some true
 | some _=>some false
 | none=>none
def BC(P:Program)(t:TypeId):Option Nat:=match P.info? t with
 | some i=>some i.size
 | none=>none
def CY(P:Program)(t:TypeId):Option AV:=match P.info? t with
 | some i=>match i.zero with
  | some v=>ofValue v
  | none=>none
 | none=>none
def CQ(P:Program)(t:TypeId):Option Nat:=match P.info? t with
 | some i=>some i.bytes
 | none=>none
def rowAt(s:AF)(i:Nat):Option EY:=match s.heap.get i with
 | some (.row r)=>some r
 | _=>none
def newObj(s:AF)(o:C0):AF:={ next:=s.next+1,heap:=s.heap.set s.next o }
def AO(elem:TypeId)(sz:Nat)(cells:List AV):C0:=
 .row { elem,sz,n:=cells.length,c:=Aj.fill .leaf 0 cells,spare:=false,mode:=.own,par:=none,bytes:=false }
def setObj(s:AF)(i:Nat)(o:C0):AF:={ s with heap:=s.heap.set i o }
def Cl(s:AF)(i:Nat):AF:={ s with heap:=s.heap.del i }
def loadN(s:AF)(i off n:Nat):Option (List AV):=
 (rowAt s i).bind fun r=>AI (Nat.ble (off+n) r.n) (r.c.take off n)
def load1(s:AF)(i off:Nat):Option AV:=
 (rowAt s i).bind fun r=>AI (Nat.blt off r.n) (r.c.get off)
def Av(s:AF)(i:Nat)(r:EY):AF:=match r.par with
 | none=>s
 | some p=>bif Nat.beq p i then s else Cl s p
def Ec:fJ→Bool
 | .own=>true
 | _=>false
def CK(s:AF)(i off:Nat)(vs:List AV):Option AF:=
 match vs with
 | []=>some s
 | _::_=>(rowAt s i).bind fun r =>
  AI (Ec r.mode && Nat.ble (off+vs.length) r.n && Ak vs)
   (some (setObj (Av s i r) i (.row { r with c:=r.c.fill off vs,par:=none })))
def AD(P:Program)(s:AF)(t:TypeId):AV→Option AV
 | .ptr (some (i,o))=>(Fp P t).bind fun g=>match g with
  | true=>(BC P t).bind fun n=>(loadN s i o n).bind fun l=>some (.agg l)
  | false=>load1 s i o
 | _=>none
def AM(P:Program)(s:AF)(t:TypeId)(a v:AV):Option AF:=
 match a with
 | .ptr (some (i,o))=>(BC P t).bind fun n=>AI (Nat.beq v.cells.length n) (CK s i o v.cells)
 | _=>none
def G5(P:Program)(t:TypeId):Bool:=match P.underlying t with
 | some (.pointer _)=>true
 | _=>false
def F7(P:Program)(t:TypeId):Bool:=match P.underlying t with
 | some (.slice _)=>true
 | _=>false
def Ol(P:Program)(t:TypeId):Bool:=match P.underlying t with
 | some (.map ..)=>true
 | _=>false
def Ij(P:Program)(t:TypeId):Bool:=match P.underlying t with
 | some (.func ..)=>true
 | _=>false
def Oj(P:Program)(t:TypeId):Bool:=match P.underlying t with
 | some .bool=>true
 | _=>false
def cX(P:Program)(t:TypeId):AV→AV→Option Bool
 | .bool a,.bool b=>AI (Oj P t) (some (a == b))
 | .ptr none,.ptr b=>AI (G5 P t) (some b.isNone)
 | .ptr a,.ptr none=>AI (G5 P t) (some a.isNone)
 | .slice none _ _,.slice b _ _=>AI (F7 P t) (some b.isNone)
 | .slice a _ _,.slice none _ _=>AI (F7 P t) (some a.isNone)
 | .map none,.map b=>AI (Ol P t) (some b.isNone)
 | .map a,.map none=>AI (Ol P t) (some a.isNone)
 | .nilFunc,.nilFunc=>AI (Ij P t) (some true)
 | .func ..,.nilFunc=>AI (Ij P t) (some false)
 | .nilFunc,.func ..=>AI (Ij P t) (some false)
 | _,_=>none
def BY:IntKind→IntKind→Bool
 | .i8,.i8 | .i16,.i16 | .i32,.i32 | .i64,.i64 | .u8,.u8 | .u16,.u16 | .u32,.u32 | .u64,.u64=>true
 | _,_=>false
def au(P:Program)(op:BinOp)(k:IntKind)(a b:Int):Option AV:=
 match op with
 | .add=>some (.int k (Dt k (a+b)))
 | .sub=>some (.int k (Dt k (a - b)))
 | .mul=>some (.int k (Dt k (a * b)))
 | .eql=>some (.bool (Ul a b))
 | .neq=>some (.bool (!Ul a b))
 | .lss=>some (.bool (QA a b))
 | .leq=>some (.bool (!QA b a))
 | .gtr=>some (.bool (QA b a))
 | .geq=>some (.bool (!QA a b))
 | .quo | .rem=>(ES P (Op.intDiv op k a b)).bind ofValue
 | .shl | .shr=>none
 | _=>(ES P (Op.intBits op k a b)).bind ofValue
def AL(P:Program)(op:BinOp)(t:TypeId)(x y:AV):Option AV:=
 match x,y with
 | .int k a,.int k' b=>match op with
  | .shl | .shr=>(ES P (Op.shift op k a k' b)).bind ofValue
  | _=>AI (BY k k') (au P op k a b)
 | .str a,.str b=>U8 op a b
 | x,y=>match op with
  | .eql=>(cX P t x y).bind fun b=>some (.bool b)
  | .neq=>(cX P t x y).bind fun b=>some (.bool (!b))
  | _=>none
def On(P:Program)(t:TypeId):Bool:=match P.underlying t with
 | some (.pointer e)=>(match P.info? e with | some j=>!Nat.beq j.size 0 | none=>false)
 | _=>false
def D6(s:AF)(i:Nat):Bool:=match rowAt s i with
 | some r=>Ec r.mode && r.par.isNone
 | none=>false
def HE(P:Program)(s:AF)(neg:Bool)(t:TypeId)(x y:AV):Option AV:=
 match x,y with
 | .ptr (some (i,o)),.ptr (some (j,q))=>AI (On P t && D6 s i && D6 s j) (some (.bool ((Nat.beq i j && Nat.beq o q) != neg)))
 | x,y=>AL P (bif neg then .neq else .eql) t x y
def GZ(P:Program)(op:UnOp):AV→Option AV
 | .int k n=>match op with
  | .neg=>some (.int k (Dt k (0 - n)))
  | .xor=>(ES P (Op.unary .xor (.int k n))).bind ofValue
  | _=>none
 | .bool b=>match op with
  | .not=>some (.bool (!b))
  | _=>none
 | _=>none
def Dp(place:Nat→Option (Nat×Nat))(cells:List AV):List (Nat×AV)→Option (List AV)
 | []=>some cells
 | (i,v)::rest=>(place i).bind fun p =>
  AI (Nat.beq v.cells.length p.2 && Nat.ble (p.1+v.cells.length) cells.length)
   (Dp place (cells.take p.1++(v.cells++cells.drop (p.1+v.cells.length))) rest)
def B0(P:Program):List Field→Option (List (Nat×Nat))
 | []=>some []
 | f::l=>(BC P f.type).bind fun n=>(B0 P l).bind fun r=>some ((f.offset,n)::r)
def Bz(P:Program)(t:TypeId)(parts:List (Nat×AV)):Option AV:=
 (CY P t).bind fun z=>match P.underlying t with
  | some (.struct fields)=>(B0 P fields.toList).bind fun places =>
   (Dp (fun i=>places[i]?) z.cells parts).bind fun l=>some (.agg l)
  | some (.array _ e)=>(BC P e).bind fun n =>
   (Dp (fun i=>some (i * n,n)) z.cells parts).bind fun l=>some (.agg l)
  | _=>none
def Jx(l:List AV):Nat→List AV
 | 0=>[]
 | n+1=>l++Jx l n
def Ae(P:Program)(t:TypeId)(len:Nat)(parts:List (Nat×AV)):Option C0:=
 match P.underlying t with
 | some (.slice e)=>(BC P e).bind fun n=>AI (Nat.ble (len * n) 16777216) <|
  (CY P e).bind fun z=>AI (Nat.beq z.cells.length n) <|
   (Dp (fun i=>some (i * n,n)) (Jx z.cells len) parts).bind fun l=>some (AO e n l)
 | _=>none
def CN(P:Program)(s:AF)(src dst:TypeId)(x:AV):Option AV:=
 match P.underlying src,P.underlying dst,x with
 | some _,some (.int k),.int _ n=>some (.int k (Dt k n))
 | some _,some .string,.str l=>some (.str l)
 | some (.slice e),some .string,.slice a len _=>match P.underlying e with
  | some (.int .u8)=>match a with
   | none=>some (.str [])
   | some (i,o)=>(loadN s i o len).bind fun l=>(bytesOf l).bind fun b=>some (.str b)
  | _=>none
 | _,_,_=>none
where
 bytesOf:List AV→Option (List Nat)
  | []=>some []
  | .int .u8 (.ofNat n)::l=>AI (Nat.blt n 256) ((bytesOf l).bind fun r=>some (n::r))
  | _::_=>none
def Eb:AV→Option Nat
 | .int _ n=>QH n
 | _=>none
def BD(x:AV)(y:Nat):Option Nat:=(Eb x).bind fun i=>AI (Nat.ble i y) (some i)
def Ar(P:Program)(s:AF)(t:TypeId)(x:AV)(lo hi mx:Option AV):Option AV:=
 match x with
 | .str l=>(match mx with | some _=>none | none=>some ()).bind fun _ =>
  (match hi with | some h=>BD h l.length | none=>some l.length).bind fun h =>
  (match lo with | some v=>BD v h | none=>some 0).bind fun o =>
  (match P.underlying t with | some .string=>some () | _=>none).bind fun _=>some (.str ((l.drop o).take (h - o)))
 | .slice a len cap=>match P.underlying t with
  | some (.slice e)=>(BC P e).bind fun n =>
   (match cap with
    | some c=>some c
    | none=>match a with
     | none=>none
     | some (i,o)=>(rowAt s i).bind fun r=>AI (Nat.ble o r.n && Nat.beq n r.sz && !Nat.beq n 0) (some ((r.n - o) / n))).bind fun far =>
   (match mx with | some m=>(BD m far).bind fun c=>AI (cap.isSome || Nat.blt 0 far) (some (some c)) | none=>some cap).bind fun m =>
   (match hi,m with
    | some h,some c=>BD h c
    | some h,none=>BD h far
    | none,some c=>(match mx with | none=>some len | some _=>(fun(_:Nat)=>none) c)
    | none,none=>some len).bind fun h =>
   (match lo with | some v=>BD v h | none=>some 0).bind fun l =>
   some (.slice
    (match a with
     | none=>none
     | some (i,o)=>match m with
      | some c=>bif Nat.beq c l then some (i,o)else some (i,o+l * n)
      | none=>some (i,o+l * n))
    (h - l) (match m with | some c=>some (c - l) | none=>none))
  | _=>none
 | .ptr (some (i,o))=>match P.underlying t with
  | some (.array len e)=>arr len e i o
  | some (.pointer u)=>match P.underlying u with
   | some (.array len e)=>arr len e i o
   | _=>none
  | _=>none
 | _=>none
where
 arr (len:Nat) (e:TypeId) (i o:Nat):Option AV:=(BC P e).bind fun n =>
  (match mx with | some m=>BD m len | none=>some len).bind fun m =>
  (match hi with | some h=>BD h m | none=>match mx with | none=>some len | some _=>none).bind fun h =>
  (match lo with | some v=>BD v h | none=>some 0).bind fun l =>
  some (.slice (some (i,bif Nat.beq m l then o else o+l * n)) (h - l) (some (m - l)))
def AB(P:Program)(t:TypeId)(x:AV)(f:Nat):Option AV:=
 match x with
 | .ptr (some (i,o))=>match P.underlying t with
  | some (.struct fs)=>(fs[f]?).bind fun fd=>(BC P fd.type).bind fun n =>
   AI (!Nat.beq n 0) (some (.ptr (some (i,o+fd.offset))))
  | _=>none
 | _=>none
def U0(P:Program)(t:TypeId)(cs:List AV)(off:Nat):Option AV:=
 (Fp P t).bind fun g=>match g with
  | true=>(BC P t).bind fun n=>some (.agg ((cs.drop off).take n))
  | false=>cs[off]?
def TS(P:Program)(t:TypeId)(x:AV)(f:Nat):Option AV:=
 match x with
 | .agg cs=>match P.underlying t with
  | some (.struct fs)=>(fs[f]?).bind fun fd=>U0 P fd.type cs fd.offset
  | _=>none
 | _=>none
def AC(P:Program)(t:TypeId)(x ix:AV):Option AV:=
 (Eb ix).bind fun k=>match x with
  | .ptr (some (i,o))=>match P.underlying t with
   | some (.array len e)=>(BC P e).bind fun n=>AI (Nat.blt k len) (some (.ptr (some (i,o+k * n))))
   | _=>none
  | .slice (some (i,o)) len _=>match P.underlying t with
   | some (.slice e)=>(BC P e).bind fun n=>AI (Nat.blt k len) (some (.ptr (some (i,o+k * n))))
   | _=>none
  | _=>none
def Hx(P:Program)(t:TypeId)(x ix:AV):Option AV:=
 (Eb ix).bind fun k=>match x with
  | .agg cs=>match P.underlying t with
   | some (.array len e)=>(BC P e).bind fun n=>AI (Nat.blt k len) (U0 P e cs (k * n))
   | _=>none
  | .str l=>match P.underlying t with
   | some .string=>(l[k]?).bind fun b=>some (.int .u8 (.ofNat b))
   | _=>none
  | _=>none
def AE:AV→Option AV
 | .ptr none | .nilIface | .nilFunc=>none
 | v=>some v
def Rp(x:AV)(i:Nat):Option AV:=
 match x with
 | .tuple vs=>vs[i]?
 | _=>none
def Ro(c a b:AV):Option AV:=
 match c with
 | .bool true=>some a
 | .bool false=>some b
 | _=>none
def EO(mx:Bool):AV→List AV→Option AV
 | v,[]=>some v
 | .int k a,.int k' b::l=>AI (BY k k') (EO mx (.int k (bif (bif mx then QA a b else QA b a)then b else a)) l)
 | _,_=>none
def MA:AV→AV→Option Bool
 | .int k a,.int k' b=>AI (BY k k') (some (Ul a b))
 | .str a,.str b=>some (Gg a b)
 | .agg a,.agg b=>keysEq a b
 | _,_=>none
where
 keysEq:List AV→List AV→Option Bool
 | [],[]=>some true
 | .int k a::x,.int k' b::y=>AI (BY k k') ((keysEq x y).bind fun r=>some (Ul a b && r))
 | .str a::x,.str b::y=>(keysEq x y).bind fun r=>some (Gg a b && r)
 | _,_=>none
def D2(k:AV):List (AV×AV×Nat)→Nat→Option (Option (Nat×AV×Nat))
 | [],_=>some none
 | (k',v,b)::l,i=>(MA k k').bind fun e=>match e with
  | true=>some (some (i,v,b))
  | false=>D2 k l (i+1)
def CG(P:Program)(t:TypeId):AV→Bool
 | .int k _=>match P.underlying t with
  | some (.int k')=>BY k k'
  | _=>false
 | .str _=>match P.underlying t with
  | some .string=>true
  | _=>false
 | _=>false
def DF(P:Program)(s:AF)(t:TypeId)(m k:AV)(ok:Bool):Option AV:=
 match P.underlying t with
 | some (.map kt et)=>AI (CG P kt k) <|
  (match m with
   | .map none=>some []
   | .map (some i)=>match s.heap.get i with
    | some (.map es _)=>some es
    | _=>none
   | _=>none).bind fun es=>(D2 k es 0).bind fun r =>
   (match r with
    | some (_,v,_)=>some (v,true)
    | none=>(CY P et).bind fun z=>some (z,false)).bind fun p=>some (bif ok then .tuple [p.1,.bool p.2]else p.1)
 | _=>none
def setNth(es:List (AV×AV×Nat))(i:Nat)(v:AV):List (AV×AV×Nat):=
 match es,i with
 | [],_=>[]
 | (k,_,b)::l,0=>(k,v,b)::l
 | e::l,i+1=>e::setNth l i v
def EX(P:Program)(s:AF)(t:TypeId)(m k v:AV):Option AF:=
 match P.underlying t,m with
 | some (.map kt _),.map (some i)=>AI (CG P kt k) <| match s.heap.get i with
  | some (.map es clock)=>(D2 k es 0).bind fun r=>match r with
   | some (j,_,_)=>some (setObj s i (.map (setNth es j v) clock))
   | none=>some (setObj s i (.map (es++[(k,v,clock)]) (clock+1)))
  | _=>none
 | _,_=>none
def delNth(es:List (AV×AV×Nat))(i:Nat):List (AV×AV×Nat):=
 match es,i with
 | [],_=>[]
 | _::l,0=>l
 | e::l,i+1=>e::delNth l i
def Kk(P:Program)(s:AF)(t:TypeId)(m k:AV):Option AF:=
 match P.underlying t with
 | some (.map kt _)=>AI (CG P kt k) <| match m with
  | .map none=>some s
  | .map (some i)=>match s.heap.get i with
   | some (.map es clock)=>(D2 k es 0).bind fun r=>match r with
    | some (j,_,_)=>some (setObj s i (.map (delNth es j) clock))
    | none=>some s
   | _=>none
  | _=>none
 | _=>none
def Aq(P:Program)(s:AF)(t:TypeId):AV→Option AV
 | .str l=>match P.underlying t with
  | some .string=>some (.int .i64 (.ofNat l.length))
  | _=>none
 | .slice _ n _=>match P.underlying t with
  | some (.slice _)=>some (.int .i64 (.ofNat n))
  | _=>none
 | .map none=>match P.underlying t with
  | some (.map ..)=>some (.int .i64 (.ofNat 0))
  | _=>none
 | .map (some i)=>match P.underlying t with
  | some (.map ..)=>match s.heap.get i with
   | some (.map es _)=>some (.int .i64 (.ofNat es.length))
   | _=>none
  | _=>none
 | _=>none
def VI(P:Program)(s:AF)(t:TypeId):AV→Option AV
 | .slice a _ cap=>match P.underlying t with
  | some (.slice e)=>match cap with
   | some c=>some (.int .i64 (.ofNat c))
   | none=>match a with
    | some (i,o)=>(BC P e).bind fun n=>(rowAt s i).bind fun r=>AI (!r.spare && Nat.ble o r.n && Nat.beq n r.sz && !Nat.beq n 0) (some (.int .i64 (.ofNat ((r.n - o) / n))))
    | none=>none
  | _=>none
 | _=>none
def Made.val(i:Nat):Made→AV
 | .ptr=>.ptr (some (i,0))
 | .slice n=>.slice (some (i,0)) n (some n)
 | .map=>.map (some i)
def Bi(P:Program)(e:TypeId):Option (C0×Made):=(CY P e).bind fun z=>some (AO e 0 z.cells,.ptr)
def DS(e:TypeId)(v:AV):Option (C0×Made):=some (AO e 0 v.cells,.ptr)
def EN(P:Program)(t:TypeId)(l c:AV):Option (C0×Made):=
 match P.underlying t,l,c with
  | some (.slice e),.int .i64 (.ofNat l),.int .i64 (.ofNat c)=>(CQ P e).bind fun by_=>(BC P e).bind fun n =>
   AI (Nat.beq l c && Nat.ble (by_ * c) 1099511627776 && Nat.ble c 1099511627776) <|
   (CY P e).bind fun z=>AI (Nat.beq z.cells.length n) (some (AO e n (Jx z.cells c),.slice c))
  | _,_,_=>none
def TY(P:Program)(t:TypeId):Bool:=match P.underlying t with
 | some (.int _)=>true
 | _=>false
def fA(s:AF)(i o n size:Nat):Option (List AV):=bif Nat.beq n 0 then some []else loadN s i o (n * size)
def BZ(P:Program)(s:AF)(e:TypeId)(size:Nat):AV→Option (Nat×List AV)
 | .int _ (.ofNat n)=>AI (Nat.ble n 1099511627776 && Nat.blt 0 n) ((CY P e).bind fun z=>AI (Nat.beq z.cells.length size) (some (n,Jx z.cells n)))
 | .slice none _ _=>some (0,[])
 | .slice (some (i,o)) n _=>(fA s i o n size).bind fun l=>some (n,l)
 | .str l=>AI (Nat.beq size 1) (some (l.length,l.map fun b=>.int .u8 (.ofNat b)))
 | _=>none
def BI(P:Program)(t:TypeId):Bool:=match P.underlying t with
 | some (.slice _) | some .string=>true
 | _=>false
def Cp(e:TypeId)(sz:Nat)(c:Aj AV)(n:Nat)(par:Option Nat):C0:=
 .row { elem:=e,sz,n,c,spare:=true,mode:=.own,par,bytes:=false }
def CC(P:Program)(e:TypeId)(size:Nat):Bool:=match CY P e with
 | some z=>Nat.beq z.cells.length size
 | none=>false
def Bv(P:Program)(s:AF)(e:TypeId)(size n:Nat)(cells:List AV):Option (AV×AF):=
 AI (CC P e size) (some (.slice (some (s.next,0)) n none,newObj s (Cp e size (Aj.fill .leaf 0 cells) cells.length none)))
def Cm(s:AF)(i:Nat)(r:EY)(ends:Bool):AF:=
 bif ends then setObj (Av s i r) i (.row { r with mode:=.sealed,par:=none })else Cl (Av s i r) i
def DQ(P:Program)(s:AF)(e:TypeId)(size i o len:Nat)(src:Nat×List AV)(r:EY)(old:List AV):Option (AV×AF):=
 AI (Ec r.mode && CC P e size) <|
  let ends:=Nat.beq (o+len * size) r.n
  let s2:=Cm s i r ends
  some (.slice (some (s.next,0)) (len+src.1) none,
   newObj s2 (Cp e size (bif Nat.beq o 0 then r.c.fill (len * size) src.2 else Aj.fill .leaf 0 (old++src.2)) (old++src.2).length (bif ends then some i else none)))
def Dz(P:Program)(s:AF)(e:TypeId)(size i o len:Nat)(src:Nat×List AV)(r:EY):Option (AV×AF):=
 AI (Nat.beq size r.sz) <|
 bif Nat.ble (o+(len+src.1) * size) r.n then
  (CK s i (o+len * size) src.2).bind fun s'=>some (.slice (some (i,o)) (len+src.1) none,s')
 else (loadN s i o (len * size)).bind fun old =>
  bif r.spare then DQ P s e size i o len src r old else Bv P s e size (len+src.1) (old++src.2)
def DP(P:Program)(s:AF)(e:TypeId)(size i o len c:Nat)(src:Nat×List AV):Option (AV×AF):=
 bif Nat.ble (len+src.1) c then
  (CK s i (o+len * size) src.2).bind fun s'=>some (.slice (some (i,o)) (len+src.1) (some c),s')
 else (loadN s i o (len * size)).bind fun old=>Bv P s e size (len+src.1) (old++src.2)
def appTo(P:Program)(s:AF)(e:TypeId)(size:Nat)(a:Option (Nat×Nat))(len:Nat)(cap:Option Nat)(src:Nat×List AV):Option (AV×AF):=
 match a with
 | none=>bif Nat.beq src.1 0 then some (.slice none 0 (some 0),s)else Bv P s e size src.1 src.2
 | some (i,o)=>match cap with
  | some c=>DP P s e size i o len c src
  | none=>(rowAt s i).bind fun r=>Dz P s e size i o len src r
def Af(P:Program)(s:AF)(argTypes:List TypeId)(args:List AV):Option (AV×AF):=
 match argTypes,args with
 | [st,xt],[.slice a len cap,x]=>match P.underlying st with
  | some (.slice e)=>(BC P e).bind fun size=>(CQ P e).bind fun by_ =>
   AI (!Nat.beq size 0 && (match x with | .int ..=>TY P xt | _=>BI P xt)) <|
   (BZ P s e size x).bind fun src =>
   AI (Ak src.2 && Nat.ble ((len+src.1) * by_) 1099511627776 && Nat.ble (len+src.1) 1099511627776) <|
   appTo P s e size a len cap src
  | _=>none
 | _,_=>none
def aT(P:Program)(s:AF)(argTypes:List TypeId)(args:List AV):Option (AV×AF):=
 match argTypes,args with
 | dt::_,[.slice a dl _,x]=>match P.underlying dt with
  | some (.slice e)=>(BC P e).bind fun size =>
   (match x with | .slice _ n _=>some n | .str l=>some l.length | _=>none).bind fun sl =>
   let n:=bif Nat.ble sl dl then sl else dl
   (match x with
    | .slice none _ _=>some []
    | .slice (some (i,o)) _ _=>loadN s i o (n * size)
    | .str l=>AI (Nat.beq size 1) (some ((l.take n).map fun b=>.int .u8 (.ofNat b)))
    | _=>none).bind fun cells =>
   (match a with
    | none=>some s
    | some (i,o)=>CK s i o cells).bind fun s'=>some (.int .i64 (.ofNat n),s')
  | _=>none
 | _,_=>none
def Dj(P:Program)(s:AF)(argTypes:List TypeId)(args:List AV):Option (AV×AF):=
 match argTypes,args with
 | t::_,[x]=>match P.underlying t,x with
  | some (.slice _),.slice none _ _=>some (BJ,s)
  | some (.slice _),.slice _ 0 _=>some (BJ,s)
  | some (.slice e),.slice (some (i,o)) n _=>(CY P e).bind fun z=>(CK s i o (Jx z.cells n)).bind fun s'=>some (BJ,s')
  | _,_=>none
 | _,_=>none
inductive Sh where
 | p1 (f:AV→Option AV)
 | p2 (f:AV→AV→Option AV)
 | p (f:List AV→Option AV)
 | r1 (f:AF→AV→Option AV)
 | r (f:AF→List AV→Option AV)
 | mk (f:List AV→Option (C0×Made))
 | e (f:AF→List AV→Option (AV×AF))
 | call (f:FuncId)
 | callv
def Sh.isEff:Sh→Bool
 | .e _ | .call _ | .callv=>true
 | _=>false
def Sh.isRead:Sh→Bool
 | .r1 _ | .r _=>true
 | _=>false
def Rn:List AV→Option AV
 | [c,a,b]=>Ro c a b
 | _=>none
def BV{α:Type}(f:AV→AV→Option α):List AV→Option α
 | [a,b]=>f a b
 | _=>none
def oI{α:Type}(f:AV→AV→AV→Option α):List AV→Option α
 | [a,b,c]=>f a b c
 | _=>none
def AU(x:Option AF):Option (AV×AF):=match x with
 | some s=>some (BJ,s)
 | none=>none
def Ad(P:Program)(t:TypeId)(lo hi mx:Bool)(s:AF):List AV→Option AV
 | [x]=>match lo,hi,mx with
  | false,false,false=>Ar P s t x none none none
  | _,_,_=>none
 | [x,a]=>match lo,hi,mx with
  | true,false,false=>Ar P s t x (some a) none none
  | false,true,false=>Ar P s t x none (some a) none
  | _,_,_=>none
 | [x,a,b]=>match lo,hi,mx with
  | true,true,false=>Ar P s t x (some a) (some b) none
  | false,true,true=>Ar P s t x none (some a) (some b)
  | _,_,_=>none
 | [x,a,b,c]=>match lo,hi,mx with
  | true,true,true=>Ar P s t x (some a) (some b) (some c)
  | _,_,_=>none
 | _=>none
def zipIdx(is:List Nat)(l:List AV):List (Nat×AV):=is.zip l
def G6:Operand→Bool
 | .tmp _=>true
 | _=>false
def bf(P:Program)(op:BinOp)(t:TypeId)(x y:Operand):Option Bool:=match op with
 | .eql=>bif G6 x && G6 y && G5 P t then some false else none
 | .neq=>bif G6 x && G6 y && G5 P t then some true else none
 | _=>none
def BW(P:Program)(o:Op):Option (Sh×List Operand):=
 match o with
 | .move x | .assign x=>some (.p1 some,[x])
 | .pick c a b=>some (.p Rn,[c,a,b])
 | .build t ps=>some (.p (fun l=>Bz P t (zipIdx (ps.toList.map (·.1)) l)),ps.toList.map (·.2))
 | .nilCheck x=>some (.p1 AE,[x])
 | .binOp op t x y _=>match bf P op t x y with
  | some neg=>some (.r (fun s=>BV (HE P s neg t)),[x,y])
  | none=>some (.p2 (AL P op t),[x,y])
 | .unOp op _ x=>some (.p1 (GZ P op),[x])
 | .makeFunc fn first captured=>match fn with
  | .func f=>some (.p (fun l=>some (.func f (l.take first.size) (l.drop first.size))),first.toList++captured.toList)
  | _=>none
 | .fieldAddr t x f=>some (.p1 (fun x=>AB P t x f),[x])
 | .field t x f=>some (.p1 (fun x=>TS P t x f),[x])
 | .indexAddr t x i=>some (.p2 (AC P t),[x,i])
 | .index t x i=>some (.p2 (Hx P t),[x,i])
 | .extract t i=>some (.p1 (fun x=>Rp x i),[t])
 | .load t a=>some (.r1 (fun s a=>AD P s t a),[a])
 | .lookup t m k ok=>some (.r (fun s=>BV (fun m k=>DF P s t m k ok)),[m,k])
 | .convert src dst x=>some (.r1 (fun s x=>CN P s src dst x),[x])
 | .slice t x lo hi mx=>some (.r (Ad P t lo.isSome hi.isSome mx.isSome),[x]++lo.toList++hi.toList++mx.toList)
 | .alloc e=>some (.mk (fun l=>match l with | []=>Bi P e | _=>none),[])
 | .box e x=>some (.mk (fun l=>match l with | [v]=>DS e v | _=>none),[x])
 | .buildSlice t len ps=>some (.mk (fun l=>(Ae P t len (zipIdx (ps.toList.map (·.1)) l)).bind fun r=>some (r,.slice len)),ps.toList.map (·.2))
 | .makeMap _ none=>some (.mk (fun l=>match l with | []=>some (.map [] 0,.map) | _=>none),[])
 | .makeSlice t l c=>some (.mk (BV (EN P t)),[l,c])
 | .store t a x=>some (.e (fun s=>BV (fun a x=>AU (AM P s t a x))),[a,x])
 | .mapUpdate t m k x | .insert t m k x=>some (.e (fun s=>oI (fun m k x=>AU (EX P s t m k x))),[m,k,x])
 | .call { callee,args,argTypes }=>match callee with
  | .value (.func f)=>some (.call f,args.toList)
  | .value x=>some (.callv,x::args.toList)
  | .invoke ..=>none
  | .builtin b=>match b with
   | .len=>match argTypes[0]? with
    | some t=>some (.r (fun s l=>match l with | [x]=>Aq P s t x | _=>none),args.toList)
    | none=>none
   | .cap=>match argTypes[0]? with
    | some t=>some (.r (fun s l=>match l with | [x]=>VI P s t x | _=>none),args.toList)
    | none=>none
   | .min=>some (.p (fun l=>match l with | v::l=>EO false v l | []=>none),args.toList)
   | .max=>some (.p (fun l=>match l with | v::l=>EO true v l | []=>none),args.toList)
   | .append=>some (.e (fun s l=>Af P s argTypes.toList l),args.toList)
   | .copy=>some (.e (fun s l=>aT P s argTypes.toList l),args.toList)
   | .clear=>some (.e (fun s l=>Dj P s argTypes.toList l),args.toList)
   | .delete=>match argTypes[0]? with
    | some t=>some (.e (fun s=>BV (fun m k=>AU (Kk P s t m k))),args.toList)
    | none=>none
   | _=>none
 | _=>none
def oR(t:Nat):Nat:=Nat.shiftLeft 1 t
def HC:List Operand→Nat
 | []=>0
 | .tmp t::l=>Nat.lor (oR t) (HC l)
 | _::l=>HC l
def Lk(P:Program):List Oper→Nat→Nat→Nat
 | [],_,e=>e
 | o::l,wr,e =>
  let rd:=match BW P o.op with
   | some (_,xs)=>HC xs
   | none=>0
  Lk P l (match o.dst with | some d=>Nat.lor wr (oR d) | none=>wr) (Nat.lor e (Nat.sub rd (Nat.land rd wr)))
def E2(P:Program):Code→Nat
 | .region _ ops _=>Lk P ops.toList 0 0
 | .seq a b=>Nat.lor (E2 P a) (E2 P b)
 | .cond c a b=>Nat.lor (HC [c]) (Nat.lor (E2 P a) (E2 P b))
 | .block _ b | .loop b | .scope b=>E2 P b
 | .rangeFunc f ps a b=>Nat.lor (HC [f]) (Nat.lor (ps.toList.foldl (fun m t=>Nat.lor m (oR t)) 0) (Nat.lor (E2 P a) (E2 P b)))
 | _=>0
def H0:List ResultVar→Nat
 | []=>0
 | .tmp t::l | .cell t _::l=>Nat.lor (oR t) (H0 l)
def F3(m:Nat):Nat→Nat→List Nat
 | 0,_=>[]
 | n+1,k=>bif m.testBit k then k::F3 m n (k+1)else F3 m n (k+1)
def Dh(fn:Func):Nat:=fn.params.size+fn.nfree
def BT(P:Program)(fn:Func):List Tmp:=
 List.range (Dh fn)++match fn.body with
 | none=>[]
 | some c=>F3 (Nat.lor (E2 P c) (H0 fn.results.toList)) (fn.ntmps - Dh fn) (Dh fn)
def CA:List Tmp→Tmp→Option Nat
 | [],_=>none
 | a::l,t=>bif Nat.beq a t then some 0 else (CA l t).bind fun j=>some (j+1)
def Pp(P:Program)(o:Oper):Bool:=match BW P o.op with
 | some (s,_)=>s.isEff
 | none=>true
def U2(b:Array Nat)(done:Nat)(i:Nat):Bool:=Nat.beq (Nat.land (b.getD i 0) done) (b.getD i 0)
def To(P:Program)(ops:Array Oper)(b:Array Nat):Nat→Nat→List Nat→List Nat→List Nat
 | 0,_,_,acc=>acc.reverse
 | f+1,done,todo,acc =>
  match todo.find? fun i=>U2 b done i && !Pp P (ops.getD i default)with
  | some i=>To P ops b f (done+2 ^ i) (todo.filter fun j=>!Nat.beq j i) (i::acc)
  | none=>match todo.find? fun i=>U2 b done i with
   | some i=>To P ops b f (done+2 ^ i) (todo.filter fun j=>!Nat.beq j i) (i::acc)
   | none=>acc.reverse
def eb(P:Program)(ops:Array Oper):List Nat:=To P ops (Region.before ops) ops.size 0 (List.range ops.size) []
def GT(P:Program)(o:Oper):List Tmp:=o.dst.toList++((match BW P o.op with
 | some (_,xs)=>xs
 | none=>[]).filterMap fun x:Operand=>match x with
  | .tmp t=>some t
  | _=>none)
def Uq(o:Oper):List Nat:=match o.guard with
 | some (j,_)=>[j]
 | none=>[]
def PC(P:Program)(ops:Array Oper)(b:Array Nat)(before:List Nat)(i:Nat):Bool:=
 let o:=ops.getD i default
 let anc:=b.getD i 0
 Nat.blt i ops.size && !before.contains i &&
 (List.range ops.size).all (fun j=>!anc.testBit j || before.contains j) &&
 o.after.all (fun e=>!Region.binds .any e || before.contains e.on) &&
 before.all (fun j=>!Pp P (ops.getD j default) || anc.testBit j) &&
 (Uq o).all (fun j=>anc.testBit j) &&
 before.all (fun j=>let p:=ops.getD j default
  (match o.dst with
   | none=>true
   | some d=>p.dst != some d && (!(GT P p).contains d || anc.testBit j)) &&
  (match p.dst with
   | none=>true
   | some d=>!(GT P o).contains d || anc.testBit j))
def FU(P:Program)(ops:Array Oper)(b:Array Nat):List Nat→List Nat→Bool
 | before,[]=>Nat.beq before.length ops.size
 | before,i::l=>PC P ops b before i && FU P ops b (before++[i]) l
inductive KZ where
 | push | set (j:Nat)
structure Gl where
 guard:Option (CX×Bool)
 sh:Sh
 xs:List CX
 ans:CX
structure AA where
 guard:Option (CX×Bool)
 sh:Sh
 xs:List CX
 dst:KZ
 again:List Gl
structure cZ where
 map:List (Tmp×CX)
 cnt:Nat
def Et:List (Tmp×CX)→Tmp→Option CX
 | [],_=>none
 | (a,x)::l,t=>bif Nat.beq a t then some x else Et l t
def Cf(cnt:Nat):CX→CX
 | .loc p=>.loc (cnt - 1 - p)
 | x=>x
def Ew(vars:List Tmp)(c:cZ)(t:Tmp):Option CX:=
 match Et c.map t with
 | some x=>some x
 | none=>(CA vars t).bind fun j=>some (.var j)
def Fi(vars:List Tmp)(c:cZ):Operand→Option CX
 | .tmp t=>Ew vars c t
 | .const v=>(ofValue v).bind fun a=>some (.const a)
 | .global _=>none
 | .func f=>some (.const (.func f [] []))
def Hz(vars:List Tmp)(c:cZ):List Operand→Option (List CX)
 | []=>some []
 | x::l=>(Fi vars c x).bind fun a=>(Hz vars c l).bind fun r=>some (a::r)
def isVar(j:Nat):CX→Bool
 | .var i=>Nat.beq i j
 | _=>false
def Ip(j:Nat):List (Tmp×CX)→Bool
 | []=>true
 | (_,x)::l=>!isVar j x && Ip j l
def Kh(vars:List Tmp)(later:List (Option Tmp))(o:Oper)(x:CX):Bool:=
 (match o.op with | .move _=>true | _=>false) && o.guard.isNone &&
 (match o.dst with | some d=>(CA vars d).isNone | none=>false) &&
 (match x with
  | .var j=>!(later.any fun d=>match d with
   | some t=>match CA vars t with
    | some i=>Nat.beq i j
    | none=>false
   | none=>false)
  | _=>true)
def Hg(cnt:Nat):Option (CX×Bool)→Option (CX×Bool)
 | none=>none
 | some (x,b)=>some (Cf cnt x,b)
def Iw(cnt:Nat)(r:Gl):Gl:={ guard:=Hg cnt r.guard,sh:=r.sh,xs:=r.xs.map (Cf cnt),ans:=Cf cnt r.ans }
def O4(j:Nat)(r:Gl):Bool:=(match r.guard with | none=>true | some (x,_)=>!isVar j x) && r.xs.all fun x=>!isVar j x
def E1(P:Program)(nt:Nat)(vars:List Tmp)(ops:Array Oper)(b:Array Nat)(draw:Bool):List Nat→cZ→List (Nat×Gl)→Option (List AA)
  | [],_,_=>some []
  | i::l,c,rs=>(ops[i]?).bind fun o=>(BW P o.op).bind fun sh=>(Hz vars c sh.2).bind fun xs =>
    match (match xs with | [x]=>bif Kh vars (l.map fun j=>(ops.getD j default).dst) o x then some x else none | _=>none),o.dst with
    | some x,some d=>AI (Nat.blt d nt) (E1 P nt vars ops b draw l { c with map:=(d,x)::c.map } rs)
    | _,_ =>
      (match o.guard with
        | none=>some none
        | some (j,want)=>(ops[j]?).bind fun p=>p.dst.bind fun d=>(Ew vars c d).bind fun x=>some (some (x,want))).bind fun g =>
      (match o.dst with
        | none=>some (KZ.push,{ c with cnt:=c.cnt+1 })
        | some d=>AI (Nat.blt d nt) <| match CA vars d with
          | some j=>AI (Ip j c.map && rs.all fun r=>O4 j r.2) (some (KZ.set j,c))
          | none=>some (KZ.push,{ map:=(d,.loc c.cnt)::c.map,cnt:=c.cnt+1 })).bind fun q =>
      let ag:=match draw,sh.1.isEff with
        | true,true=>rs.filter fun(r:Nat×Gl)=>!(b.getD i 0).testBit r.1
        | _,_=>[]
      let rd:=draw && sh.1.isRead
      AI (!rd || (match q.1 with | .push=>true | .set _=>false)) <|
      (E1 P nt vars ops b draw l q.2 (bif rd then (i,{ guard:=g,sh:=sh.1,xs,ans:=.loc c.cnt })::rs else rs)).bind fun r =>
        some ({ guard:=Hg c.cnt g,sh:=sh.1,xs:=xs.map (Cf c.cnt),dst:=q.1,again:=ag.map fun(r:Nat×Gl)=>Iw q.2.cnt r.2 }::r)
inductive Ac where
 | skip
 | ops (l:List AA)
 | seq (a b:Ac)
 | cond (x:CX) (a b:Ac)
 | block (id:Nat) (c:Ac)
 | loop (c:Ac)
 | rangeFunc (fn:FuncId) (f:CX) (params:Array Tmp) (assign body:Code)
 | exit (id:Nat)
 | ret
 | never
def kL:Option (List AA)→Ac
 | some l=>.ops l
 | none=>.never
def BK(P:Program)(fn:FuncId)(nt:Nat)(vars:List Tmp):Code→Ac
 | .skip | .label _=>.skip
 | .ret=>.ret
 | .exit id=>.exit id
 | .goto _ | .refuse _=>.never
 | .region _ ops draw=>match draw with
  | false=>kL (E1 P nt vars ops #[] false (List.range ops.size) ⟨[],0⟩ [])
  | true=>kL (AI (FU P ops (Region.before ops) [] (eb P ops)) (E1 P nt vars ops (Region.before ops) true (eb P ops) ⟨[],0⟩ []))
 | .seq a b=>.seq (BK P fn nt vars a) (BK P fn nt vars b)
 | .cond c a b=>match Fi vars ⟨[],0⟩ c with
  | some z=>.cond z (BK P fn nt vars a) (BK P fn nt vars b)
  | none=>.never
 | .block id c=>.block id (BK P fn nt vars c)
 | .loop c=>.loop (BK P fn nt vars c)
 | .scope c=>BK P fn nt vars c
 | .rangeFunc f ps a b=>match Fi vars ⟨[],0⟩ f with
  | some x=>.rangeFunc fn x ps a b
  | none=>.never
structure Aw where
 na:Nat
 nv:Nat
 body:Ac
 results:List (CX×Option TypeId)
def C1(vars:List Tmp):List ResultVar→Option (List (CX×Option TypeId))
 | []=>some []
 | .tmp t::l=>(CA vars t).bind fun j=>(C1 vars l).bind fun r=>some ((.var j,none)::r)
 | .cell t ty::l=>(CA vars t).bind fun j=>(C1 vars l).bind fun r=>some ((.var j,some ty)::r)
def AS(P:Program)(f:FuncId):Option Aw:=(P.funcs[f]?).bind fun fn=>fn.body.bind fun c =>
 AI (Nat.ble (Dh fn) fn.ntmps) <|
 let vars:=BT P fn
 (C1 vars fn.results.toList).bind fun r =>
  some { na:=Dh fn,nv:=vars.length,body:=BK P f fn.ntmps vars c,results:=r }
def Uz (l:List AV):Nat→AV:=
 List.rec (fun _=>BJ) (fun a _ ih i=>Nat.rec a (fun i _=>ih i) i) l
def Mq (v:AV) (l:List AV):Nat→List AV:=
 List.rec (fun _=>[]) (fun a l ih i=>Nat.rec (v::l) (fun i _=>a::ih i) i) l
def Du (loc var:List AV) (x:CX):AV:=
 match x with
 | .loc i=>Uz loc i
 | .var j=>Uz var j
 | .const v=>v
def EI (loc var:List AV) (l:List CX):List AV:=
 List.rec [] (fun x _ ih=>Du loc var x::ih) l
inductive M7 where
 | normal | exit (id:Nat) | ret
structure A0 where
 exit:M7
 var:List AV
 marks:List Nat
 st:AF
def FY:AV→AV→Bool
 | .bool a,.bool b=>a == b
 | .int k a,.int k' b=>BY k k' && Ul a b
 | .str a,.str b=>Gg a b
 | .ptr none,.ptr none=>true
 | .ptr (some (i,o)),.ptr (some (j,p))=>Nat.beq i j && Nat.beq o p
 | .slice none n (some c),.slice none n' (some c')=>Nat.beq n n' && Nat.beq c c'
 | .slice none n none,.slice none n' none=>Nat.beq n n'
 | .slice (some (i,o)) n none,.slice (some (j,p)) n' none=>Nat.beq i j && Nat.beq o p && Nat.beq n n'
 | .slice (some (i,o)) n (some c),.slice (some (j,p)) n' (some c')=>Nat.beq i j && Nat.beq o p && Nat.beq n n' && Nat.beq c c'
 | .map none,.map none=>true
 | .map (some i),.map (some j)=>Nat.beq i j
 | .func f a c,.func g b d=>Nat.beq f g && eqAs a b && eqAs c d
 | .nilFunc,.nilFunc=>true
 | .nilIface,.nilIface=>true
 | .yield i,.yield j=>Nat.beq i j
 | .agg a,.agg b=>eqAs a b
 | .tuple a,.tuple b=>eqAs a b
 | _,_=>false
where
 eqAs:List AV→List AV→Bool
 | [],[]=>true
 | a::x,b::y=>FY a b && eqAs x y
 | _,_=>false
abbrev cg:=FuncId→List AV→AF→Option (AV×AF)
structure BN where
 P:Program
 nat:cg
structure EF where
 code:Option Nat→Ac→List AV→List Nat→AF→Option A0
 call:FuncId→List AV→AF→Option (AV×AF)
 round:Nat→List AV→AF→Option (AV×AF)
def Gy(F:EF)(f:AV)(args:List AV)(s:AF):Option (AV×AF):=
 match f with
 | .func f first cap=>F.call f (first++(args++cap)) s
 | .yield l=>F.round l args s
 | _=>none
def EE(s:AF)(x:Option AV):Option (AV×AF):=match x with
 | some v=>some (v,s)
 | none=>none
def one{α:Type}(f:AV→Option α):List AV→Option α
 | [a]=>f a
 | _=>none
def Ev(sh:Sh)(xs:List AV)(s:AF):Option AV:=
 match sh with
 | .r1 f=>one (f s) xs
 | .r f=>f s xs
 | _=>none
def QD(s:AF)(r:Option (C0×Made)):Option (AV×AF):=match r with
 | some p=>some (p.2.val s.next,newObj s p.1)
 | none=>none
def My {α:Type} (f:CX→Option α) (xs:List CX):Option α:=List.rec none (fun x _ _=>f x) xs
def JB {α:Type} (f:CX→CX→Option α) (xs:List CX):Option α:=My (fun x=>My (f x) xs.tail) xs
def pM (f:AV→Option AV) (xs:List CX) (loc var:List AV) (s:AF):Option (AV×AF):=My (fun x=>EE s (f (Du loc var x))) xs
def pN (f:AV→AV→Option AV) (xs:List CX) (loc var:List AV) (s:AF):Option (AV×AF):=JB (fun x y=>EE s (f (Du loc var x) (Du loc var y))) xs
def pO (f:AF→AV→Option AV) (xs:List CX) (loc var:List AV) (s:AF):Option (AV×AF):=My (fun x=>EE s (f s (Du loc var x))) xs
def shV (F:EF) (xs:List CX) (loc var:List AV) (s:AF):Option (AV×AF):=My (fun x=>Gy F (Du loc var x) (EI loc var xs.tail) s) xs
def mf (F:EF) (sh:Sh) (xs:List CX) (loc var:List AV) (s:AF):Option (AV×AF):=
 match sh with
 | .p1 f=>pM f xs loc var s
 | .p2 f=>pN f xs loc var s
 | .p f=>EE s (f (EI loc var xs))
 | .r1 f=>pO f xs loc var s
 | .r f=>EE s (f s (EI loc var xs))
 | .mk f=>QD s (f (EI loc var xs))
 | .e f=>f s (EI loc var xs)
 | .call f=>F.call f (EI loc var xs) s
 | .callv=>shV F xs loc var s
def mr(want:Bool):AV→Bool
 | .bool b=>b == want
 | _=>false
def Bl (loc var:List AV) (g:Option (CX×Bool)):Bool:=
 match g with
 | none=>true
 | some p=>mr p.2 (Du loc var p.1)
def U6(x:Option AV)(v:AV):Bool:=match x with
 | some u=>FY u v
 | none=>false
def GJ (s:AF) (loc var:List AV) (r:Gl):Bool:=
 !Bl loc var r.guard || U6 (Ev r.sh (EI loc var r.xs) s) (Du loc var r.ans)
def Ek (s:AF) (loc var:List AV) (l:List Gl):Bool:=
 List.rec true (fun r _ ih=>GJ s loc var r && ih) l
abbrev Wh:=List AV→List AV→AF→Option (List AV×AF)
def DE (ag:List Gl) (d:KZ) (k:Wh) (loc var:List AV) (v:AV) (s:AF):Option (List AV×AF):=
 match d with
 | .push=>bif Ek s (v::loc) var ag then k (v::loc) var s else none
 | .set j=>bif Ek s loc (Mq v var j) ag then k loc (Mq v var j) s else none
def Kq (it:AA) (k:Wh) (loc var:List AV) (r:Option (AV×AF)):Option (List AV×AF):=
 match r with
 | none=>none
 | some p=>DE it.again it.dst k loc var p.1 p.2
def L9 (F:EF) (it:AA) (k:Wh) (loc var:List AV) (s:AF):Option (List AV×AF):=
 match Bl loc var it.guard with
 | true=>Kq it k loc var (mf F it.sh it.xs loc var s)
 | false=>DE [] it.dst k loc var BJ s
def Eo (F:EF) (l:List AA):Wh:=
 List.rec (fun _ var s=>some (var,s)) (fun it _ ih loc var s=>L9 F it ih loc var s) l
def Ql(l:List AV):Nat→List AV
 | 0=>[]
 | n+1=>match l with
  | []=>BJ::Ql [] n
  | a::l=>a::Ql l n
def B7 (P:Program) (s:AF) (var:List AV):List (CX×Option TypeId)→Option (List AV)
 | []=>some []
 | (x,none)::l=>(B7 P s var l).bind fun r=>some (Du [] var x::r)
 | (x,some t)::l=>(AD P s t (Du [] var x)).bind fun v=>(B7 P s var l).bind fun r=>some (v::r)
def Bo:List AV→AV
 | [v]=>v
 | l=>.tuple l
def unmark(s:AF):List Nat→Option AF
 | []=>some s
 | i::l=>match s.heap.get i with
  | some .mark=>unmark (Cl s i) l
  | _=>none
def DT:M7→Option Code
 | .normal=>none
 | .ret=>some .ret
 | .exit id=>some (.exit id)
def FC (vars:List Tmp) (var:List AV):List Tmp→List AV→Option (List AV)
 | [],[]=>some var
 | t::ts,v::vs=>(CA vars t).bind fun j=>FC vars (Mq v var j) ts vs
 | _,_=>none
def B2(s:AF)(l:Nat):Option Gm:=match s.heap.get l with
 | some (.loop r)=>some r
 | _=>none
def Hw(P:Program)(f:FuncId)(c:Code):Option Ac:=(P.funcs[f]?).bind fun fn=>some (BK P f fn.ntmps (BT P fn) c)
def Fx(P:Program)(f:FuncId):List Tmp:=match P.funcs[f]? with
 | some fn=>BT P fn
 | none=>[]
def df(marks:List Nat)(r:Option (List AV×AF)):Option A0:=match r with
 | some p=>some ⟨.normal,p.1,marks,p.2⟩
 | none=>none
def Hi(F:EF)(rnd:Option Nat)(b:Ac)(r:A0):Option A0:=match r.exit with
 | .normal=>F.code rnd b r.var r.marks r.st
 | _=>some r
def IW(F:EF)(rnd:Option Nat)(b:Ac)(r:Option A0):Option A0:=match r with
 | some r=>Hi F rnd b r
 | none=>none
def Pi(F:EF)(rnd:Option Nat)(a b:Ac)(var:List AV)(marks:List Nat)(s:AF)(v:AV):Option A0:=match v with
 | .bool t=>match t with
  | true=>F.code rnd a var marks s
  | false=>F.code rnd b var marks s
 | _=>none
def Ki(id:Nat)(r:A0):Option A0:=match r.exit with
 | .exit id'=>bif Nat.beq id' id then some ⟨.normal,r.var,r.marks,r.st⟩else some r
 | _=>some r
def LY(id:Nat)(r:Option A0):Option A0:=match r with
 | some r=>Ki id r
 | none=>none
def Gv(var:List AV)(marks:List Nat)(s:AF)(c:Option Code):Option A0:=match c with
 | none=>some ⟨.normal,var,marks,s⟩
 | some .ret=>some ⟨.ret,var,marks,s⟩
 | some (.exit id)=>some ⟨.exit id,var,marks,s⟩
 | some _=>none
def TX:LoopState→Bool
 | .busy=>true
 | _=>false
def Ko:LoopState→Bool
 | .ready=>true
 | _=>false
def HQ(var:List AV)(marks:List Nat)(l:Nat)(q:Option (AV×AF)):Option A0:=
 q.bind fun q=>(B2 q.2 l).bind fun r=>bif TX r.state then none else
  Gv var marks (setObj q.2 l (.loop { r with state:=.exhausted })) r.pending
def Fe(F:EF)(var:List AV)(f:AV)(params:Array Tmp)(assign body:Code)(fn:FuncId)(dfr:Nat)(marks:List Nat)(s:AF):Option A0:=
 HQ var marks s.next (Gy { F with round:=fun _ _ _=>none } f [.yield s.next] (newObj s (.loop { state:=.ready,pending:=none,fn,var,params,assign,body,dfr })))
def LZ(F:EF)(rnd:Option Nat)(fn:FuncId)(f:AV)(params:Array Tmp)(assign body:Code)(var:List AV)(marks:List Nat)(s:AF):Option A0:=
 match rnd with
 | some l=>(B2 s l).bind fun r=>Fe F var f params assign body fn r.dfr marks s
 | none=>Fe F var f params assign body fn s.next (s.next::marks) (newObj s .mark)
def DL (F:EF) (rnd:Option Nat) (c:Ac) (var:List AV) (marks:List Nat) (s:AF):Option A0:=
 match c with
 | .skip=>some ⟨.normal,var,marks,s⟩
 | .ret=>some ⟨.ret,var,marks,s⟩
 | .exit id=>some ⟨.exit id,var,marks,s⟩
 | .never=>none
 | .ops l=>df marks (Eo F l [] var s)
 | .seq a b=>IW F rnd b (F.code rnd a var marks s)
 | .cond x a b=>Pi F rnd a b var marks s (Du [] var x)
 | .block id body=>LY id (F.code rnd body var marks s)
 | .loop body=>IW F rnd (.loop body) (F.code rnd body var marks s)
 | .rangeFunc fn f params assign body=>LZ F rnd fn (Du [] var f) params assign body var marks s
def Ur:M7→Bool
 | .normal | .ret=>true
 | .exit _=>false
def Kj (P:Program) (cf:Aw) (r:Option A0):Option (AV×AF):=
 r.bind fun r=>bif Ur r.exit then (unmark r.st r.marks).bind fun s=>(B7 P s r.var cf.results).bind fun l=>some (Bo l,s)else none
def Gw (P:Program) (F:EF) (args:List AV) (s:AF) (cf:Option Aw):Option (AV×AF):=
 cf.bind fun cf=>bif Nat.beq args.length cf.na then Kj P cf (F.code none cf.body (Ql args cf.nv) [] s)else none
def KS (E:BN) (F:EF) (f:FuncId) (args:List AV) (s:AF):Option (AV×AF):=
 match E.nat f args s with
 | some p=>some p
 | none=>Gw E.P F args s (AS E.P f)
def Ik:M7→Bool
 | .normal=>true
 | _=>false
def Hb:Option Code→LoopState
 | none=>.ready
 | some _=>.done
def Iy(l:Nat)(q:Option A0):Option (AV×AF):=q.bind fun q=>(B2 q.st l).bind fun r =>
 some (.bool (DT q.exit).isNone,setObj q.st l (.loop { r with state:=Hb (DT q.exit),pending:=DT q.exit }))
def Ha(F:EF)(l:Nat)(cb:Ac)(q:Option A0):Option (AV×AF):=q.bind fun q=>bif Ik q.exit then
  (B2 q.st l).bind fun r=>bif Ko r.state then Iy l (F.code (some l) cb q.var q.marks (setObj q.st l (.loop { r with state:=.busy })))else none
 else none
def KT (E:BN) (F:EF) (l:Nat) (args:List AV) (s:AF):Option (AV×AF):=
 (B2 s l).bind fun r=>(FC (Fx E.P r.fn) r.var r.params.toList args).bind fun var =>
  (Hw E.P r.fn r.assign).bind fun ca=>(Hw E.P r.fn r.body).bind fun cb=>Ha F l cb (F.code (some l) ca var [] s)
def oH:EF:=⟨fun _ _ _ _ _=>none,fun _ _ _=>none,fun _ _ _=>none⟩
def oF (E:BN) (F:EF):EF:=⟨DL F,KS E F,KT E F⟩
def Eh (E:BN) (n:Nat):EF:=Nat.rec oH (fun _ F=>oF E F) n
end
end Go.Proofs.Ytilhhmkdcoajnaa.Am
set_option linter.unusedVariables false
set_option linter.unusedSimpArgs false
namespace Go.Proofs.Ytilhhmkdcoajnaa.Am
open Go
noncomputable section
structure EF.le(F G:EF):Prop where
 code:∀ {rnd:Option Nat} {c:Ac} {var:List AV} {marks:List Nat} {s:AF} {r:A0},F.code rnd c var marks s=some r→G.code rnd c var marks s=some r
 call:∀ {f:FuncId} {aS:List AV} {s:AF} {p:AV×AF},F.call f aS s=some p→G.call f aS s=some p
 round:∀ {l:Nat} {aS:List AV} {s:AF} {p:AV×AF},F.round l aS s=some p→G.round l aS s=some p
section
variable{F G:EF}
theorem Lb(h:F.le G){f:AV}{aS:List AV}{s:AF}{p:AV×AF}(hc:Gy F f aS s=some p):Gy G f aS s=some p:=by
 unfold Gy at hc ⊢
 split at hc
 ·exact h.call hc
 ·exact h.round hc
 ·cases hc
theorem Q2(h:F.le G){sh:Sh}{xs:List CX}{loc var:List AV}{s:AF}{p:AV×AF}(hc:mf F sh xs loc var s=some p):mf G sh xs loc var s=some p:=by
 cases sh<;>first | exact hc | exact h.call hc | skip
 cases xs with
 | nil=>cases hc
 | cons x xs=>exact Lb h hc
theorem G7(it:AA)(l:List AA)(loc var:List AV)(s:AF):Eo F (it::l) loc var s=L9 F it (Eo F l) loc var s:=rfl
theorem Il{k k':Wh}(hk:∀loc var s p,k loc var s=some p→k' loc var s=some p){ag:List Gl}{d:KZ}{loc var:List AV}{v:AV}{s:AF}{p:List AV×AF}(h:DE ag d k loc var v s=some p):DE ag d k' loc var v s=some p:=by
  cases d with
  | push =>
    simp only[DE]at h ⊢
    cases hb:Ek s (v::loc) var ag with
    | true=>rw[hb]at h;exact hk _ _ _ _ h
    | false=>rw[hb]at h;cases h
  | set j =>
    simp only[DE]at h ⊢
    cases hb:Ek s loc (Mq v var j) ag with
    | true=>rw[hb]at h;exact hk _ _ _ _ h
    | false=>rw[hb]at h;cases h
theorem G8(h:F.le G):∀ (l:List AA)(loc var:List AV)(s:AF)(p:List AV×AF),Eo F l loc var s=some p→Eo G l loc var s=some p:=by
 intro l
 induction l with
 | nil=>intro loc var s p hp;exact hp
 | cons it l ih =>
  intro loc var s p hp
  rw[G7]at hp ⊢
  unfold L9 at hp ⊢
  cases hw:Bl loc var it.guard with
  | true =>
   rw[hw]at hp
   simp only at hp ⊢
   unfold Kq at hp ⊢
   cases hs:mf F it.sh it.xs loc var s with
   | none=>rw[hs]at hp;cases hp
   | some q=>rw[hs]at hp;rw[Q2 h hs];exact Il ih hp
  | false =>
   rw[hw]at hp
   exact Il ih hp
theorem La(h:F.le G){rnd:Option Nat}{b:Ac}{r res:A0}(hc:Hi F rnd b r=some res):Hi G rnd b r=some res:=by
 unfold Hi at hc ⊢
 split at hc
 ·exact h.code hc
 ·exact hc
theorem IV(h:F.le G){var:List AV}{f:AV}{params:Array Tmp}{assign body:Code}{fn:FuncId}{dfr:Nat}{marks:List Nat}{s:AF}{res:A0}
  (hc:Fe F var f params assign body fn dfr marks s=some res):Fe G var f params assign body fn dfr marks s=some res:=by
 unfold Fe HQ at hc ⊢
 simp only[qJ]at hc ⊢
 obtain⟨q,h1,rest⟩:=hc
 have h':EF.le { F with round:=fun _ _ _=>none } { G with round:=fun _ _ _=>none }:=⟨h.code,h.call,fun h=>by cases h⟩
 exact⟨q,Lb h' h1,rest⟩
theorem T3(h:F.le G){rnd:Option Nat}{c:Ac}{var:List AV}{marks:List Nat}{s:AF}{res:A0}(hc:DL F rnd c var marks s=some res):DL G rnd c var marks s=some res:=by
  cases c with
  | skip=>exact hc
  | ret=>exact hc
  | exit id=>exact hc
  | never=>exact hc
  | ops l =>
    simp only[DL,df]at hc ⊢
    cases hi:Eo F l [] var s with
    | none=>rw[hi]at hc;cases hc
    | some p=>rw[hi]at hc;rw[G8 h _ _ _ _ _ hi];exact hc
  | seq a b =>
    simp only[DL]at hc ⊢
    unfold IW at hc ⊢
    cases ha:F.code rnd a var marks s with
    | none=>rw[ha]at hc;cases hc
    | some r=>rw[ha]at hc;rw[h.code ha];exact La h hc
  | cond x a b =>
    simp only[DL]at hc ⊢
    unfold Pi at hc ⊢
    split at hc
    · split at hc
      · exact h.code hc
      · exact h.code hc
    · cases hc
  | block id c =>
    simp only[DL]at hc ⊢
    unfold LY at hc ⊢
    cases ha:F.code rnd c var marks s with
    | none=>rw[ha]at hc;cases hc
    | some r=>rw[ha]at hc;rw[h.code ha];exact hc
  | loop c =>
    simp only[DL]at hc ⊢
    unfold IW at hc ⊢
    cases ha:F.code rnd c var marks s with
    | none=>rw[ha]at hc;cases hc
    | some r=>rw[ha]at hc;rw[h.code ha];exact La h hc
  | rangeFunc fn f params assign body =>
    simp only[DL]at hc ⊢
    unfold LZ at hc ⊢
    cases rnd with
    | none=>exact IV h hc
    | some l =>
      simp only[qJ]at hc ⊢
      obtain⟨r,h1,h2⟩:=hc
      exact⟨r,h1,IV h h2⟩
theorem T4(h:F.le G){E:BN}{f:FuncId}{aS:List AV}{s:AF}{p:AV×AF}(hc:KS E F f aS s=some p):KS E G f aS s=some p:=by
 unfold KS at hc ⊢
 cases hn:E.nat f aS s with
 | some q=>rw[hn]at hc;exact hc
 | none =>
  rw[hn]at hc
  simp only at hc ⊢
  unfold Gw at hc ⊢
  simp only[qJ]at hc ⊢
  obtain⟨cf,h1,h2⟩:=hc
  refine⟨cf,h1,?_⟩
  cases hb:Nat.beq aS.length cf.na with
  | false=>rw[hb]at h2;cases h2
  | true =>
   rw[hb]at h2
   simp only[cond_true]at h2 ⊢
   unfold Kj at h2 ⊢
   simp only[qJ]at h2 ⊢
   obtain⟨r,h3,h4⟩:=h2
   exact⟨r,h.code h3,h4⟩
theorem T5(h:F.le G){E:BN}{l:Nat}{aS:List AV}{s:AF}{p:AV×AF}(hc:KT E F l aS s=some p):KT E G l aS s=some p:=by
 unfold KT at hc ⊢
 simp only[qJ]at hc ⊢
 obtain⟨r,h1,var,h2,ca,h3,cb,h4,hc⟩:=hc
 refine⟨r,h1,var,h2,ca,h3,cb,h4,?_⟩
 unfold Ha at hc ⊢
 simp only[qJ]at hc ⊢
 obtain⟨q,h5,hc⟩:=hc
 refine⟨q,h.code h5,?_⟩
 cases hn:Ik q.exit with
 | false=>rw[hn]at hc;cases hc
 | true =>
  rw[hn]at hc
  simp only[cond_true,qJ]at hc ⊢
  obtain⟨r2,h6,hc⟩:=hc
  refine⟨r2,h6,?_⟩
  cases hr:Ko r2.state with
  | false=>rw[hr]at hc;cases hc
  | true =>
   rw[hr]at hc
   simp only[cond_true]at hc ⊢
   unfold Iy at hc ⊢
   simp only[qJ]at hc ⊢
   obtain⟨q2,h7,rest⟩:=hc
   exact⟨q2,h.code h7,rest⟩
end
theorem O8(E:BN):∀n,(Eh E n).le (Eh E (n+1)):=by
 intro n
 induction n with
 | zero=>exact⟨fun h=>(by cases h),fun h=>(by cases h),fun h=>(by cases h)⟩
 | succ n ih=>exact⟨fun h=>T3 ih h,fun h=>T4 ih h,fun h=>T5 ih h⟩
theorem EF.le.refl(F:EF):F.le F:=⟨id,id,id⟩
theorem EF.le.trans{F G H:EF}(h:F.le G)(k:G.le H):F.le H:=⟨fun x=>k.code (h.code x),fun x=>k.call (h.call x),fun x=>k.round (h.round x)⟩
theorem GV(E:BN){n m:Nat}(h:n≤m):(Eh E n).le (Eh E m):=by
 induction h with
 | refl=>exact EF.le.refl _
 | step _ ih=>exact ih.trans (O8 E _)
section
variable(E:BN)
def WC(rnd:Option Nat)(c:Ac)(Q:A0→Prop)(var:List AV)(marks:List Nat)(s:AF):Prop:=∃n r,(Eh E n).code rnd c var marks s=some r∧Q r
def WI(l:List AA)(K:List AV→AF→Prop)(loc var:List AV)(s:AF):Prop:=∃n p,Eo (Eh E n) l loc var s=some p∧K p.1 p.2
def WF(f:FuncId)(aS:List AV)(K:AV→AF→Prop)(s:AF):Prop:=∃n p,(Eh E n).call f aS s=some p∧K p.1 p.2
def WR(l:Nat)(aS:List AV)(K:AV→AF→Prop)(s:AF):Prop:=∃n p,(Eh E n).round l aS s=some p∧K p.1 p.2
end
section
variable{E:BN}{rnd:Option Nat}{Q Q':A0→Prop}{var loc:List AV}{marks:List Nat}{s:AF}{K K':AV→AF→Prop}{KI:List AV→AF→Prop}
theorem WC.mono{c:Ac}(h:WC E rnd c Q var marks s)(hq:∀r,Q r→Q' r):WC E rnd c Q' var marks s:=let ⟨n,r,h1,h2⟩:=h;⟨n,r,h1,hq r h2⟩
theorem WF.mono{f:FuncId}{aS:List AV}(h:WF E f aS K s)(hq:∀v s',K v s'→K' v s'):WF E f aS K' s:=let ⟨n,r,h1,h2⟩:=h;⟨n,r,h1,hq _ _ h2⟩
theorem WC.skip(h:Q ⟨.normal,var,marks,s⟩):WC E rnd .skip Q var marks s:=⟨1,_,rfl,h⟩
theorem WC.ret(h:Q ⟨.ret,var,marks,s⟩):WC E rnd .ret Q var marks s:=⟨1,_,rfl,h⟩
theorem WC.exit{id:Nat}(h:Q ⟨.exit id,var,marks,s⟩):WC E rnd (.exit id) Q var marks s:=⟨1,_,rfl,h⟩
def VC(E:BN)(rnd:Option Nat)(b:Ac)(Q:A0→Prop)(r:A0):Prop:=match r.exit with
 | .normal=>WC E rnd b Q r.var r.marks r.st
 | _=>Q r
theorem Q0{a b:Ac}{n:Nat}{r:A0}(h1:(Eh E n).code rnd a var marks s=some r)(h2:VC E rnd b Q r):∃m res,IW (Eh E m) rnd b ((Eh E m).code rnd a var marks s)=some res∧Q res:=by
 unfold VC at h2
 cases he:r.exit with
 | normal =>
  rw[he]at h2
  obtain⟨m,res,h3,h4⟩:=h2
  refine⟨max n m,res,?_,h4⟩
  rw[(GV E (Nat.le_max_left n m)).code h1]
  simp only[IW,Hi,he]
  exact(GV E (Nat.le_max_right n m)).code h3
 | exit id=>rw[he]at h2;exact⟨n,r,by rw[h1];simp only[IW,Hi,he],h2⟩
 | ret=>rw[he]at h2;exact⟨n,r,by rw[h1];simp only[IW,Hi,he],h2⟩
theorem WC.seq{a b:Ac}(h:WC E rnd a (VC E rnd b Q) var marks s):WC E rnd (.seq a b) Q var marks s:=by
 obtain⟨n,r,h1,h2⟩:=h
 obtain⟨m,res,h3,h4⟩:=Q0 h1 h2
 exact⟨m+1,res,h3,h4⟩
theorem WC.loop{c:Ac}(h:WC E rnd c (VC E rnd (.loop c) Q) var marks s):WC E rnd (.loop c) Q var marks s:=by
 obtain⟨n,r,h1,h2⟩:=h
 obtain⟨m,res,h3,h4⟩:=Q0 h1 h2
 exact⟨m+1,res,h3,h4⟩
theorem WC.cond{x:CX}{a b:Ac}{t:Bool}(hx:Du [] var x=.bool t)(h:WC E rnd (bif t then a else b) Q var marks s):WC E rnd (.cond x a b) Q var marks s:=by
 obtain⟨n,r,h1,h2⟩:=h
 refine⟨n+1,r,?_,h2⟩
 show DL (Eh E n) rnd (.cond x a b) var marks s=some r
 simp only[DL,Pi,hx]
 cases t<;>exact h1
def Cy(id:Nat)(Q:A0→Prop)(r:A0):Prop:=match r.exit with
 | .exit id'=>bif Nat.beq id' id then Q ⟨.normal,r.var,r.marks,r.st⟩else Q r
 | _=>Q r
theorem WC.block{id:Nat}{c:Ac}(h:WC E rnd c (Cy id Q) var marks s):WC E rnd (.block id c) Q var marks s:=by
 obtain⟨n,r,h1,h2⟩:=h
 unfold Cy at h2
 have:∃res,Ki id r=some res∧Q res:=by
  unfold Ki
  split at h2
  ·rename_i id' he
   try simp only[he]
   cases hb:Nat.beq id' id with
   | true=>rw[hb]at h2;exact⟨_,rfl,h2⟩
   | false=>rw[hb]at h2;exact⟨_,rfl,h2⟩
  ·rename_i hne
   cases he:r.exit with
   | normal=>exact⟨r,rfl,h2⟩
   | ret=>exact⟨r,rfl,h2⟩
   | exit id'=>exact absurd he (hne id')
 obtain⟨res,h3,h4⟩:=this
 refine⟨n+1,res,?_,h4⟩
 show DL (Eh E n) rnd (.block id c) var marks s=some res
 simp only[DL,LY,h1,h3]
theorem WC.ops{l:List AA}(h:WI E l (fun v s'=>Q ⟨.normal,v,marks,s'⟩) [] var s):WC E rnd (.ops l) Q var marks s:=by
 obtain⟨n,p,h1,h2⟩:=h
 refine⟨n+1,⟨.normal,p.1,marks,p.2⟩,?_,h2⟩
 show DL (Eh E n) rnd (.ops l) var marks s=_
 simp only[DL,df,h1]
theorem WI.nil(h:KI var s):WI E [] KI loc var s:=⟨0,_,rfl,h⟩
def my(E:BN)(ag:List Gl)(d:KZ)(l:List AA)(KI:List AV→AF→Prop)(loc var:List AV)(v:AV)(s:AF):Prop:=match d with
 | .push=>Ek s (v::loc) var ag=true∧WI E l KI (v::loc) var s
 | .set j=>Ek s loc (Mq v var j) ag=true∧WI E l KI loc (Mq v var j) s
theorem Uk{ag:List Gl}{d:KZ}{l:List AA}{v:AV}(h:my E ag d l KI loc var v s):∃n p,(∀m,n≤m→DE ag d (Eo (Eh E m) l) loc var v s=some p)∧KI p.1 p.2:=by
 cases d with
 | push =>
  obtain⟨h1,n,p,h2,h3⟩:=h
  exact⟨n,p,fun m hm=>by simp only[DE,h1,cond_true];exact G8 (GV E hm) _ _ _ _ _ h2,h3⟩
 | set j =>
  obtain⟨h1,n,p,h2,h3⟩:=h
  exact⟨n,p,fun m hm=>by simp only[DE,h1,cond_true];exact G8 (GV E hm) _ _ _ _ _ h2,h3⟩
theorem WI.item{it:AA}{l:List AA}{n:Nat}{p:AV×AF}(hw:Bl loc var it.guard=true)(hs:mf (Eh E n) it.sh it.xs loc var s=some p)(h:my E it.again it.dst l KI loc var p.1 p.2):WI E (it::l) KI loc var s:=by
 obtain⟨m,q,h1,h2⟩:=Uk h
 refine⟨max n m,q,?_,h2⟩
 rw[G7]
 unfold L9
 rw[hw]
 simp only[Kq,Q2 (GV E (Nat.le_max_left n m)) hs]
 exact h1 _ (Nat.le_max_right n m)
theorem WI.off{it:AA}{l:List AA}(hw:Bl loc var it.guard=false)(h:my E [] it.dst l KI loc var BJ s):WI E (it::l) KI loc var s:=by
 obtain⟨m,q,h1,h2⟩:=Uk h
 refine⟨m,q,?_,h2⟩
 rw[G7]
 unfold L9
 rw[hw]
 exact h1 _ (qI m)
def Ends(P:Program)(rs:List (CX×Option TypeId))(K:AV→AF→Prop)(r:A0):Prop:=Ur r.exit=true∧∃s',unmark r.st r.marks=some s'∧∃l,B7 P s' r.var rs=some l∧K (Bo l) s'
theorem WF.body{f:FuncId}{aS:List AV}{cf:Aw}(hn:E.nat f aS s=none)(hf:AS E.P f=some cf)(ha:aS.length=cf.na)(h:WC E none cf.body (Ends E.P cf.results K) (Ql aS cf.nv) [] s):WF E f aS K s:=by
 obtain⟨n,r,h1,h2,s',h3,l,h4,h5⟩:=h
 refine⟨n+1,(Bo l,s'),?_,h5⟩
 show KS E (Eh E n) f aS s=_
 simp[KS,hn,Gw,hf,ha,Kj,h1,h2,h3,h4]
end
def Vx{α:Type}(x:Option α)(K:α→Prop):Prop:=match x with
 | some v=>K v
 | none=>False
theorem Qm{α:Type}(v:α)(K:α→Prop):Vx (some v) K=K v:=Eq.trans rfl rfl
section
variable(E:BN)
def Qe(f:AV)(aS:List AV)(K:AV→AF→Prop)(s:AF):Prop:=match f with
 | .func f first cap=>WF E f (first++(aS++cap)) K s
 | .yield l=>WR E l aS K s
 | _=>False
def Qc(sh:Sh)(xs:List AV)(K:AV→AF→Prop)(s:AF):Prop:=match sh with
 | .p1 f=>match xs with
  | a::_=>Vx (f a) (fun v=>K v s)
  | []=>False
 | .p2 f=>match xs with
  | a::b::_=>Vx (f a b) (fun v=>K v s)
  | _=>False
 | .p f=>Vx (f xs) (fun v=>K v s)
 | .r1 f=>match xs with
  | a::_=>Vx (f s a) (fun v=>K v s)
  | []=>False
 | .r f=>Vx (f s xs) (fun v=>K v s)
 | .mk f=>Vx (f xs) (fun p=>K (p.2.val s.next) (newObj s p.1))
 | .e f=>Vx (f s xs) (fun p=>K p.1 p.2)
 | .call f=>WF E f xs K s
 | .callv=>match xs with
  | f::aS=>Qe E f aS K s
  | []=>False
def Qh (loc var:List AV):List CX→List AV
 | []=>[]
 | x::l=>Du loc var x::Qh loc var l
def Qn(s:AF)(loc var:List AV):List Gl→Prop
 | []=>True
 | r::l=>GJ s loc var r=true∧Qn s loc var l
def Qd(ag:List Gl)(d:KZ)(loc var:List AV)(k:List AV→List AV→AF→Prop)(v:AV)(s:AF):Prop:=match d with
 | .push=>Qn s (v::loc) var ag∧k (v::loc) var s
 | .set j=>Qn s loc (Mq v var j) ag∧k loc (Mq v var j) s
def Ui(v:AV)(x y:List AV→List Nat→AF→Prop)(var:List AV)(marks:List Nat)(s:AF):Prop:=match v with
 | .bool true=>x var marks s
 | .bool false=>y var marks s
 | _=>False
def Gk(k:List AV→List Nat→AF→Prop)(Q:A0→Prop)(r:A0):Prop:=match r.exit with
 | .normal=>k r.var r.marks r.st
 | _=>Q r
def pR(b:Bool)(sh:Sh)(xs:List AV)(ag:List Gl)(d:KZ)(loc var:List AV)(k:List AV→List AV→AF→Prop)(s:AF):Prop:=match b with
 | true=>Qc E sh xs (Qd ag d loc var k) s
 | false=>Qd [] d loc var k BJ s
def Qb:List AA→(List AV→AF→Prop)→List AV→List AV→AF→Prop
 | [],K,_,var,s=>K var s
 | it::l,K,loc,var,s=>pR E (Bl loc var it.guard) it.sh (Qh loc var it.xs) it.again it.dst loc var (Qb l K) s
def Qa(rnd:Option Nat):Ac→(A0→Prop)→List AV→List Nat→AF→Prop
 | .skip,Q,var,marks,s=>Q ⟨.normal,var,marks,s⟩
 | .ret,Q,var,marks,s=>Q ⟨.ret,var,marks,s⟩
 | .exit id,Q,var,marks,s=>Q ⟨.exit id,var,marks,s⟩
 | .never,_,_,_,_=>False
 | .ops l,Q,var,marks,s=>Qb E l (fun v s'=>Q ⟨.normal,v,marks,s'⟩) [] var s
 | .seq a b,Q,var,marks,s=>Qa rnd a (Gk (Qa rnd b Q) Q) var marks s
 | .cond x a b,Q,var,marks,s=>Ui (Du [] var x) (Qa rnd a Q) (Qa rnd b Q) var marks s
 | .block id c,Q,var,marks,s=>Qa rnd c (Cy id Q) var marks s
 | .loop c,Q,var,marks,s=>WC E rnd (.loop c) Q var marks s
 | .rangeFunc fn f ps a b,Q,var,marks,s=>WC E rnd (.rangeFunc fn f ps a b) Q var marks s
end
section
variable{E:BN}{rnd:Option Nat}{Q Q':A0→Prop}{var loc:List AV}{marks:List Nat}{s:AF}{K K':AV→AF→Prop}{KI:List AV→AF→Prop}
theorem PH:∀ (l:List CX),Qh loc var l=EI loc var l
 | []=>rfl
 | x::l=>by show Du loc var x::Qh loc var l=Du loc var x::EI loc var l;rw[PH l]
theorem K1:∀ {l:List Gl},Qn s loc var l→Ek s loc var l=true
 | [],_=>rfl
 | r::l,h=>by show(GJ s loc var r && Ek s loc var l)=true;rw[h.1,K1 h.2];rfl
theorem GU{α:Type}{x:Option α}{K:α→Prop}(h:Vx x K):∃v,x=some v∧K v:=by
 cases x with
 | none=>exact h.elim
 | some v=>exact⟨v,rfl,h⟩
theorem fG{f:AV}{aS:List AV}(h:Qe E f aS K s):∃n p,Gy (Eh E n) f aS s=some p∧K p.1 p.2:=by
 cases f with
 | func f first cap=>obtain⟨n,p,h1,h2⟩:=h;exact⟨n,p,h1,h2⟩
 | yield l=>obtain⟨n,p,h1,h2⟩:=h;exact⟨n,p,h1,h2⟩
 | _=>exact h.elim
theorem fF      {sh : Sh} {xs : List CX} (h : Qc E sh (Qh loc var xs) K s) : ∃ n p, mf  (Eh   E n) sh xs loc var s = some p ∧ K p.1 p.2 := by
  rw[PH]at h
  cases sh with
  | p1 f =>
    cases xs with
    | nil=>exact h.elim
    | cons x l =>
      obtain⟨v,h1,h2⟩:=GU h
      exact⟨0,(v,s),by show EE s (f (Du loc var x))=_;rw[h1];rfl,h2⟩
  | p2 f =>
    cases xs with
    | nil=>exact h.elim
    | cons x l =>
      cases l with
      | nil=>exact h.elim
      | cons y l =>
        obtain⟨v,h1,h2⟩:=GU h
        exact⟨0,(v,s),by show EE s (f (Du loc var x) (Du loc var y))=_;rw[h1];rfl,h2⟩
  | p f =>
    obtain⟨v,h1,h2⟩:=GU h
    exact⟨0,(v,s),by show EE s (f (EI loc var xs))=_;rw[h1];rfl,h2⟩
  | r1 f =>
    cases xs with
    | nil=>exact h.elim
    | cons x l =>
      obtain⟨v,h1,h2⟩:=GU h
      exact⟨0,(v,s),by show EE s (f s (Du loc var x))=_;rw[h1];rfl,h2⟩
  | r f =>
    obtain⟨v,h1,h2⟩:=GU h
    exact⟨0,(v,s),by show EE s (f s (EI loc var xs))=_;rw[h1];rfl,h2⟩
  | mk f =>
    obtain⟨v,h1,h2⟩:=GU h
    exact⟨0,(v.2.val s.next,newObj s v.1),by show QD s (f (EI loc var xs))=_;rw[h1];rfl,h2⟩
  | e f =>
    obtain⟨v,h1,h2⟩:=GU h
    exact⟨0,v,h1,h2⟩
  | call f=>obtain⟨n,p,h1,h2⟩:=h;exact⟨n,p,h1,h2⟩
  | callv =>
    cases xs with
    | nil=>exact h.elim
    | cons x l=>exact fG h
theorem fE:∀ {l:List AA}{loc var:List AV}{s:AF},Qb E l KI loc var s→WI E l KI loc var s:=by
 intro l
 induction l with
 | nil=>intro loc var s h;exact WI.nil h
 | cons it l ih =>
  intro loc var s h
  have dst:∀ {ag:List Gl} {v:AV} {s:AF},Qd ag it.dst loc var (Qb E l KI) v s→my E ag it.dst l KI loc var v s:=by
   intro ag v s h
   unfold Qd at h
   unfold my
   cases hd:it.dst with
   | push=>rw[hd]at h;exact⟨K1 h.1,ih h.2⟩
   | set j=>rw[hd]at h;exact⟨K1 h.1,ih h.2⟩
  unfold Qb at h
  cases hw:Bl loc var it.guard with
  | true =>
   rw[hw]at h
   have h:Qc E it.sh (Qh loc var it.xs) (Qd it.again it.dst loc var (Qb E l KI)) s:=h
   obtain⟨n,p,h1,h2⟩:=fF h
   exact WI.item hw h1 (dst h2)
  | false =>
   rw[hw]at h
   have h:Qd [] it.dst loc var (Qb E l KI) BJ s:=h
   exact WI.off hw (dst h)
theorem Kv:∀ {c:Ac}{Q:A0→Prop}{var:List AV}{marks:List Nat}{s:AF},Qa E rnd c Q var marks s→WC E rnd c Q var marks s:=by
 intro c
 induction c with
 | skip=>intro Q var marks s h;exact WC.skip h
 | ret=>intro Q var marks s h;exact WC.ret h
 | exit id=>intro Q var marks s h;exact WC.exit h
 | never=>intro Q var marks s h;exact h.elim
 | ops l=>intro Q var marks s h;exact WC.ops (fE h)
 | seq a b iha ihb =>
  intro Q var marks s h
  refine WC.seq ((iha h).mono ?_)
  intro r hr
  unfold Gk at hr
  unfold VC
  cases he:r.exit with
  | normal=>rw[he]at hr;exact ihb hr
  | exit id=>rw[he]at hr;exact hr
  | ret=>rw[he]at hr;exact hr
 | cond x a b iha ihb =>
  intro Q var marks s h
  unfold Qa Ui at h
  split at h<;>first | exact h.elim | skip
  ·rename_i ht;exact WC.cond ht (iha h)
  ·rename_i ht;exact WC.cond ht (ihb h)
 | block id c ih=>intro Q var marks s h;exact WC.block (ih h)
 | loop c _=>intro Q var marks s h;exact h
 | rangeFunc fn f ps a b=>intro Q var marks s h;exact h
theorem WC.loop'{c:Ac}(h:Qa E rnd c (Gk (WC E rnd (.loop c) Q) Q) var marks s):WC E rnd (.loop c) Q var marks s:=by
 refine WC.loop ((Kv h).mono ?_)
 intro r hr
 unfold Gk at hr
 unfold VC
 cases he:r.exit with
 | normal=>rw[he]at hr;exact hr
 | exit id=>rw[he]at hr;exact hr
 | ret=>rw[he]at hr;exact hr
theorem WF.body'{f:FuncId}{aS:List AV}{cf:Aw}(hn:E.nat f aS s=none)(hf:AS E.P f=some cf)(ha:aS.length=cf.na)(h:Qa E none cf.body (Ends E.P cf.results K) (Ql aS cf.nv) [] s):WF E f aS K s:=WF.body hn hf ha (Kv h)
end
theorem Qq(a:AV)(l:List AV):Uz (a::l) 0=a:=rfl
theorem Qr(a:AV)(l:List AV)(n:Nat):Uz (a::l) (n+1)=Uz l n:=rfl
theorem Qo(v a:AV)(l:List AV):Mq v (a::l) 0=v::l:=rfl
theorem Qp(v a:AV)(l:List AV)(n:Nat):Mq v (a::l) (n+1)=a::Mq v l n:=rfl
theorem Qk(loc var:List AV)(i:Nat):Du loc var (.loc i)=Uz loc i:=rfl
theorem Qj(loc var:List AV)(i:Nat):Du loc var (.var i)=Uz var i:=rfl
theorem Qi(loc var:List AV)(v:AV):Du loc var (.const v)=v:=rfl
theorem Qf(loc var:List AV):Bl loc var none=true:=rfl
theorem Qg(loc var:List AV)(x:CX)(b:Bool):Bl loc var (some (x,b))=mr b (Du loc var x):=rfl
theorem Qs(E:BN)(sh:Sh)(xs:List AV)(ag:List Gl)(d:KZ)(loc var:List AV)(k:List AV→List AV→AF→Prop)(s:AF):pR E true sh xs ag d loc var k s=Qc E sh xs (Qd ag d loc var k) s:=rfl
theorem Qt(E:BN)(sh:Sh)(xs:List AV)(ag:List Gl)(d:KZ)(loc var:List AV)(k:List AV→List AV→AF→Prop)(s:AF):pR E false sh xs ag d loc var k s=Qd [] d loc var k BJ s:=rfl
theorem Qu(x y:List AV→List Nat→AF→Prop)(var:List AV)(m:List Nat)(s:AF):Ui (.bool true) x y var m s=x var m s:=rfl
theorem Qv(x y:List AV→List Nat→AF→Prop)(var:List AV)(m:List Nat)(s:AF):Ui (.bool false) x y var m s=y var m s:=rfl
theorem Qw(k:List AV→List Nat→AF→Prop)(Q:A0→Prop)(v:List AV)(m:List Nat)(s:AF):Gk k Q ⟨.normal,v,m,s⟩=k v m s:=rfl
theorem Qx(k:List AV→List Nat→AF→Prop)(Q:A0→Prop)(v:List AV)(m:List Nat)(s:AF):Gk k Q ⟨.ret,v,m,s⟩=Q ⟨.ret,v,m,s⟩:=rfl
theorem Qy(k:List AV→List Nat→AF→Prop)(Q:A0→Prop)(id:Nat)(v:List AV)(m:List Nat)(s:AF):Gk k Q ⟨.exit id,v,m,s⟩=Q ⟨.exit id,v,m,s⟩:=rfl
theorem Qz(id:Nat)(Q:A0→Prop)(v:List AV)(m:List Nat)(s:AF):Cy id Q ⟨.normal,v,m,s⟩=Q ⟨.normal,v,m,s⟩:=rfl
theorem Ra(id:Nat)(Q:A0→Prop)(v:List AV)(m:List Nat)(s:AF):Cy id Q ⟨.ret,v,m,s⟩=Q ⟨.ret,v,m,s⟩:=rfl
theorem Rb(id id':Nat)(Q:A0→Prop)(v:List AV)(m:List Nat)(s:AF):Cy id Q ⟨.exit id',v,m,s⟩=if id'=id then Q ⟨.normal,v,m,s⟩else Q ⟨.exit id',v,m,s⟩:=by
 unfold Cy
 by_cases h:id'=id
 ·subst h;simp
 ·have:Nat.beq id' id=false:=by
   cases hb:Nat.beq id' id with
   | true=>exact absurd (qu hb) h
   | false=>rfl
  simp[h,this]
theorem Rc(P:Program)(rs:List (CX×Option TypeId))(K:AV→AF→Prop)(v:List AV)(m:List Nat)(s:AF):Ends P rs K ⟨.ret,v,m,s⟩=Vx (unmark s m) (fun s'=>Vx (B7 P s' v rs) (fun l=>K (Bo l) s')):=by
 unfold Ends
 apply propext
 constructor
 ·rintro⟨_,s',h1,l,h2,h3⟩
  have h1:unmark s m=some s':=h1
  have h2:B7 P s' v rs=some l:=h2
  rw[h1,Qm,h2,Qm];exact h3
 ·intro h
  obtain⟨s',h1,h⟩:=GU h
  obtain⟨l,h2,h3⟩:=GU h
  exact⟨rfl,s',h1,l,h2,h3⟩
theorem Rd(P:Program)(rs:List (CX×Option TypeId))(K:AV→AF→Prop)(v:List AV)(m:List Nat)(s:AF):Ends P rs K ⟨.normal,v,m,s⟩=Vx (unmark s m) (fun s'=>Vx (B7 P s' v rs) (fun l=>K (Bo l) s')):=by
 rw[← Rc];rfl
theorem Re(s:AF):unmark s []=some s:=rfl
theorem Rf(P:Program)(s:AF)(v:List AV):B7 P s v []=some []:=rfl
theorem Rg(P:Program)(s:AF)(v:List AV)(x:CX)(l:List (CX×Option TypeId)):B7 P s v ((x,none)::l)=(B7 P s v l).bind fun r=>some (Du [] v x::r):=rfl
theorem Rh(v:AV):Bo [v]=v:=rfl
theorem Ri:Bo []=.tuple []:=rfl
theorem Rj(v w:AV)(l:List AV):Bo (v::w::l)=.tuple (v::w::l):=rfl
theorem Rk(w:Bool):mr w BJ=false:=rfl
theorem Rl(b:Bool):mr true (.bool b)=b:=by cases b<;>rfl
theorem Rm(b:Bool):mr false (.bool b)=!b:=by cases b<;>rfl
theorem Ya:(!true)=false:=rfl
theorem Yb:(!false)=true:=rfl
theorem Yc{α β:Type _}(a:α)(f:α→Option β):(some a).bind f=f a:=rfl
theorem Yd{α:Type _}(a:α)(l:List α):(a::l)[0]? = some a:=rfl
theorem Ye{α:Type _}(a:α)(l:List α)(i:Nat):(a::l)[i+1]? = l[i]? := rfl
end
end Go.Proofs.Ytilhhmkdcoajnaa.Am
namespace Go.Proofs.Ytilhhmkdcoajnaa.Am
open Go
noncomputable section
structure RB where
 b:Nat
 off:Nat
 N:Nat
 sz:Nat
abbrev Bp:=Nat→Option RB
mutual
inductive Aa (ρ:Bp):AV→Value→Prop
 | bool (b:Bool):Aa ρ (.bool b) (.bool b)
 | int (k:IntKind) (n:Int):Aa ρ (.int k n) (.int k n)
 | str {l:List Nat} {s:ByteArray} (h:s.data.toList.map (fun(b:UInt8)=>b.toNat)=l):Aa ρ (.str l) (.string s)
 | ptrNil:Aa ρ (.ptr none) (.pointer none)
 | ptr {i o:Nat} {rb:RB} (h:ρ i=some rb):Aa ρ (.ptr (some (i,o))) (.pointer (some ⟨rb.b,rb.off+o,none⟩))
 | sliceNil:Aa ρ (.slice none 0 (some 0)) (.slice none 0 0)
 | slice {i o len c:Nat} {rb:RB} (h:ρ i=some rb) (hl:len≤c):Aa ρ (.slice (some (i,o)) len (some c)) (.slice (some ⟨rb.b,rb.off+o,none⟩) len c)
 | sliceOpen {i o len c:Nat} {rb:RB} (h:ρ i=some rb) (hs:0<rb.sz) (hl:len≤c) (h1:o+c * rb.sz≤rb.N) (h2:rb.N<o+(c+1) * rb.sz):
   Aa ρ (.slice (some (i,o)) len none) (.slice (some ⟨rb.b,rb.off+o,none⟩) len c)
 | sliceEnd {i o:Nat} {rb:RB} {a:Addr} (h:ρ i=some rb) (hs:0<rb.sz) (h1:o≤rb.N) (h2:rb.N<o+rb.sz):
   Aa ρ (.slice (some (i,o)) 0 none) (.slice (some a) 0 0)
 | mapNil:Aa ρ (.map none) (.map none)
 | map {i:Nat} {rb:RB} (h:ρ i=some rb):Aa ρ (.map (some i)) (.map (some rb.b))
 | func {f:FuncId} {a c:List AV} {a' c':Array Value} (ha:AY ρ a a'.toList) (hc:AY ρ c c'.toList):Aa ρ (.func f a c) (.func (.func f) a' c')
 | yield {i:Nat} {rb:RB} (h:ρ i=some rb):Aa ρ (.yield i) (.func (.yield rb.b) #[] #[])
 | nilFunc:Aa ρ .nilFunc .nilFunc
 | nilIface:Aa ρ .nilIface .nilIface
 | iface {t:TypeId} {v:AV} {v':Value} (h:Aa ρ v v'):Aa ρ (.iface t v) (.iface t v')
 | agg {cs:List AV} {cs':Array Value} (h:AY ρ cs cs'.toList):Aa ρ (.agg cs) (.agg cs')
 | tuple {cs:List AV} {cs':Array Value} (h:AY ρ cs cs'.toList):Aa ρ (.tuple cs) (.tuple cs')
inductive AY (ρ:Bp):List AV→List Value→Prop
 | nil:AY ρ [] []
 | cons {v:AV} {v':Value} {l:List AV} {l':List Value} (h:Aa ρ v v') (hs:AY ρ l l'):AY ρ (v::l) (v'::l')
end
def Bp.le(ρ σ:Bp):Prop:=∀i rb,ρ i=some rb→σ i=some rb
theorem Bp.le_refl(ρ:Bp):ρ.le ρ:=fun _ _ h=>h
theorem Bp.le_trans{ρ σ τ:Bp}(h:ρ.le σ)(k:σ.le τ):ρ.le τ:=fun i rb e=>k i rb (h i rb e)
mutual
theorem Aa.mono{ρ σ:Bp}(le:ρ.le σ){v:AV}{v':Value}(h:Aa ρ v v'):Aa σ v v':=by
 cases h with
 | bool b=>exact .bool b
 | int k n=>exact .int k n
 | str h=>exact .str h
 | ptrNil=>exact .ptrNil
 | ptr h=>exact .ptr (le _ _ h)
 | sliceNil=>exact .sliceNil
 | slice h hl=>exact .slice (le _ _ h) hl
 | sliceOpen h hs hl h1 h2=>exact .sliceOpen (le _ _ h) hs hl h1 h2
 | sliceEnd h hs h1 h2=>exact .sliceEnd (le _ _ h) hs h1 h2
 | mapNil=>exact .mapNil
 | map h=>exact .map (le _ _ h)
 | func ha hc=>exact .func (AY.mono le ha) (AY.mono le hc)
 | yield h=>exact .yield (le _ _ h)
 | nilFunc=>exact .nilFunc
 | nilIface=>exact .nilIface
 | iface h=>exact .iface (Aa.mono le h)
 | agg h=>exact .agg (AY.mono le h)
 | tuple h=>exact .tuple (AY.mono le h)
theorem AY.mono{ρ σ:Bp}(le:ρ.le σ){v:List AV}{v':List Value}(h:AY ρ v v'):AY σ v v':=by
 cases h with
 | nil=>exact .nil
 | cons h hs=>exact .cons (Aa.mono le h) (AY.mono le hs)
end
section lists
variable{ρ:Bp}
theorem AY.length{l:List AV}{l':List Value}(h:AY ρ l l'):l.length=l'.length:=by
 induction l generalizing l' with
 | nil=>cases h;rfl
 | cons a l ih=>cases h with | cons h hs=>simp[ih hs]
theorem AY.get{l:List AV}{l':List Value}(h:AY ρ l l'){k:Nat}{v:AV}(hk:l[k]? = some v):∃v',l'[k]? = some v'∧Aa ρ v v':=by
  induction l generalizing l' k with
  | nil=>simp at hk
  | cons a l ih =>
    cases h with
    | cons h hs =>
      cases k with
      | zero=>simp at hk;subst hk;exact⟨_,rfl,h⟩
      | succ k=>simp at hk;obtain⟨v',h1,h2⟩:=ih hs hk;exact⟨v',by simpa using h1,h2⟩
theorem AY.of_get{l:List AV}{l':List Value}(hl:l.length=l'.length)(h:∀ (k:Nat)(v:AV)(v':Value),l[k]? = some v→l'[k]? = some v'→Aa ρ v v'):AY ρ l l':=by
  induction l generalizing l' with
  | nil=>cases l' with | nil=>exact .nil | cons=>simp at hl
  | cons a l ih =>
    cases l' with
    | nil=>simp at hl
    | cons a' l'=>exact .cons (h 0 a a' rfl rfl) (ih (by simpa using hl) fun k v v' h1 h2=>h (k+1) v v' (by simpa using h1) (by simpa using h2))
theorem AY.append{l m:List AV}{l' m':List Value}(h:AY ρ l l')(k:AY ρ m m'):AY ρ (l++m) (l'++m'):=by
 induction l generalizing l' with
 | nil=>cases h;exact k
 | cons a l ih=>cases h with | cons h hs=>exact .cons h (ih hs)
theorem AY.take{l:List AV}{l':List Value}(h:AY ρ l l')(n:Nat):AY ρ (l.take n) (l'.take n):=by
  induction l generalizing l' n with
  | nil=>cases h;simp;exact .nil
  | cons a l ih =>
    cases h with
    | cons h hs=>cases n with
      | zero=>exact .nil
      | succ n=>exact .cons h (ih hs n)
theorem AY.drop{l:List AV}{l':List Value}(h:AY ρ l l')(n:Nat):AY ρ (l.drop n) (l'.drop n):=by
  induction l generalizing l' n with
  | nil=>cases h;simp;exact .nil
  | cons a l ih =>
    cases h with
    | cons h hs=>cases n with
      | zero=>exact .cons h hs
      | succ n=>exact ih hs n
theorem Aa.cells{v:AV}{v':Value}(h:Aa ρ v v'):AY ρ v.cells v'.cells.toList:=by
 cases h with
 | agg h=>exact h
 | bool b=>exact .cons (.bool b) .nil
 | int k n=>exact .cons (.int k n) .nil
 | str h=>exact .cons (.str h) .nil
 | ptrNil=>exact .cons .ptrNil .nil
 | ptr h=>exact .cons (.ptr h) .nil
 | sliceNil=>exact .cons .sliceNil .nil
 | slice h hl=>exact .cons (.slice h hl) .nil
 | sliceOpen h hs hl h1 h2=>exact .cons (.sliceOpen h hs hl h1 h2) .nil
 | sliceEnd h hs h1 h2=>exact .cons (.sliceEnd h hs h1 h2) .nil
 | mapNil=>exact .cons .mapNil .nil
 | map h=>exact .cons (.map h) .nil
 | func ha hc=>exact .cons (.func ha hc) .nil
 | yield h=>exact .cons (.yield h) .nil
 | nilFunc=>exact .cons .nilFunc .nil
 | nilIface=>exact .cons .nilIface .nil
 | iface h=>exact .cons (.iface h) .nil
 | tuple h=>exact .cons (.tuple h) .nil
theorem Aa.oneCell{v:AV}{v':Value}(h:Aa ρ v v')(hc:v.isCell=true):v'.oneCell'=true:=by
 cases h<;>first | rfl | cases hc
theorem AY.oneCell{l:List AV}{l':List Value}(h:AY ρ l l')(hc:Ak l=true):∀v∈l',v.oneCell'=true:=by
  induction l generalizing l' with
  | nil=>cases h;simp
  | cons a l ih =>
    cases h with
    | cons h hs =>
      simp only[Ak,Bool.and_eq_true]at hc
      intro v hv
      rcases qp.1 hv with rfl | hv
      · exact h.oneCell hc.1
      · exact ih hs hc.2 v hv
end lists
theorem Ir(ρ:Bp){v:Value}{a:AV}(h:Iq v=some a):Aa ρ a v:=by
 unfold Iq at h
 split at h<;>first
  | (injection h with h;subst h;first | exact .bool _ | exact .int _ _ | exact .str rfl | exact .ptrNil | exact .sliceNil | exact .mapNil | exact .nilFunc | exact .nilIface)
  | cases h
theorem Fv(ρ:Bp):∀ {l:List Value}{r:List AV},E8 l=some r→AY ρ r l
 | [],r,h=>by simp[E8]at h;subst h;exact .nil
 | v::l,r,h=>by
  simp only[E8,qJ]at h
  obtain⟨a,ha,r',hr,h⟩:=h
  injection h with h;subst h
  exact .cons (Ir ρ ha) (Fv ρ hr)
theorem CE(ρ:Bp){v:Value}{a:AV}(h:ofValue v=some a):Aa ρ a v:=by
 unfold ofValue at h
 split at h
 ·simp only[qJ]at h
  obtain⟨l,hl,h⟩:=h
  injection h with h;subst h
  exact .agg (Fv ρ hl)
 ·simp only[qJ]at h
  obtain⟨l,hl,h⟩:=h
  injection h with h;subst h
  exact .tuple (Fv ρ hl)
 ·exact Ir ρ h
theorem Ds(ρ:Bp):Aa ρ BJ undef:=.tuple .nil
theorem AJ{α:Type}{b:Bool}{x:Option α}{a:α}(h:AI b x=some a):b=true∧x=some a:=by
 cases b with
 | true=>exact⟨rfl,h⟩
 | false=>cases h
inductive Ex (ρ:Bp):List (AV×AV×Nat)→List MapEntry→Prop
 | nil:Ex ρ [] []
 | cons {k v:AV} {b:Nat} {e:MapEntry} {l:List (AV×AV×Nat)} {l':List MapEntry} (hk:Aa ρ k e.key) (hv:Aa ρ v e.val) (hb:e.born=b) (hs:Ex ρ l l'):Ex ρ ((k,v,b)::l) (e::l')
theorem Ex.mono{ρ σ:Bp}(le:ρ.le σ){l:List (AV×AV×Nat)}{l':List MapEntry}(h:Ex ρ l l'):Ex σ l l':=by
 induction h with
 | nil=>exact .nil
 | cons hk hv hb _ ih=>exact .cons (hk.mono le) (hv.mono le) hb ih
structure FG(ρ:Bp)(w:World)(r:EY)(rb:RB):Prop where
 cells:∀k v,k<r.n→r.c.get k=some v→∃v',w.cell? ⟨rb.b,rb.off+k,none⟩=some v'∧Aa ρ v v'
 le:r.n≤rb.N
 sz:r.sz=rb.sz
 tight:r.spare=false→rb.N=r.n
 own:r.mode≠.ro→∃cs e,w.heap[rb.b]? = some (.cells cs e (0,0))∧rb.off+rb.N≤cs.size
 par:∀p,r.par=some p→∃rp,ρ p=some rp
def EV(ρ:Bp)(vars:List Tmp)(var:List AV)(tmps:Array Value):Prop:=
 ∀ (t:Tmp) (k:Nat),CA vars t=some k→t<tmps.size∧∃v:AV,var[k]? = some v∧Aa ρ v (tmps.getD t undef)
end
end Go.Proofs.Ytilhhmkdcoajnaa.Am
set_option linter.unusedVariables false
set_option linter.unusedSimpArgs false
namespace Go.Proofs.Ytilhhmkdcoajnaa.Am
open Go
noncomputable section
theorem GC{α:Type}{P:Program}{w:World}:∀ {s:Sem α}{a:α},ES P s=some a→s.run P w=.ok a w:=by
 intro s
 induction s with
 | pure b=>intro a h;simp[ES]at h;subst h;rfl
 | program k ih=>intro a h;simp only[ES]at h;simp only[Sem.run];exact ih P h
 | mark m k ih=>intro a h;simp only[ES]at h;simp only[Sem.run];exact ih h
 | load=>intro a h;simp[ES]at h
 | store=>intro a h;simp[ES]at h
 | new=>intro a h;simp[ES]at h
 | shape=>intro a h;simp[ES]at h
 | freeze=>intro a h;simp[ES]at h
 | frozen=>intro a h;simp[ES]at h
 | getObj=>intro a h;simp[ES]at h
 | setObj=>intro a h;simp[ES]at h
 | choose=>intro a h;simp[ES]at h
 | sys=>intro a h;simp[ES]at h
 | halt=>intro a h;simp[ES]at h
section types
variable{P:Program}{w:World}{t:TypeId}
theorem AN{d:TypeDesc}(h:P.underlying t=some d):(underlying t).run P w=.ok d w:=by simp[underlying,h]
theorem Kt{g:Bool}(h:Fp P t=some g):(isAgg t).run P w=.ok g w:=by
 unfold Fp at h
 split at h
 ·injection h with h;subst h;simp[isAgg,underlying, *]
 ·injection h with h;subst h;simp[isAgg,underlying, *]
 ·rename_i d _ _ hd
  injection h with h;subst h
  simp only[isAgg,Sem.run_bind,AN hd,Result.andThen_ok]
  cases d<;>simp_all
 ·cases h
theorem BM{n:Nat}(h:BC P t=some n):(sizeOf t).run P w=.ok n w:=by
 unfold BC at h
 split at h
 ·injection h with h;subst h;simp[sizeOf,typeInfo, *]
 ·cases h
theorem V9{n:Nat}(h:CQ P t=some n):∃i,(typeInfo t).run P w=.ok i w∧i.bytes=n:=by
 unfold CQ at h
 split at h
 ·injection h with h;rename_i i hi;exact⟨i,by simp[typeInfo,hi],h⟩
 ·cases h
theorem Iz(ρ:Bp){z:AV}(h:CY P t=some z):∃v,(zeroValue t).run P w=.ok v w∧Aa ρ z v:=by
  unfold CY at h
  split at h
  · split at h
    · rename_i i hi _ v hv
      exact⟨v,by simp[zeroValue,typeInfo,hi,hv],CE ρ h⟩
    · cases h
  · cases h
end types
theorem Kw{k:IntKind}{n:Int}(h:CD k n=true):k.wrap n=n:=by
 have hb:k.min≤n∧n≤k.max:=by
  unfold CD at h
  cases n with
  | ofNat m=>cases k<;>simp[qT]at h<;>simp[IntKind.min,IntKind.max,IntKind.signed,IntKind.bits]<;>omega
  | negSucc m=>cases k<;>simp[qT]at h<;>simp[IntKind.min,IntKind.max,IntKind.signed,IntKind.bits]<;>omega
 cases k<;>simp[IntKind.min,IntKind.max,IntKind.signed,IntKind.bits]at hb<;>simp only[IntKind.wrap,IntKind.signed,IntKind.bits]<;>simp<;>omega
theorem Ei(k:IntKind)(n:Int):Dt k n=k.wrap n:=by
 unfold Dt
 cases h:CD k n with
 | true=>simp[Kw h]
 | false=>rfl
theorem EM(a b:Int):QA a b=decide (a<b):=by
 cases a with
 | ofNat a=>cases b with
  | ofNat b=>rw[Bool.eq_iff_iff];simp only[QA,qj,decide_eq_true_iff,rv];omega
  | negSucc b=>simp only[QA];rw[eq_comm,decide_eq_false_iff_not];simp only[rv];omega
 | negSucc a=>cases b with
  | ofNat b=>simp only[QA];rw[eq_comm,decide_eq_true_iff];simp only[rv];omega
  | negSucc b=>rw[Bool.eq_iff_iff];simp only[QA,qj,decide_eq_true_iff];omega
theorem Fs(a b:Int):Ul a b=(a == b):=by
 rw[Bool.eq_iff_iff,beq_iff_eq]
 cases a with
 | ofNat a=>cases b with
  | ofNat b=>simp only[Ul,Nat.beq_eq,rv];omega
  | negSucc b=>simp[Ul]
 | negSucc a=>cases b with
  | ofNat b=>simp[Ul]
  | negSucc b=>simp only[Ul,Nat.beq_eq];omega
theorem Fl{k k':IntKind}(h:BY k k'=true):k=k':=by cases k<;>cases k'<;>first | rfl | cases h
theorem bO{n:Int}{m:Nat}(h:QH n=some m):n=(m:Int):=by cases n<;>simp[QH]at h;subst h;rfl
theorem az{P:Program}{ρ:Bp}{op:BinOp}{k:IntKind}{a b:Int}{v:AV}(h:au P op k a b=some v)(t:TypeId)(w:World):
  ∃v',(Go.binOp op t (.int k a) (.int k b)).run P w=.ok v' w∧Aa ρ v v':=by
 unfold au at h
 split at h
 case h_1=>injection h with h;subst h;exact⟨.int k (k.wrap (a+b)),by simp[Go.binOp,Op.intArith],by rw[Ei];exact .int _ _⟩
 case h_2=>injection h with h;subst h;exact⟨.int k (k.wrap (a - b)),by simp[Go.binOp,Op.intArith],by rw[Ei];exact .int _ _⟩
 case h_3=>injection h with h;subst h;exact⟨.int k (k.wrap (a * b)),by simp[Go.binOp,Op.intArith],by rw[Ei];exact .int _ _⟩
 case h_4=>injection h with h;subst h;exact⟨.bool (a == b),by simp[Go.binOp,Op.intCmp],by rw[Fs];exact .bool _⟩
 case h_5=>injection h with h;subst h;exact⟨.bool (a != b),by simp[Go.binOp,Op.intCmp],by rw[Fs];exact .bool _⟩
 case h_6=>injection h with h;subst h;exact⟨.bool (a<b),by simp[Go.binOp,Op.intCmp],by rw[EM];exact .bool _⟩
 case h_7=>injection h with h;subst h;exact⟨.bool (a≤b),by simp[Go.binOp,Op.intCmp],by rw[EM,show(!decide (b<a))=decide (a≤b)from by rw[Bool.eq_iff_iff];simp];exact .bool _⟩
 case h_8=>injection h with h;subst h;exact⟨.bool (a > b),by simp[Go.binOp,Op.intCmp],by rw[EM];exact .bool _⟩
 case h_9=>injection h with h;subst h;exact⟨.bool (a≥b),by simp[Go.binOp,Op.intCmp],by rw[EM,show(!decide (a<b))=decide (a≥b)from by rw[Bool.eq_iff_iff];simp];exact .bool _⟩
 case h_10 =>
  simp only[qJ]at h
  obtain⟨u,hu,h⟩:=h
  exact⟨u,by have:=GC (w:=w) hu;simpa[Go.binOp]using this,CE ρ h⟩
 case h_11 =>
  simp only[qJ]at h
  obtain⟨u,hu,h⟩:=h
  exact⟨u,by have:=GC (w:=w) hu;simpa[Go.binOp]using this,CE ρ h⟩
 case h_12=>cases h
 case h_13=>cases h
 case h_14 =>
  simp only[qJ]at h
  obtain⟨u,hu,h⟩:=h
  refine⟨u,?_,CE ρ h⟩
  have:=GC (w:=w) hu
  rename_i n1 n2 n3 n4 n5 n6 n7 n8 n9 n10 n11 n12 n13
  cases op<;>first | (exfalso;simp at *;done) | simpa[Go.binOp]using this
abbrev Fu(l:List UInt8):List Nat:=l.map (fun(b:UInt8)=>b.toNat)
theorem toNat_inj{a b:UInt8}(h:a.toNat=b.toNat):a=b:=UInt8.toNat_inj.1 h
theorem IA:∀ (x y:List UInt8),Gg (Fu x) (Fu y)=(x == y)
 | [],[]=>rfl
 | [],_::_=>rfl
 | _::_,[]=>rfl
 | a::x,b::y=>by
  simp only[Fu,rI,Gg]
  by_cases e:a=b
  ·subst e
   have:Nat.beq a.toNat a.toNat=true:=by simp[Nat.beq_eq]
   rw[this]
   have ih:=IA x y
   simp only[Fu]at ih
   simp[ih]
  ·have:Nat.beq a.toNat b.toNat=false:=Aj.beq_no (fun h=>e (toNat_inj h))
   rw[this]
   simp[e]
theorem Mh:∀ (x y:List UInt8),Mg (Fu x) (Fu y)=Op.bytesLess x y
 | [],[]=>rfl
 | [],_::_=>rfl
 | _::_,[]=>rfl
 | a::x,b::y=>by
  simp only[Fu,rI,Mg,Op.bytesLess]
  have ih:=Mh x y
  simp only[Fu]at ih
  have h1:Nat.blt a.toNat b.toNat=decide (a<b):=by rw[Bool.eq_iff_iff];simp[qj,UInt8.lt_iff_toNat_lt]
  have h2:Nat.beq a.toNat b.toNat=(a == b):=by
   rw[Bool.eq_iff_iff,beq_iff_eq,Nat.beq_eq]
   exact⟨fun h=>toNat_inj h,fun h=>by rw[h]⟩
  rw[h1,h2,ih]
  cases decide (a<b)<;>cases (a == b)<;>rfl
theorem GD(s:ByteArray):(Fu s.data.toList).length=s.size:=by simp[Fu]
theorem cL{P:Program}{ρ:Bp}{op:BinOp}{x y:ByteArray}{v:AV}(h:U8 op (Fu x.data.toList) (Fu y.data.toList)=some v)(w:World):
  ∃v',(Op.stringOp op x y).run P w=.ok v' w∧Aa ρ v v':=by
 unfold U8 at h
 rw[IA,Mh,GD,GD]at h
 unfold Op.stringOp
 rw[ByteArray.toList_eq,ByteArray.toList_eq]
 split at h
 case h_1 =>
  obtain⟨hb,h⟩:=AJ h
  injection h with h;subst h
  have hb':x.size+y.size≤1152921504606846976:=by simpa[qT]using hb
  refine⟨.string (x++y),?_,.str (by simp[Fu])⟩
  have:¬ ((x.size+y.size:Nat):Int) > IntKind.i64.max:=by simp[IntKind.max,IntKind.signed,IntKind.bits];omega
  simp only[this,if_false]
  rfl
 case h_2=>injection h with h;subst h;exact⟨_,rfl,.bool _⟩
 case h_3=>injection h with h;subst h;exact⟨_,rfl,.bool _⟩
 case h_4=>injection h with h;subst h;exact⟨_,rfl,.bool _⟩
 case h_5=>injection h with h;subst h;exact⟨_,rfl,.bool _⟩
 case h_6=>injection h with h;subst h;exact⟨_,rfl,.bool _⟩
 case h_7=>injection h with h;subst h;exact⟨_,rfl,.bool _⟩
 case h_8=>cases h
section
variable{P:Program}{ρ:Bp}{w:World}
theorem KH{t:TypeId}(h:G5 P t=true):∃e,P.underlying t=some (.pointer e):=by
 unfold G5 at h;split at h
 ·rename_i e he;exact⟨e,he⟩
 ·cases h
theorem Hl{t:TypeId}(h:F7 P t=true):∃e,P.underlying t=some (.slice e):=by
 unfold F7 at h;split at h
 ·rename_i e he;exact⟨e,he⟩
 ·cases h
theorem KG{t:TypeId}(h:Ol P t=true):∃k e,P.underlying t=some (.map k e):=by
 unfold Ol at h;split at h
 ·rename_i k e he;exact⟨k,e,he⟩
 ·cases h
theorem GR{t:TypeId}(h:Ij P t=true):∃a b c,P.underlying t=some (.func a b c):=by
 unfold Ij at h;split at h
 ·rename_i a b c he;exact⟨a,b,c,he⟩
 ·cases h
theorem Ok{t:TypeId}(h:Oj P t=true):P.underlying t=some .bool:=by
 unfold Oj at h;split at h
 ·rename_i he;exact he
 ·cases h
set_option maxHeartbeats 1000000 in
theorem mS{t:TypeId}{x y:AV}{x' y':Value}{b:Bool}(h:cX P t x y=some b)(hx:Aa ρ x x')(hy:Aa ρ y y')(d:Nat):
  (Op.equalIn (d+1) t x' y').run P w=.ok b w:=by
 unfold cX at h
 split at h
 all_goals first | (cases h;done) | skip
 ·obtain⟨ht,h⟩:=AJ h
  injection h with h;subst h
  cases hx;cases hy
  simp[Op.equalIn,AN (Ok ht)]
 ·obtain⟨ht,h⟩:=AJ h
  injection h with h;subst h
  obtain⟨e,ht⟩:=KH ht
  cases hx;cases hy<;>simp[Op.equalIn,AN ht]
 ·obtain⟨ht,h⟩:=AJ h
  injection h with h;subst h
  obtain⟨e,ht⟩:=KH ht
  cases hy;cases hx<;>simp[Op.equalIn,AN ht]
 ·obtain⟨ht,h⟩:=AJ h
  injection h with h;subst h
  obtain⟨e,ht⟩:=Hl ht
  cases hx;cases hy<;>simp[Op.equalIn,AN ht]
 ·obtain⟨ht,h⟩:=AJ h
  injection h with h;subst h
  obtain⟨e,ht⟩:=Hl ht
  cases hy;cases hx<;>simp[Op.equalIn,AN ht]
 ·obtain⟨ht,h⟩:=AJ h
  injection h with h;subst h
  obtain⟨k,e,ht⟩:=KG ht
  cases hx;cases hy<;>simp[Op.equalIn,AN ht]
 ·obtain⟨ht,h⟩:=AJ h
  injection h with h;subst h
  obtain⟨k,e,ht⟩:=KG ht
  cases hy;cases hx<;>simp[Op.equalIn,AN ht]
 ·obtain⟨ht,h⟩:=AJ h
  injection h with h;subst h
  obtain⟨a,b,c,ht⟩:=GR ht
  cases hy;cases hx;simp[Op.equalIn,AN ht]
 ·obtain⟨ht,h⟩:=AJ h
  injection h with h;subst h
  obtain⟨a,b,c,ht⟩:=GR ht
  cases hy;cases hx;simp[Op.equalIn,AN ht]
 ·obtain⟨ht,h⟩:=AJ h
  injection h with h;subst h
  obtain⟨a,b,c,ht⟩:=GR ht
  cases hy;cases hx;simp[Op.equalIn,AN ht]
theorem ah{t:TypeId}{x y:AV}{x' y':Value}{b:Bool}(h:cX P t x y=some b)(hx:Aa ρ x x')(hy:Aa ρ y y'):
  (Op.equal t x' y').run P w=.ok b w:=mS h hx hy 9999
def be:Value→Bool
 | .nilIface | .agg _=>false
 | _=>true
theorem FL{x':Value}(h:be x'=true)(op:BinOp)(t:TypeId)(ox oy:Operand)(y':Value):
  (eqGuard op t ox oy x' y').run P w=.ok () w:=by
 cases x'<;>first | (cases h;done) | (cases op<;>rfl)
theorem NQ{t:TypeId}{x y:AV}{x':Value}{b:Bool}(h:cX P t x y=some b)(hx:Aa ρ x x'):be x'=true:=by
 unfold cX at h
 split at h<;>first | (cases h;done) | (cases hx<;>rfl)
theorem UO      {op : BinOp} {t : TypeId} {x y v : AV} {x' y' : Value} (h : AL   P op t x y = some v) (hx : Aa   ρ x x') (hy : Aa   ρ y y') (ox oy : Operand) :
    ∃v',(do eqGuard op t ox oy x' y';Go.binOp op t x' y').run P w=.ok v' w∧Aa ρ v v':=by
  unfold AL at h
  split at h
  · cases hx;cases hy
    rename_i k a k' b
    rw[Sem.run_bind,FL rfl]
    simp only[Result.andThen_ok]
    split at h
    · simp only[qJ]at h
      obtain⟨u,hu,h⟩:=h
      exact⟨u,by have:=GC (w:=w) hu;simpa[Go.binOp]using this,CE ρ h⟩
    · simp only[qJ]at h
      obtain⟨u,hu,h⟩:=h
      exact⟨u,by have:=GC (w:=w) hu;simpa[Go.binOp]using this,CE ρ h⟩
    · obtain⟨hk,h2⟩:=AJ h
      have hkk:=Fl hk
      subst hkk
      exact az h2 t w
  · cases hx;cases hy
    rename_i a b s1 h1 s2 h2
    subst h1;subst h2
    rw[Sem.run_bind,FL rfl]
    simp only[Result.andThen_ok]
    obtain⟨v',h1,h2⟩:=cL (P:=P) (ρ:=ρ) h w
    refine⟨v',?_,h2⟩
    rw[← h1]
    cases op<;>first | rfl | (simp[U8]at h;done)
  · split at h
    · simp only[qJ]at h
      obtain⟨b,hb,h⟩:=h
      injection h with h;subst h
      rw[Sem.run_bind,FL (NQ hb hx)]
      simp only[Result.andThen_ok]
      refine⟨.bool b,?_,.bool b⟩
      have he:=ah (w:=w) hb hx hy
      have:Go.binOp .eql t x' y'=(do pure (.bool (← Op.equal t x' y')):Sem Value):=by
        unfold cX at hb
        split at hb<;>first | (cases hb;done) | (cases hx<;>cases hy<;>rfl)
      rw[this,Sem.run_bind,he]
      rfl
    · simp only[qJ]at h
      obtain⟨b,hb,h⟩:=h
      injection h with h;subst h
      rw[Sem.run_bind,FL (NQ hb hx)]
      simp only[Result.andThen_ok]
      refine⟨.bool (!b),?_,.bool _⟩
      have he:=ah (w:=w) hb hx hy
      have:Go.binOp .neq t x' y'=(do pure (.bool (!(← Op.equal t x' y'))):Sem Value):=by
        unfold cX at hb
        split at hb<;>first | (cases hb;done) | (cases hx<;>cases hy<;>rfl)
      rw[this,Sem.run_bind,he]
      rfl
    · cases h
theorem mj{op:UnOp}{x v:AV}{x':Value}(h:GZ P op x=some v)(hx:Aa ρ x x'):
  ∃v',(Op.unary op x').run P w=.ok v' w∧Aa ρ v v':=by
 unfold GZ at h
 split at h
 ·cases hx
  rename_i k n
  split at h
  ·injection h with h;subst h
   exact⟨.int k (k.wrap (0 - n)),rfl,by rw[Ei];exact .int _ _⟩
  ·simp only[qJ]at h
   obtain⟨u,hu,h⟩:=h
   exact⟨u,GC hu,CE ρ h⟩
  ·cases h
 ·cases hx
  split at h
  ·injection h with h;subst h
   exact⟨_,rfl,.bool _⟩
  ·cases h
 ·cases h
theorem Oz{x v:AV}{x':Value}(h:AE x=some v)(hx:Aa ρ x x')(ev:Operand→Value)(o:Oper)(y:Operand)(ho:o.op=.nilCheck y)(he:ev y=x'):
  ∃v',(execOp ev o).run P w=.ok (.value v') w∧Aa ρ v v':=by
 unfold AE at h
 split at h<;>first | (cases h;done) | skip
 injection h with h;subst h
 refine⟨x',?_,hx⟩
 cases hx<;>first | (simp only[execOp,ho,he];done) | (simp only[execOp,ho,he];rfl) | (exfalso;simp_all;done)
theorem Pr{x v:AV}{i:Nat}{x':Value}(h:Rp x i=some v)(hx:Aa ρ x x'):
  ∃v',(Instr.extract x' i).run P w=.ok v' w∧Aa ρ v v':=by
 unfold Rp at h
 split at h<;>first | (cases h;done) | skip
 cases hx with
 | tuple hs =>
  rename_i cs'
  obtain⟨v',h1,h2⟩:=hs.get h
  refine⟨v',?_,h2⟩
  have:cs'[i]? = some v':=by rw[← Array.getElem?_toList];exact h1
  simp[Instr.extract,this]
theorem QO{t:TypeId}{cs:List AV}{cs':Array Value}{off:Nat}{v:AV}(h:U0 P t cs off=some v)(hc:AY ρ cs cs'.toList):
  ∃v',(part t cs' off).run P w=.ok v' w∧Aa ρ v v':=by
 unfold U0 at h
 simp only[qJ]at h
 obtain⟨g,hg,h⟩:=h
 cases g with
 | true =>
  simp only[qJ]at h
  obtain⟨n,hn,h⟩:=h
  injection h with h;subst h
  refine⟨.agg (cs'.extract off (off+n)),by simp[part,Kt hg,BM hn],.agg ?_⟩
  have:(cs'.extract off (off+n)).toList=(cs'.toList.drop off).take n:=by
   rw[Array.toList_extract,List.extract_eq_take_drop]
   congr 1
   omega
  rw[this]
  exact(hc.drop off).take n
 | false =>
  obtain⟨v',h1,h2⟩:=hc.get h
  refine⟨v',?_,h2⟩
  have:cs'[off]? = some v':=by rw[← Array.getElem?_toList];exact h1
  simp[part,Kt hg,this]
theorem L8{x:AV}{x':Value}{k:Nat}(h:Eb x=some k)(hx:Aa ρ x x'):∃kd,x'=.int kd (k:Int):=by
 unfold Eb at h
 split at h<;>first | (cases h;done) | skip
 cases hx
 rename_i kd n
 exact⟨kd,by rw[bO h]⟩
theorem VU{t:TypeId}{x v:AV}{x':Value}{f:Nat}(h:TS P t x f=some v)(hx:Aa ρ x x'):
  ∃v',(Instr.field t x' f).run P w=.ok v' w∧Aa ρ v v':=by
 unfold TS at h
 split at h<;>first | (cases h;done) | skip
 split at h<;>first | (cases h;done) | skip
 rename_i fs hfs
 simp only[qJ]at h
 obtain⟨fd,hfd,h⟩:=h
 cases hx with
 | agg hs =>
  obtain⟨v',h1,h2⟩:=QO (w:=w) h hs
  exact⟨v',by simp[Instr.field,AN hfs,hfd,asAgg,h1],h2⟩
theorem Vg        {t : TypeId} {x ix v : AV} {x' ix' : Value} (h : Hx     P t x ix = some v) (hx : Aa   ρ x x') (hi : Aa   ρ ix ix') :
    ∃v',(Instr.index t x' ix').run P w=.ok v' w∧Aa ρ v v':=by
  unfold Hx at h
  simp only[qJ]at h
  obtain⟨k,hk,h⟩:=h
  obtain⟨kd,rfl⟩:=L8 hk hi
  split at h<;>first | (cases h;done) | skip
  · split at h<;>first | (cases h;done) | skip
    rename_i len e he
    simp only[qJ]at h
    obtain⟨n,hn,h⟩:=h
    obtain⟨hlt,h⟩:=AJ h
    have hlt':k<len:=by simpa[qj]using hlt
    cases hx with
    | agg hs =>
      obtain⟨v',h1,h2⟩:=QO (w:=w) h hs
      refine⟨v',?_,h2⟩
      have:(0:Int)≤(k:Int)∧(k:Int)<(len:Int):=by omega
      simp only[Instr.index,asIntOf,Sem.run_bind,Sem.run_pure,Result.andThen_ok,AN he,this,and_self,if_true,BM hn]
      simpa using h1
  · split at h <;> first | (cases h; done) | skip
    rename_i l _ he
    simp only[qJ]at h
    obtain⟨b,hb,h⟩:=h
    injection h with h;subst h
    cases hx with
    | str hs =>
      rename_i s
      subst hs
      rw[qs]at hb
      simp only[Option.map_eq_some_iff]at hb
      obtain⟨u,hu,rfl⟩:=hb
      refine⟨.int .u8 u.toNat,?_,.int _ _⟩
      have h0:(0:Int)≤(k:Int):=by omega
      have:s[k]? = some u:=by
        rw[← hu]
        rcases qN k s.size with hlt | hge
        · rw [getElem?_pos s k hlt, qP                       (by simpa using hlt)]
          rfl
        · rw[getElem?_neg s k (by omega),qZ (by simpa using hge)]
      simp[Instr.index,asIntOf,AN he,this]
end
abbrev iv(n:Int):AV:=.int .i64 n
def i64(n:Int):Prop:=-9223372036854775808≤n∧n<9223372036854775808
theorem I9{k:IntKind}{n:Int}(h:CD k n=true):Dt k n=n:=by unfold Dt;rw[h];rfl
theorem P0{n:Int}(h:i64 n):CD .i64 n=true:=by
 obtain⟨h1,h2⟩:=h
 cases n with
 | ofNat m=>simp only[CD,qT];simp at h2;omega
 | negSucc m=>simp only[CD,qT];omega
theorem EA{n:Int}(h:i64 n):Dt .i64 n=n:=I9 (P0 h)
section
variable(P:Program)(t:TypeId)(a b:Int)
theorem Rq:AL P .lss t (iv a) (iv b)=some (.bool (decide (a<b))):=by
 show some (AV.bool (QA a b))=_
 rw[EM]
theorem Rs:AL P .gtr t (iv a) (iv b)=some (.bool (decide (b<a))):=by
 show some (AV.bool (QA b a))=_
 rw[EM]
theorem Rt:AL P .leq t (iv a) (iv b)=some (.bool (decide (a≤b))):=by
 show some (AV.bool (!QA b a))=_
 rw[EM,← decide_not]
 congr 3
 exact propext Int.not_lt
theorem Ru:AL P .geq t (iv a) (iv b)=some (.bool (decide (b≤a))):=by
 show some (AV.bool (!QA a b))=_
 rw[EM,← decide_not]
 congr 3
 exact propext Int.not_lt
theorem Rv:AL P .eql t (iv a) (iv b)=some (.bool (decide (a=b))):=by
 show some (AV.bool (Ul a b))=_
 rw[Fs];rfl
theorem Rw:AL P .neq t (iv a) (iv b)=some (.bool (decide (a≠b))):=by
 show some (AV.bool (!Ul a b))=_
 rw[Fs,decide_not];rfl
theorem Ai(h:i64 (a+b)):AL P .add t (iv a) (iv b)=some (iv (a+b)):=by
 show some (AV.int .i64 (Dt .i64 (a+b)))=_
 rw[EA h]
theorem DZ(h:i64 (a - b)):AL P .sub t (iv a) (iv b)=some (iv (a - b)):=by
 show some (AV.int .i64 (Dt .i64 (a - b)))=_
 rw[EA h]
theorem OB(h:i64 (a * b)):AL P .mul t (iv a) (iv b)=some (iv (a * b)):=by
 show some (AV.int .i64 (Dt .i64 (a * b)))=_
 rw[EA h]
theorem D8(h:i64 (-a)):GZ P .neg (iv a)=some (iv (-a)):=by
 show some (AV.int .i64 (Dt .i64 (0 - a)))=_
 rw[show(0:Int) - a=-a from by omega,EA h]
theorem PG:GZ P .neg (iv (-9223372036854775808))=some (iv (-9223372036854775808)):=rfl
theorem Rx(c:Bool):GZ P .not (.bool c)=some (.bool (!c)):=rfl
end
def BG(b:Nat)(s s':AF):Prop:=s.next≤s'.next∧∀i,i<b→s'.heap.get i=s.heap.get i
theorem BG.refl(b:Nat)(s:AF):BG b s s:=⟨qI _,fun _ _=>rfl⟩
theorem BG.trans{b:Nat}{s s1 s2:AF}(h:BG b s s1)(k:BG b s1 s2):BG b s s2:=⟨qV h.1 k.1,fun i hi=>(k.2 i hi).trans (h.2 i hi)⟩
theorem BG.mono{b b':Nat}{s s1:AF}(h:BG b s s1)(k:b'≤b):BG b' s s1:=⟨h.1,fun i hi=>h.2 i (qi hi k)⟩
theorem AQ(s:AF)(o:C0)(j:Nat):(newObj s o).heap.get j=if j=s.next then some o else s.heap.get j:=Aj.get_set _ _ _ _
theorem BL(s:AF)(i:Nat)(o:C0)(j:Nat):(setObj s i o).heap.get j=if j=i then some o else s.heap.get j:=Aj.get_set _ _ _ _
theorem FP(s:AF)(i j:Nat):(Cl s i).heap.get j=if j=i then none else s.heap.get j:=Aj.get_del _ _ _
theorem BG.new(s:AF)(o:C0):BG s.next s (newObj s o):=⟨rR _,fun i hi=>by rw[AQ,if_neg (by omega)]⟩
theorem CO{s s':AF}{i o:Nat}(h:s'.heap.get i=s.heap.get i):load1 s' i o=load1 s i o:=by unfold load1 rowAt;rw[h]
theorem B1{s:AF}{i o:Nat}{r:EY}{u:AV}(h:s.heap.get i=some (.row r))(ho:o<r.n)(hc:r.c.get o=some u):load1 s i o=some u:=by
 have hb:Nat.blt o r.n=true:=by simpa[qj]using ho
 simp[load1,rowAt,h,AI,hb,hc]
def Ay(b:Nat)(s:AF)(a:Option (Nat×Nat))(cs:List AV):Prop:=∀k u,cs[k]? = some u→∃i o,a=some (i,o)∧i<b∧load1 s i (o+k)=some u
theorem Ay.old{b b':Nat}{s s':AF}{a:Option (Nat×Nat)}{cs:List AV}(h:Ay b s a cs)(k:BG b' s s')(hb:b≤b'):Ay b s' a cs:=fun j u hj=>by
 obtain⟨i,o,h1,h2,h3⟩:=h j u hj
 exact⟨i,o,h1,h2,by rw[CO (k.2 i (qi h2 hb))];exact h3⟩
theorem Ay.mono{b b':Nat}{s:AF}{a:Option (Nat×Nat)}{cs:List AV}(h:Ay b s a cs)(hb:b≤b'):Ay b' s a cs:=fun j u hj=>by
 obtain⟨i,o,h1,h2,h3⟩:=h j u hj
 exact⟨i,o,h1,qi h2 hb,h3⟩
theorem Ay.nil{b:Nat}{s:AF}{a:Option (Nat×Nat)}:Ay b s a []:=fun k u h=>by simp at h
def AX(b:Nat)(s:AF)(v:AV)(cs:List AV):Prop:=∃a cap,v=.slice a cs.length cap∧Ay b s a cs
theorem AX.old{b b':Nat}{s s':AF}{v:AV}{cs:List AV}(h:AX b s v cs)(k:BG b' s s')(hb:b≤b'):AX b s' v cs:=by
 obtain⟨a,cap,h1,h2⟩:=h
 exact⟨a,cap,h1,h2.old k hb⟩
theorem AX.mono{b b':Nat}{s:AF}{v:AV}{cs:List AV}(h:AX b s v cs)(hb:b≤b'):AX b' s v cs:=by
 obtain⟨a,cap,h1,h2⟩:=h
 exact⟨a,cap,h1,h2.mono hb⟩
theorem Cc(k:Nat):QH (k:Int)=some k:=rfl
theorem Al{P:Program}{t e:TypeId}{n:Nat}(ht:P.underlying t=some (.slice e))(hs:BC P e=some n){i o len k:Nat}{cap:Option Nat}(hk:k<len):
  AC P t (.slice (some (i,o)) len cap) (iv (k:Int))=some (.ptr (some (i,o+k * n))):=by
 have hb:Nat.blt k len=true:=by simpa[qj]using hk
 simp[AC,Eb,Cc,ht,hs,AI,hb]
theorem A4{P:Program}{t:TypeId}(h:Fp P t=some false){s:AF}{i o:Nat}{u:AV}(hl:load1 s i o=some u):AD P s t (.ptr (some (i,o)))=some u:=by
 simp[AD,h,hl]
theorem AW{P:Program}{t e:TypeId}(ht:P.underlying t=some (.slice e)){s:AF}{a:Option (Nat×Nat)}{n:Nat}{cap:Option Nat}:Aq P s t (.slice a n cap)=some (iv (n:Int)):=by
 simp[Aq,ht]
theorem BS{a b:Nat}(h:a≤b):Nat.ble a b=true:=by simpa[qT]using h
theorem kX{a b:Nat}(h:a<b):Nat.blt a b=true:=by simpa[qj]using h
theorem Di{a b:Nat}(h:a=b):Nat.beq a b=true:=by subst h;simp
theorem D0{a b:Nat}(h:a≠b):Nat.beq a b=false:=by
 cases hb:Nat.beq a b with
 | true=>exact absurd (qu hb) h
 | false=>rfl
theorem GL{a b:Nat}(h:b<a):Nat.ble a b=false:=by
 cases hb:Nat.ble a b with
 | true=>rw[qT]at hb;omega
 | false=>rfl
theorem He{t:Aj AV}:∀ (cs:List AV)(k:Nat),(∀j u,cs[j]? = some u→t.get (k+j)=some u)→t.take k cs.length=some cs:=by
 intro cs
 induction cs with
 | nil=>intro k _;rfl
 | cons c cs ih =>
  intro k h
  have h0:=h 0 c rfl
  simp only[qh,Aj.take]
  rw[show k+0=k from rfl]at h0
  rw[h0]
  simp only
  rw[ih (k+1) (fun j u hj=>by rw[show k+1+j=k+(j+1)from by omega];exact h (j+1) u (by simpa using hj))]
def IJ(r:EY)(cs:List AV):Prop:=r.n=cs.length∧∀k u,cs[k]? = some u→r.c.get k=some u
theorem IJ.take{r:EY}{cs:List AV}(h:IJ r cs)(o:Nat)(l:List AV)(hl:∀j u,l[j]? = some u→cs[o+j]? = some u):r.c.take o l.length=some l:=
 He l o fun j u hj=>h.2 _ u (hl j u hj)
theorem Dq{s:AF}{i:Nat}{r:EY}{cs:List AV}(hg:s.heap.get i=some (.row r))(h:IJ r cs)(o:Nat)(l:List AV)(hle:o+l.length≤cs.length)(hl:∀j u,l[j]? = some u→cs[o+j]? = some u):
  loadN s i o l.length=some l:=by
 simp[loadN,rowAt,hg,AI,h.1,BS hle,h.take o l hl]
theorem Br(e:TypeId)(sz:Nat)(cs:List AV):∃r,AO e sz cs=.row r∧IJ r cs∧r.sz=sz∧r.spare=false∧r.mode=.own∧r.par=none:=by
 refine⟨_,rfl,⟨rfl,?_⟩,rfl,rfl,rfl,rfl⟩
 intro k u hk
 have hlt:k<cs.length:=by
  rcases qN k cs.length with h | h
  ·exact h
  ·rw[qZ h]at hk;cases hk
 show(Aj.fill .leaf 0 cs).get k=some u
 rw[Aj.get_fill,if_pos ⟨qO _,by omega⟩]
 simpa using hk
structure Ka(lo hi:Nat)(s:AF)(v:AV)(n sz:Nat)(cs:List AV)(i:Nat)(p:Option Nat):Prop where
 len:cs.length=n * sz
 ex:(v=.slice none 0 (some 0)∧n=0)∨(v=.slice (some (i,0)) n none∧lo≤i∧i<hi∧(∀q,p=some q→lo≤q∧q<hi∧q≠i) ∧
  ∃r,s.heap.get i=some (.row r)∧IJ r cs∧r.spare=true∧r.mode=.own∧r.sz=sz∧r.par=p)
theorem Ka.frame{lo hi:Nat}{s s':AF}{v:AV}{n sz:Nat}{cs:List AV}{i:Nat}{p:Option Nat}(h:Ka lo hi s v n sz cs i p)(k:lo≤i→i<hi→s'.heap.get i=s.heap.get i):Ka lo hi s' v n sz cs i p:=by
 refine⟨h.len,?_⟩
 rcases h.ex with h1 | ⟨h1,h2,h3,h4,r,h5,h6⟩
 ·exact .inl h1
 ·exact .inr ⟨h1,h2,h3,h4,r,by rw[k h2 h3];exact h5,h6⟩
theorem Ka.mono{lo hi hi':Nat}{s:AF}{v:AV}{n sz:Nat}{cs:List AV}{i:Nat}{p:Option Nat}(h:Ka lo hi s v n sz cs i p)(k:hi≤hi'):Ka lo hi' s v n sz cs i p:=by
 refine⟨h.len,?_⟩
 rcases h.ex with h1 | ⟨h1,h2,h3,h4,rest⟩
 ·exact .inl h1
 ·exact .inr ⟨h1,h2,by omega,fun q hq=>⟨(h4 q hq).1,by have:=(h4 q hq).2.1;omega,(h4 q hq).2.2⟩,rest⟩
theorem Ka.cells{lo hi:Nat}{s:AF}{v:AV}{n sz:Nat}{cs:List AV}{i:Nat}{p:Option Nat}(h:Ka lo hi s v n sz cs i p):∃a cap,v=.slice a n cap∧Ay hi s a cs:=by
 rcases h.ex with⟨rfl,rfl⟩ | ⟨rfl,h2,h3,h4,r,h5,h6,_⟩
 ·refine⟨none,some 0,rfl,?_⟩
  have:cs=[]:=by have:=h.len;simp at this;exact this
  subst this
  exact Ay.nil
 ·refine⟨_,_,rfl,fun k u hk=>⟨i,0,rfl,h3,?_⟩⟩
  have hlt:k<cs.length:=by
   rcases qN k cs.length with h' | h'
   ·exact h'
   ·rw[qZ h']at hk;cases hk
  rw[qU]
  exact B1 h5 (by rw[h6.1];exact hlt) (h6.2 k u hk)
def mt(s s':AF)(i:Nat)(p:Option Nat):Prop:=s.next≤s'.next∧∀j,j<s.next→j≠i→p≠some j→s'.heap.get j=s.heap.get j
theorem Ka.appTo   {P : Program} {e : TypeId} {lo hi : Nat} {s : AF}  {v : AV} {n sz : Nat} {cs : List AV} {i : Nat} {p : Option Nat} (h : Ka   lo hi s v n sz cs i p) (hhi : hi ≤ s.next) (hlo : lo ≤ s.next) (hz : CC     P e sz = true) (hsz : 0 < sz) {m : Nat} {add : List AV} (ha : add.length = m * sz) (hm : 0 < m) :
    ∃a cap v' s',v=.slice a n cap∧appTo P s e sz a n cap (m,add)=some (v',s')∧∃i' p',Ka lo s'.next s' v' (n+m) sz (cs++add) i' p'∧mt s s' i p∧lo≤s'.next∧(i'=s.next)∧(p'=none∨p'=some i)∧s'.next=s.next+1 ∧
      (∀cell,cell<cs.length→load1 s' i cell=load1 s i cell∨n=0):=by
  have hlen:(cs++add).length=(n+m) * sz:=by rw[qM,h.len,ha,qt]
  rcases h.ex with⟨rfl,rfl⟩ | ⟨rfl,h2,h3,h4,r,h5,h6,h7,h8,h9,h10⟩
  · have hcs:cs=[]:=by have:=h.len;simp at this;exact this
    subst hcs
    refine⟨none,some 0,.slice (some (s.next,0)) m none,newObj s (Cp e sz (Aj.fill .leaf 0 add) add.length none),rfl,?_,s.next,none,⟨by simpa using hlen,.inr ⟨by simp,hlo,qn _,(fun q hq=>by cases hq),_,(by rw[AQ,if_pos rfl];rfl),⟨rfl,?_⟩,rfl,rfl,rfl,rfl⟩⟩,
      ⟨rR _,fun j hj _ _=>by rw[AQ,if_neg (by omega)]⟩,Nat.le_succ_of_le hlo,rfl,.inl rfl,rfl,fun _ _=>.inr rfl⟩
    · simp[Am.appTo,Bv,D0 (show m≠0 by omega),AI,hz]
    · intro k u hk
      show(Aj.fill .leaf 0 add).get k=some u
      have hk':add[k]? = some u:=by simpa using hk
      have hlt:k<add.length:=by
        rcases qN k add.length with h' | h'
        · exact h'
        · rw[qZ h']at hk';cases hk'
      rw[Aj.get_fill,if_pos ⟨qO _,by omega⟩]
      simpa using hk'
  · have hrow : rowAt s i = some r := by simp [rowAt, h5]
    have hrn:r.n=n * sz:=by rw[h6.1,h.len]
    have hload:loadN s i 0 (n * sz)=some cs:=by
      have:=Dq h5 h6 0 cs (by omega) (fun j u hj=>by simpa using hj)
      rw[h.len]at this
      exact this
    have hgt:¬ (0+(n+m) * sz≤r.n):=by
      rw[hrn,qt]
      have:0<m * sz:=Nat.mul_pos hm hsz
      omega
    let s2:=setObj (Av s i r) i (.row { r with mode:=.sealed,par:=none })
    let s':=newObj s2 (Cp e sz (r.c.fill (n * sz) add) (cs++add).length (some i))
    have hun:∀j,j≠i→p≠some j→(Av s i r).heap.get j=s.heap.get j:=by
      intro j hj hp
      unfold Av
      rw[h10]
      cases p with
      | none=>rfl
      | some q =>
        simp only
        rw[D0 (h4 q rfl).2.2,cond_false,FP,if_neg (fun e=>hp (by rw[e]))]
    have hnext:(Av s i r).next=s.next:=by
      unfold Av
      split
      · rfl
      · cases Nat.beq _ _<;>rfl
    have hs2n:s2.next=s.next:=hnext
    refine⟨_,_,.slice (some (s.next,0)) (n+m) none,s',rfl,?_,s.next,some i,⟨hlen,.inr ⟨rfl,hlo,by show s.next<s2.next+1;omega,?_,_,by rw[AQ,if_pos hs2n.symm];rfl,⟨rfl,?_⟩,rfl,rfl,rfl,rfl⟩⟩,⟨by show s.next≤s2.next+1;omega,?_⟩,by show lo≤s2.next+1;omega,rfl,.inr rfl,by show s2.next+1=_;omega,?_⟩
    · simp only[Am.appTo]
      rw[hrow,Option.bind_some]
      unfold Dz
      rw[h9,Di rfl]
      simp only[AI,cond_true]
      rw[show Nat.ble (0+(n+m) * sz) r.n=false from GL (by omega),cond_false,hload,Option.bind_some,h7,cond_true]
      unfold DQ
      rw[h8,hz,show Nat.beq (0+n * sz) r.n=true from Di (by omega)]
      simp only[Ec,Bool.and_self,AI,cond_true,Cm,Di rfl]
      show some (AV.slice (some (s.next,0)) (n+m) none,newObj s2 _)=_
      rfl
    · intro q hq
      injection hq with hq
      subst hq
      refine⟨h2,?_,?_⟩
      · show i<s2.next+1
        omega
      · omega
    · intro k u hk
      show(r.c.fill (n * sz) add).get k=some u
      rw[Aj.get_fill]
      by_cases hlt:k<cs.length
      · rw [if_neg (by rw [← h.len]; omega)]
        rw[qX hlt]at hk
        exact h6.2 k u hk
      · rw[qY (by omega)]at hk
        have hk2:k - cs.length<add.length:=by
          rcases qN (k - cs.length) add.length with h' | h'
          · exact h'
          · rw[qZ h']at hk;cases hk
        rw[if_pos ⟨by rw[← h.len];omega,by rw[← h.len];omega⟩,← h.len]
        exact hk
    · intro j hj hji hp
      show s'.heap.get j=_
      rw[AQ,if_neg (by omega),BL,if_neg hji]
      exact hun j hji hp
    · intro cell hc
      left
      have e1:s'.heap.get i=some (.row { r with mode:=.sealed,par:=none }):=by
        rw[AQ,if_neg (by omega),BL,if_pos rfl]
      simp only[load1,rowAt,e1,h5,Option.bind_some]
theorem ET{s:AF}{i o n size:Nat}{l:List AV}(h:loadN s i o (n * size)=some l):fA s i o n size=some l:=by
 unfold fA
 cases hn0:Nat.beq n 0 with
 | false=>exact h
 | true =>
  have:=qu hn0
  subst this
  rw[Nat.zero_mul]at h
  unfold loadN at h
  simp only[qJ]at h
  obtain⟨r,_,h⟩:=h
  cases hb:Nat.ble (o+0) r.n with
  | true=>rw[hb]at h;exact h
  | false=>rw[hb]at h;cases h
theorem CB{P:Program}{st xt e:TypeId}{size by_:Nat}(ht:P.underlying st=some (.slice e))(hs:BC P e=some size)(hb:CQ P e=some by_)(h0:0<size)(hx:BI P xt=true){s:AF}{a ax:Option (Nat×Nat)}{n m:Nat}{cap cx:Option Nat}{add:List AV}
  (hsrc:BZ P s e size (.slice ax m cx)=some (m,add)) (hc:Ak add=true) (h1:(n+m) * by_≤1099511627776) (h2:n+m≤1099511627776):
  Af P s [st,xt] [.slice a n cap,.slice ax m cx]=appTo P s e size a n cap (m,add):=by
 simp[Af,ht,hs,hb,AI,D0 (show size≠0 by omega),hx,hsrc,hc,BS h1,BS h2]
end
end Go.Proofs.Ytilhhmkdcoajnaa.Am
