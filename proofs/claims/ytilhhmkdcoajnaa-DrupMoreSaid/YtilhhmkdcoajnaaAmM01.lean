/- Binary tries over Nat keys, made for evaluation by the kernel: get, set, and their laws; conditions: none. -/
import GoSem.Dispatch
import Derived.CallsIn
import Derived.Laws.Sem
import Derived.Laws.Entries
import Derived.Laws.Slices
import Derived.Laws.Strings
import Derived.Lib.Hide
namespace Go.Proofs.Ytilhhmkdcoajnaa.Am
noncomputable section
abbrev qg := @Nat.le_refl
abbrev qh := @Option.bind_eq_some_iff
abbrev qi := @List.length_map
abbrev qj := @List.mem_of_getElem?
abbrev qk := @Nat.lt_or_ge
abbrev ql := @List.mem_cons_self
abbrev qm := @Nat.zero_le
abbrev qn := @List.length_append
abbrev qo := @List.mem_cons_of_mem
abbrev qp := @List.getElem?_eq_getElem
abbrev qq := @Nat.zero_add
abbrev qr := @List.length_set
abbrev qs := @Nat.le_trans
abbrev qt := @List.mem_append_left
abbrev qu := @Nat.ble_eq
abbrev qv := @List.getElem?_append_left
abbrev qw := @Nat.lt_of_lt_of_le
abbrev qx := @List.length_cons
abbrev qy := @List.getElem?_append_right
abbrev qz := @List.getElem?_set
abbrev rA := @List.getElem?_eq_none
abbrev rB := @List.getD_eq_getElem?_getD
abbrev rC := @Nat.mul_one
abbrev rD := @Int.neg_neg
abbrev rE := @Int.natAbs_neg
abbrev rF := @List.mem_of_mem_take
abbrev rG := @Int.lt_irrefl
abbrev rH := @List.mem_append_right
abbrev rI := @List.mem_cons
abbrev rJ := @Nat.blt_eq
abbrev rK := @List.length_take
abbrev rL := @List.nil_append
abbrev rM := @List.take_append_of_le_length
abbrev rN := @List.map_append
abbrev rO := @Nat.add_mul
abbrev rP := @Nat.lt_succ_self
abbrev rQ := @List.getElem?_drop
abbrev rR := @List.take_length
abbrev rS := @List.length_nil
abbrev rT := @List.foldl_cons
abbrev rU := @Nat.add_assoc
abbrev rV := @List.length_drop
abbrev rW := @Nat.eq_of_beq_eq_true
abbrev rX := @List.getElem?_map
abbrev rY := @List.cons_append
abbrev rZ := @List.append_assoc
abbrev re := @Int.le_refl
abbrev rf := @List.drop_zero
abbrev rg := @List.getElem?_take_of_lt
abbrev rh := @Nat.eq_zero_or_pos
abbrev rl := @List.append_nil
abbrev rm := @List.map_cons
abbrev rn := @List.take_zero
abbrev rq := @Nat.mul_le_mul_right
abbrev rt := @List.nodup_append
abbrev ru := @Nat.sub_self
abbrev rv := @List.drop_drop
abbrev rx := @Nat.lt_trichotomy
abbrev ry := @List.mem_iff_getElem
abbrev rz := @List.filter_cons_of_pos
abbrev sA := @List.map_set
abbrev sB := @Nat.le_succ
abbrev sC := @Nat.add_zero
abbrev sD := @List.map_take
abbrev sE := @List.mem_append
abbrev sF := @List.take_of_length_le
abbrev sG := @List.take_succ_eq_append_getElem
abbrev sH := @List.getElem_of_mem
abbrev sI := @List.map_drop
abbrev sJ := @Nat.min_eq_left
abbrev sK := @Nat.lt_succ_of_lt
abbrev sL := @List.getElem?_take
abbrev sM := @List.drop_eq_nil_of_le
abbrev sN := @List.take_append_drop
abbrev sO := @List.drop_eq_getElem_cons
abbrev sP := @List.filter_cons_of_neg
abbrev sQ := @List.mem_or_eq_of_mem_set
abbrev sR := @List.nodup_cons
abbrev sS := @List.length_replicate
abbrev sT := @Option.map_some
abbrev sU := @List.take_left'
abbrev sV := @Nat.mul_le_mul_left
abbrev sW := @List.length_reverse
abbrev sX := @List.mem_reverse
abbrev sY := @List.mem_of_mem_drop
abbrev sZ := @List.take_take
abbrev se := @List.drop_of_length_le
abbrev sf := @Int.ofNat_eq_natCast
abbrev sg := @Option.isNone_some
abbrev si := @List.mem_singleton
abbrev sj := @List.pairwise_cons
abbrev sm := @List.drop_append_of_le_length
inductive Ak (α:Type) where
 | leaf
 | node (v:Option α) (l r:Ak α)
namespace Ak
variable{α:Type}
def get:Ak α→Nat→Option α
 | .leaf,_=>none
 | .node v l r,k=>match k with
  | 0=>v
  | k+1=>bif Nat.beq (k % 2) 0 then l.get (k / 2)else r.get (k / 2)
def val:Ak α→Option α
 | .leaf=>none
 | .node v _ _=>v
def left:Ak α→Ak α
 | .leaf=>.leaf
 | .node _ l _=>l
def right:Ak α→Ak α
 | .leaf=>.leaf
 | .node _ _ r=>r
def kB(v:Option α)(l r:Ak α):Ak α:=
 match l with
 | .leaf=>.node v .leaf r
 | .node x a b=>.node v (.node x a b) r
def kC(v:Option α)(l r:Ak α):Ak α:=
 match r with
 | .leaf=>.node v l .leaf
 | .node x a b=>.node v l (.node x a b)
def RD(v:Option α):Nat→Ak α→Nat→Ak α
 | 0,t,_=>t
 | f+1,t,k=>match k with
  | 0=>.node v t.left t.right
  | k+1=>bif Nat.beq (k % 2) 0 then kB t.val (RD v f t.left (k / 2)) t.right
   else kC t.val t.left (RD v f t.right (k / 2))
def put(t:Ak α)(k:Nat)(v:Option α):Ak α:=RD v (k+1) t k
def set(t:Ak α)(k:Nat)(v:α):Ak α:=t.put k (some v)
def del(t:Ak α)(k:Nat):Ak α:=t.put k none
theorem beq_no{a b:Nat}(h:¬ a=b):Nat.beq a b=false:=by
 cases e:Nat.beq a b with
 | false=>rfl
 | true=>exact absurd (rW e) h
theorem bS(v:Option α)(l r:Ak α):kB v l r=.node v l r:=by cases l<;>rfl
theorem bT(v:Option α)(l r:Ak α):kC v l r=.node v l r:=by cases r<;>rfl
theorem L9(t:Ak α):t.get 0=t.val:=by cases t<;>rfl
theorem D3(t:Ak α)(k:Nat):t.get (k+1)=if k % 2=0 then t.left.get (k / 2)else t.right.get (k / 2):=by
 cases t with
 | leaf=>simp[get,left,right]
 | node v l r =>
  by_cases h:k % 2=0
  ·simp[get,left,h]
  ·have:Nat.beq (k % 2) 0=false:=beq_no h
   simp[get,right,h,this]
theorem am       (v : Option α) : ∀ (f : Nat) (t : Ak   α) (k j : Nat), k < f → (RD   v f t k).get j = if j = k then v else t.get j := by
  intro f
  induction f with
  | zero=>intro t k j h;omega
  | succ f ih =>
    intro t k j h
    cases k with
    | zero =>
      cases j with
      | zero=>simp[RD,L9,val]
      | succ j=>simp[RD,D3,left,right]
    | succ k =>
      by_cases hk:k % 2=0
      · have hb:Nat.beq (k % 2) 0=true:=by rw[hk];rfl
        simp only[RD,hb,cond_true,bS]
        cases j with
        | zero=>simp[L9,val]
        | succ j =>
          by_cases hj:j % 2=0
          · rw[D3,D3,if_pos hj,if_pos hj]
            simp only[left]
            rw[ih _ _ _ (by omega)]
            by_cases e:j=k
            · subst e;simp
            · rw[if_neg (by omega),if_neg (by omega)]
          · rw[D3,D3,if_neg hj,if_neg hj,if_neg (by omega)]
            simp only[right]
      · have hb:Nat.beq (k % 2) 0=false:=beq_no hk
        simp only[RD,hb,cond_false,bT]
        cases j with
        | zero=>simp[L9,val]
        | succ j =>
          by_cases hj:j % 2=0
          · rw[D3,D3,if_pos hj,if_pos hj,if_neg (by omega)]
            simp only[left]
          · rw[D3,D3,if_neg hj,if_neg hj]
            simp only[right]
            rw[ih _ _ _ (by omega)]
            by_cases e:j=k
            · subst e;simp
            · rw[if_neg (by omega),if_neg (by omega)]
theorem Uw(t:Ak α)(k j:Nat)(v:Option α):(t.put k v).get j=if j=k then v else t.get j:=am v _ t k j (by omega)
theorem get_set(t:Ak α)(k j:Nat)(v:α):(t.set k v).get j=if j=k then some v else t.get j:=Uw t k j _
theorem get_del(t:Ak α)(k j:Nat):(t.del k).get j=if j=k then none else t.get j:=Uw t k j _
def fill(t:Ak α)(k:Nat):List α→Ak α
 | []=>t
 | v::l=>fill (t.set k v) (k+1) l
theorem get_fill(l:List α):∀ (t:Ak α)(k j:Nat),(t.fill k l).get j=if k≤j∧j<k+l.length then l[j - k]? else t.get j:=by
  induction l with
  | nil=>intro t k j;simp[fill];omega
  | cons v l ih =>
    intro t k j
    simp only[fill,ih,get_set,qx]
    by_cases h1:k+1≤j∧j<k+1+l.length
    · rw [if_pos h1, if_pos (by omega), show j - k = (j - (k + 1)) + 1 from by omega]
      rfl
    · rw[if_neg h1]
      by_cases h2:j=k
      · subst h2;simp
      · rw[if_neg h2,if_neg (by omega)]
def take(t:Ak α)(k:Nat):Nat→Option (List α)
 | 0=>some []
 | n+1=>match t.get k with
  | none=>none
  | some v=>match take t (k+1) n with
   | none=>none
   | some l=>some (v::l)
theorem take_length{t:Ak α}{k n:Nat}{l:List α}(h:t.take k n=some l):l.length=n:=by
  induction n generalizing k l with
  | zero=>simp[take]at h;subst h;rfl
  | succ n ih =>
    simp only[take]at h
    split at h
    · cases h
    · split at h
      · cases h
      · rename_i h2;injection h with h;subst h;simp[ih h2]
theorem take_get {t : Ak   α} {k n : Nat} {l : List α} (h : t.take k n = some l) (j : Nat) (hj : j < n) : t.get (k + j) = l[j]? := by
  induction n generalizing k l j with
  | zero=>omega
  | succ n ih =>
    simp only[take]at h
    split at h
    · cases h
    · rename_i v hv
      split at h
      · cases h
      · rename_i l' h2
        injection h with h
        subst h
        cases j with
        | zero=>simpa using hv
        | succ j=>rw[show k+(j+1)=k+1+j from by omega,ih h2 j (by omega)];rfl
end Ak
end
end Go.Proofs.Ytilhhmkdcoajnaa.Am
namespace Go.Proofs.Ytilhhmkdcoajnaa.Am
open Go
noncomputable section
inductive AV where
 | bool (b:Bool)
 | int (k:IntKind) (n:Int)
 | str (s:List Nat)
 | ptr (a:Option (Nat×Nat))
 | slice (a:Option (Nat×Nat)) (len:Nat) (cap:Option Nat)
 | map (r:Option Nat)
 | func (f:FuncId) (first cap:List AV)
 | yield (l:Nat)
 | nilFunc
 | iface (t:TypeId) (v:AV)
 | nilIface
 | agg (cs:List AV)
 | tuple (vs:List AV)
def Ar:AV:=.tuple []
def AV.cells:AV→List AV
 | .agg cs=>cs
 | v=>[v]
def AV.isCell:AV→Bool
 | .agg _ | .tuple _=>false
 | _=>true
def Ae:List AV→Bool
 | []=>true
 | v::l=>v.isCell && Ae l
inductive fS where
 | ro | own | sealed
structure EX where
 elem:TypeId
 sz:Nat
 n:Nat
 c:Ak AV
 spare:Bool
 mode:fS
 par:Option Nat
 bytes:Bool
inductive CX where
 | loc (i:Nat)
 | var (j:Nat)
 | const (v:AV)
inductive Made where
 | ptr | slice (n:Nat) | map
structure Fg where
 state:LoopState
 pending:Option Code
 fn:FuncId
 var:List AV
 params:Array Tmp
 assign:Code
 body:Code
 dfr:Nat
inductive C8 where
 | row (r:EX)
 | map (es:List (AV×AV×Nat)) (clock:Nat)
 | loop (l:Fg)
 | mark
 | iter (s:List Nat) (pos:Nat)
structure AE where
 next:Nat
 heap:Ak C8
def JL:Value→Option AV
 | .bool b=>some (.bool b)
 | .int k n=>some (.int k n)
 | .string s=>some (.str (s.data.toList.map (fun(b:UInt8)=>b.toNat)))
 | .pointer none=>some (.ptr none)
 | .slice none 0 0=>some (.slice none 0 (some 0))
 | .map none=>some (.map none)
 | .nilFunc=>some .nilFunc
 | .nilIface=>some .nilIface
 | _=>none
def FG:List Value→Option (List AV)
 | []=>some []
 | v::l=>(JL v).bind fun a=>(FG l).bind fun r=>some (a::r)
def ofValue:Value→Option AV
 | .agg cs=>(FG cs.toList).bind fun l=>some (.agg l)
 | .tuple vs=>(FG vs.toList).bind fun l=>some (.tuple l)
 | v=>JL v
def AG{α:Type}(b:Bool)(x:Option α):Option α:=bif b then x else none
def FC{α:Type}(P:Program):Sem α→Option α
 | .pure a=>some a
 | .program k=>FC P (k P)
 | .mark _ k=>FC P k
 | _=>none
def CC(k:IntKind):Int→Bool
 | .ofNat m=>match k with
  | .i64=>Nat.ble m 9223372036854775807
  | .u64=>Nat.ble m 18446744073709551615
  | .i32=>Nat.ble m 2147483647
  | .u32=>Nat.ble m 4294967295
  | .u8=>Nat.ble m 255
  | .i8=>Nat.ble m 127
  | .u16=>Nat.ble m 65535
  | .i16=>Nat.ble m 32767
 | .negSucc m=>match k with
  | .i64=>Nat.ble m 9223372036854775807
  | .i32=>Nat.ble m 2147483647
  | .i8=>Nat.ble m 127
  | .i16=>Nat.ble m 32767
  | _=>false
def EB(k:IntKind)(n:Int):Int:=bif CC k n then n else k.wrap n
def PO:Int→Int→Bool
 | .ofNat a,.ofNat b=>Nat.blt a b
 | .ofNat _,.negSucc _=>false
 | .negSucc _,.ofNat _=>true
 | .negSucc a,.negSucc b=>Nat.blt b a
def Vf:Int→Int→Bool
 | .ofNat a,.ofNat b=>Nat.beq a b
 | .negSucc a,.negSucc b=>Nat.beq a b
 | _,_=>false
def Nd:Int→Option Nat
 | .ofNat m=>some m
 | .negSucc _=>none
def Gh:List Nat→List Nat→Bool
 | [],[]=>true
 | a::x,b::y=>bif Nat.beq a b then Gh x y else false
 | _,_=>false
def Mi:List Nat→List Nat→Bool
 | _,[]=>false
 | [],_::_=>true
 | a::x,b::y=>bif Nat.blt a b then true else bif Nat.beq a b then Mi x y else false
def VG(op:BinOp)(x y:List Nat):Option AV:=
 match op with
 | .add=>AG (Nat.ble (x.length+y.length) 1152921504606846976) (some (.str (x++y)))
 | .eql=>some (.bool (Gh x y))
 | .neq=>some (.bool (!Gh x y))
 | .lss=>some (.bool (Mi x y))
 | .leq=>some (.bool (Mi x y || Gh x y))
 | .gtr=>some (.bool (!(Mi x y || Gh x y)))
 | .geq=>some (.bool (!Mi x y))
 | _=>none
def E1(P:Program)(t:TypeId):Option Bool:=
 match P.underlying t with
 | some (.struct _) | some (.array _ _)=>some true
 | some _=>some false
 | none=>none
def BD(P:Program)(t:TypeId):Option Nat:=match P.info? t with
 | some i=>some i.size
 | none=>none
def CF(P:Program)(t:TypeId):Option AV:=match P.info? t with
 | some i=>match i.zero with
  | some v=>ofValue v
  | none=>none
 | none=>none
def Cg(P:Program)(t:TypeId):Option Nat:=match P.info? t with
 | some i=>some i.bytes
 | none=>none
def rowAt(s:AE)(i:Nat):Option EX:=match s.heap.get i with
 | some (.row r)=>some r
 | _=>none
def newObj(s:AE)(o:C8):AE:={ next:=s.next+1,heap:=s.heap.set s.next o }
def AL(elem:TypeId)(sz:Nat)(cells:List AV):C8:=
 .row { elem,sz,n:=cells.length,c:=Ak.fill .leaf 0 cells,spare:=false,mode:=.own,par:=none,bytes:=false }
def setObj(s:AE)(i:Nat)(o:C8):AE:={ s with heap:=s.heap.set i o }
def Bm(s:AE)(i:Nat):AE:={ s with heap:=s.heap.del i }
def loadN(s:AE)(i off n:Nat):Option (List AV):=
 (rowAt s i).bind fun r=>AG (Nat.ble (off+n) r.n) (r.c.take off n)
def load1(s:AE)(i off:Nat):Option AV:=
 (rowAt s i).bind fun r=>AG (Nat.blt off r.n) (r.c.get off)
def A1(s:AE)(i:Nat)(r:EX):AE:=match r.par with
 | none=>s
 | some p=>bif Nat.beq p i then s else Bm s p
def Fl:fS→Bool
 | .own=>true
 | _=>false
def Cc(s:AE)(i off:Nat)(vs:List AV):Option AE:=
 match vs with
 | []=>some s
 | _::_=>(rowAt s i).bind fun r =>
  AG (Fl r.mode && Nat.ble (off+vs.length) r.n && Ae vs)
   (some (setObj (A1 s i r) i (.row { r with c:=r.c.fill off vs,par:=none })))
def AC(P:Program)(s:AE)(t:TypeId):AV→Option AV
 | .ptr (some (i,o))=>(E1 P t).bind fun g=>match g with
  | true=>(BD P t).bind fun n=>(loadN s i o n).bind fun l=>some (.agg l)
  | false=>load1 s i o
 | _=>none
def AP(P:Program)(s:AE)(t:TypeId)(a v:AV):Option AE:=
 match a with
 | .ptr (some (i,o))=>(BD P t).bind fun n=>AG (Nat.beq v.cells.length n) (Cc s i o v.cells)
 | _=>none
def Ol(P:Program)(t:TypeId):Bool:=match P.underlying t with
 | some (.pointer _)=>true
 | _=>false
def Eb(P:Program)(t:TypeId):Bool:=match P.underlying t with
 | some (.slice _)=>true
 | _=>false
def Ok(P:Program)(t:TypeId):Bool:=match P.underlying t with
 | some (.map ..)=>true
 | _=>false
def JB(P:Program)(t:TypeId):Bool:=match P.underlying t with
 | some (.func ..)=>true
 | _=>false
def Oi(P:Program)(t:TypeId):Bool:=match P.underlying t with
 | some .bool=>true
 | _=>false
def aa(P:Program)(t:TypeId):AV→AV→Option Bool
 | .bool a,.bool b=>AG (Oi P t) (some (a == b))
 | .ptr none,.ptr b=>AG (Ol P t) (some b.isNone)
 | .ptr a,.ptr none=>AG (Ol P t) (some a.isNone)
 | .slice none _ _,.slice b _ _=>AG (Eb P t) (some b.isNone)
 | .slice a _ _,.slice none _ _=>AG (Eb P t) (some a.isNone)
 | .map none,.map b=>AG (Ok P t) (some b.isNone)
 | .map a,.map none=>AG (Ok P t) (some a.isNone)
 | .nilFunc,.nilFunc=>AG (JB P t) (some true)
 | .func ..,.nilFunc=>AG (JB P t) (some false)
 | .nilFunc,.func ..=>AG (JB P t) (some false)
 | _,_=>none
def B8:IntKind→IntKind→Bool
 | .i8,.i8 | .i16,.i16 | .i32,.i32 | .i64,.i64 | .u8,.u8 | .u16,.u16 | .u32,.u32 | .u64,.u64=>true
 | _,_=>false
def ay(P:Program)(op:BinOp)(k:IntKind)(a b:Int):Option AV:=
 match op with
 | .add=>some (.int k (EB k (a+b)))
 | .sub=>some (.int k (EB k (a - b)))
 | .mul=>some (.int k (EB k (a * b)))
 | .eql=>some (.bool (Vf a b))
 | .neq=>some (.bool (!Vf a b))
 | .lss=>some (.bool (PO a b))
 | .leq=>some (.bool (!PO b a))
 | .gtr=>some (.bool (PO b a))
 | .geq=>some (.bool (!PO a b))
 | .quo | .rem=>(FC P (Op.intDiv op k a b)).bind ofValue
 | .shl | .shr=>none
 | _=>(FC P (Op.intBits op k a b)).bind ofValue
def AN(P:Program)(op:BinOp)(t:TypeId)(x y:AV):Option AV:=
 match x,y with
 | .int k a,.int k' b=>match op with
  | .shl | .shr=>(FC P (Op.shift op k a k' b)).bind ofValue
  | _=>AG (B8 k k') (ay P op k a b)
 | .str a,.str b=>VG op a b
 | x,y=>match op with
  | .eql=>(aa P t x y).bind fun b=>some (.bool b)
  | .neq=>(aa P t x y).bind fun b=>some (.bool (!b))
  | _=>none
def Hv(P:Program)(op:UnOp):AV→Option AV
 | .int k n=>match op with
  | .neg=>some (.int k (EB k (0 - n)))
  | .xor=>(FC P (Op.unary .xor (.int k n))).bind ofValue
  | _=>none
 | .bool b=>match op with
  | .not=>some (.bool (!b))
  | _=>none
 | _=>none
def DO(place:Nat→Option (Nat×Nat))(cells:List AV):List (Nat×AV)→Option (List AV)
 | []=>some cells
 | (i,v)::rest=>(place i).bind fun p =>
  AG (Nat.beq v.cells.length p.2 && Nat.ble (p.1+v.cells.length) cells.length)
   (DO place (cells.take p.1++(v.cells++cells.drop (p.1+v.cells.length))) rest)
def B1(P:Program):List Field→Option (List (Nat×Nat))
 | []=>some []
 | f::l=>(BD P f.type).bind fun n=>(B1 P l).bind fun r=>some ((f.offset,n)::r)
def Bu(P:Program)(t:TypeId)(parts:List (Nat×AV)):Option AV:=
 (CF P t).bind fun z=>match P.underlying t with
  | some (.struct fields)=>(B1 P fields.toList).bind fun places =>
   (DO (fun i=>places[i]?) z.cells parts).bind fun l=>some (.agg l)
  | some (.array _ e)=>(BD P e).bind fun n =>
   (DO (fun i=>some (i * n,n)) z.cells parts).bind fun l=>some (.agg l)
  | _=>none
def Ht(l:List AV):Nat→List AV
 | 0=>[]
 | n+1=>l++Ht l n
def Ab(P:Program)(t:TypeId)(len:Nat)(parts:List (Nat×AV)):Option C8:=
 match P.underlying t with
 | some (.slice e)=>(BD P e).bind fun n=>AG (Nat.ble (len * n) 16777216) <|
  (CF P e).bind fun z=>AG (Nat.beq z.cells.length n) <|
   (DO (fun i=>some (i * n,n)) (Ht z.cells len) parts).bind fun l=>some (AL e n l)
 | _=>none
def C5(P:Program)(s:AE)(src dst:TypeId)(x:AV):Option AV:=
 match P.underlying src,P.underlying dst,x with
 | some _,some (.int k),.int _ n=>some (.int k (EB k n))
 | some _,some .string,.str l=>some (.str l)
 | some (.slice e),some .string,.slice a len _=>match P.underlying e with
  | some (.int .u8)=>match a with
   | none=>some (.str [])
   | some (i,o)=>(loadN s i o len).bind fun l=>(bytesOf l).bind fun b=>some (.str b)
  | _=>none
 | _,_,_=>none
where
 bytesOf:List AV→Option (List Nat)
  | []=>some []
  | .int .u8 (.ofNat n)::l=>AG (Nat.blt n 256) ((bytesOf l).bind fun r=>some (n::r))
  | _::_=>none
def Cx:AV→Option Nat
 | .int _ n=>Nd n
 | _=>none
def Au(x:AV)(y:Nat):Option Nat:=(Cx x).bind fun i=>AG (Nat.ble i y) (some i)
def An(P:Program)(s:AE)(t:TypeId)(x:AV)(lo hi mx:Option AV):Option AV:=
 match x with
 | .str l=>(match mx with | some _=>none | none=>some ()).bind fun _ =>
  (match hi with | some h=>Au h l.length | none=>some l.length).bind fun h =>
  (match lo with | some v=>Au v h | none=>some 0).bind fun o =>
  (match P.underlying t with | some .string=>some () | _=>none).bind fun _=>some (.str ((l.drop o).take (h - o)))
 | .slice a len cap=>match P.underlying t with
  | some (.slice e)=>(BD P e).bind fun n =>
   (match cap with
    | some c=>some c
    | none=>match a with
     | none=>none
     | some (i,o)=>(rowAt s i).bind fun r=>AG (Nat.ble o r.n && Nat.beq n r.sz && !Nat.beq n 0) (some ((r.n - o) / n))).bind fun far =>
   (match mx with | some m=>(Au m far).bind fun c=>AG (cap.isSome || Nat.blt 0 far) (some (some c)) | none=>some cap).bind fun m =>
   (match hi,m with
    | some h,some c=>Au h c
    | some h,none=>Au h far
    | none,some c=>(match mx with | none=>some len | some _=>(fun(_:Nat)=>none) c)
    | none,none=>some len).bind fun h =>
   (match lo with | some v=>Au v h | none=>some 0).bind fun l =>
   some (.slice
    (match a with
     | none=>none
     | some (i,o)=>match m with
      | some c=>bif Nat.beq c l then some (i,o)else some (i,o+l * n)
      | none=>some (i,o+l * n))
    (h - l) (match m with | some c=>some (c - l) | none=>none))
  | _=>none
 | .ptr (some (i,o))=>match P.underlying t with
  | some (.array len e)=>arr len e i o
  | some (.pointer u)=>match P.underlying u with
   | some (.array len e)=>arr len e i o
   | _=>none
  | _=>none
 | _=>none
where
 arr (len:Nat) (e:TypeId) (i o:Nat):Option AV:=(BD P e).bind fun n =>
  (match mx with | some m=>Au m len | none=>some len).bind fun m =>
  (match hi with | some h=>Au h m | none=>match mx with | none=>some len | some _=>none).bind fun h =>
  (match lo with | some v=>Au v h | none=>some 0).bind fun l =>
  some (.slice (some (i,bif Nat.beq m l then o else o+l * n)) (h - l) (some (m - l)))
def AB(P:Program)(t:TypeId)(x:AV)(f:Nat):Option AV:=
 match x with
 | .ptr (some (i,o))=>match P.underlying t with
  | some (.struct fs)=>(fs[f]?).bind fun fd=>(BD P fd.type).bind fun n =>
   AG (!Nat.beq n 0) (some (.ptr (some (i,o+fd.offset))))
  | _=>none
 | _=>none
def U9(P:Program)(t:TypeId)(cs:List AV)(off:Nat):Option AV:=
 (E1 P t).bind fun g=>match g with
  | true=>(BD P t).bind fun n=>some (.agg ((cs.drop off).take n))
  | false=>cs[off]?
def TX(P:Program)(t:TypeId)(x:AV)(f:Nat):Option AV:=
 match x with
 | .agg cs=>match P.underlying t with
  | some (.struct fs)=>(fs[f]?).bind fun fd=>U9 P fd.type cs fd.offset
  | _=>none
 | _=>none
def AD(P:Program)(t:TypeId)(x ix:AV):Option AV:=
 (Cx ix).bind fun k=>match x with
  | .ptr (some (i,o))=>match P.underlying t with
   | some (.array len e)=>(BD P e).bind fun n=>AG (Nat.blt k len) (some (.ptr (some (i,o+k * n))))
   | _=>none
  | .slice (some (i,o)) len _=>match P.underlying t with
   | some (.slice e)=>(BD P e).bind fun n=>AG (Nat.blt k len) (some (.ptr (some (i,o+k * n))))
   | _=>none
  | _=>none
def IU(P:Program)(t:TypeId)(x ix:AV):Option AV:=
 (Cx ix).bind fun k=>match x with
  | .agg cs=>match P.underlying t with
   | some (.array len e)=>(BD P e).bind fun n=>AG (Nat.blt k len) (U9 P e cs (k * n))
   | _=>none
  | .str l=>match P.underlying t with
   | some .string=>(l[k]?).bind fun b=>some (.int .u8 (.ofNat b))
   | _=>none
  | _=>none
def AF:AV→Option AV
 | .ptr none | .nilIface | .nilFunc=>none
 | v=>some v
def Rp(x:AV)(i:Nat):Option AV:=
 match x with
 | .tuple vs=>vs[i]?
 | _=>none
def Ro(c a b:AV):Option AV:=
 match c with
 | .bool true=>some a
 | .bool false=>some b
 | _=>none
def D6(mx:Bool):AV→List AV→Option AV
 | v,[]=>some v
 | .int k a,.int k' b::l=>AG (B8 k k') (D6 mx (.int k (bif (bif mx then PO a b else PO b a)then b else a)) l)
 | _,_=>none
def MH:AV→AV→Option Bool
 | .int k a,.int k' b=>AG (B8 k k') (some (Vf a b))
 | .str a,.str b=>some (Gh a b)
 | .agg a,.agg b=>keysEq a b
 | _,_=>none
where
 keysEq:List AV→List AV→Option Bool
 | [],[]=>some true
 | .int k a::x,.int k' b::y=>AG (B8 k k') ((keysEq x y).bind fun r=>some (Vf a b && r))
 | .str a::x,.str b::y=>(keysEq x y).bind fun r=>some (Gh a b && r)
 | _,_=>none
def D1(k:AV):List (AV×AV×Nat)→Nat→Option (Option (Nat×AV×Nat))
 | [],_=>some none
 | (k',v,b)::l,i=>(MH k k').bind fun e=>match e with
  | true=>some (some (i,v,b))
  | false=>D1 k l (i+1)
def CG(P:Program)(t:TypeId):AV→Bool
 | .int k _=>match P.underlying t with
  | some (.int k')=>B8 k k'
  | _=>false
 | .str _=>match P.underlying t with
  | some .string=>true
  | _=>false
 | _=>false
def DK(P:Program)(s:AE)(t:TypeId)(m k:AV)(ok:Bool):Option AV:=
 match P.underlying t with
 | some (.map kt et)=>AG (CG P kt k) <|
  (match m with
   | .map none=>some []
   | .map (some i)=>match s.heap.get i with
    | some (.map es _)=>some es
    | _=>none
   | _=>none).bind fun es=>(D1 k es 0).bind fun r =>
   (match r with
    | some (_,v,_)=>some (v,true)
    | none=>(CF P et).bind fun z=>some (z,false)).bind fun p=>some (bif ok then .tuple [p.1,.bool p.2]else p.1)
 | _=>none
def setNth(es:List (AV×AV×Nat))(i:Nat)(v:AV):List (AV×AV×Nat):=
 match es,i with
 | [],_=>[]
 | (k,_,b)::l,0=>(k,v,b)::l
 | e::l,i+1=>e::setNth l i v
def EV(P:Program)(s:AE)(t:TypeId)(m k v:AV):Option AE:=
 match P.underlying t,m with
 | some (.map kt _),.map (some i)=>AG (CG P kt k) <| match s.heap.get i with
  | some (.map es clock)=>(D1 k es 0).bind fun r=>match r with
   | some (j,_,_)=>some (setObj s i (.map (setNth es j v) clock))
   | none=>some (setObj s i (.map (es++[(k,v,clock)]) (clock+1)))
  | _=>none
 | _,_=>none
def delNth(es:List (AV×AV×Nat))(i:Nat):List (AV×AV×Nat):=
 match es,i with
 | [],_=>[]
 | _::l,0=>l
 | e::l,i+1=>e::delNth l i
def Ku(P:Program)(s:AE)(t:TypeId)(m k:AV):Option AE:=
 match P.underlying t with
 | some (.map kt _)=>AG (CG P kt k) <| match m with
  | .map none=>some s
  | .map (some i)=>match s.heap.get i with
   | some (.map es clock)=>(D1 k es 0).bind fun r=>match r with
    | some (j,_,_)=>some (setObj s i (.map (delNth es j) clock))
    | none=>some s
   | _=>none
  | _=>none
 | _=>none
def As(P:Program)(s:AE)(t:TypeId):AV→Option AV
 | .str l=>match P.underlying t with
  | some .string=>some (.int .i64 (.ofNat l.length))
  | _=>none
 | .slice _ n _=>match P.underlying t with
  | some (.slice _)=>some (.int .i64 (.ofNat n))
  | _=>none
 | .map none=>match P.underlying t with
  | some (.map ..)=>some (.int .i64 (.ofNat 0))
  | _=>none
 | .map (some i)=>match P.underlying t with
  | some (.map ..)=>match s.heap.get i with
   | some (.map es _)=>some (.int .i64 (.ofNat es.length))
   | _=>none
  | _=>none
 | _=>none
def Mz(P:Program)(s:AE)(t:TypeId):AV→Option AV
 | .slice a _ cap=>match P.underlying t with
  | some (.slice e)=>match cap with
   | some c=>some (.int .i64 (.ofNat c))
   | none=>match a with
    | some (i,o)=>(BD P e).bind fun n=>(rowAt s i).bind fun r=>AG (!r.spare && Nat.ble o r.n && Nat.beq n r.sz && !Nat.beq n 0) (some (.int .i64 (.ofNat ((r.n - o) / n))))
    | none=>none
  | _=>none
 | _=>none
def Made.val(i:Nat):Made→AV
 | .ptr=>.ptr (some (i,0))
 | .slice n=>.slice (some (i,0)) n (some n)
 | .map=>.map (some i)
def BF(P:Program)(e:TypeId):Option (C8×Made):=(CF P e).bind fun z=>some (AL e 0 z.cells,.ptr)
def Ce(e:TypeId)(v:AV):Option (C8×Made):=some (AL e 0 v.cells,.ptr)
def IY(P:Program)(t:TypeId)(l c:AV):Option (C8×Made):=
 match P.underlying t,l,c with
  | some (.slice e),.int .i64 (.ofNat l),.int .i64 (.ofNat c)=>(Cg P e).bind fun by_=>(BD P e).bind fun n =>
   AG (Nat.beq l c && Nat.ble (by_ * c) 1099511627776 && Nat.ble c 1099511627776) <|
   (CF P e).bind fun z=>AG (Nat.beq z.cells.length n) (some (AL e n (Ht z.cells c),.slice c))
  | _,_,_=>none
def ME(P:Program)(t:TypeId):Bool:=match P.underlying t with
 | some (.int _)=>true
 | _=>false
def fJ(s:AE)(i o n size:Nat):Option (List AV):=bif Nat.beq n 0 then some []else loadN s i o (n * size)
def Bg(P:Program)(s:AE)(e:TypeId)(size:Nat):AV→Option (Nat×List AV)
 | .int _ (.ofNat n)=>AG (Nat.ble n 1099511627776 && Nat.blt 0 n) ((CF P e).bind fun z=>AG (Nat.beq z.cells.length size) (some (n,Ht z.cells n)))
 | .slice none _ _=>some (0,[])
 | .slice (some (i,o)) n _=>(fJ s i o n size).bind fun l=>some (n,l)
 | .str l=>AG (Nat.beq size 1) (some (l.length,l.map fun b=>.int .u8 (.ofNat b)))
 | _=>none
def BC(P:Program)(t:TypeId):Bool:=match P.underlying t with
 | some (.slice _) | some .string=>true
 | _=>false
def CL(e:TypeId)(sz:Nat)(c:Ak AV)(n:Nat)(par:Option Nat):C8:=
 .row { elem:=e,sz,n,c,spare:=true,mode:=.own,par,bytes:=false }
def CB(P:Program)(e:TypeId)(size:Nat):Bool:=match CF P e with
 | some z=>Nat.beq z.cells.length size
 | none=>false
def Bf(P:Program)(s:AE)(e:TypeId)(size n:Nat)(cells:List AV):Option (AV×AE):=
 AG (CB P e size) (some (.slice (some (s.next,0)) n none,newObj s (CL e size (Ak.fill .leaf 0 cells) cells.length none)))
def Cs(s:AE)(i:Nat)(r:EX)(ends:Bool):AE:=
 bif ends then setObj (A1 s i r) i (.row { r with mode:=.sealed,par:=none })else Bm (A1 s i r) i
def DU(P:Program)(s:AE)(e:TypeId)(size i o len:Nat)(src:Nat×List AV)(r:EX)(old:List AV):Option (AV×AE):=
 AG (Fl r.mode && CB P e size) <|
  let ends:=Nat.beq (o+len * size) r.n
  let s2:=Cs s i r ends
  some (.slice (some (s.next,0)) (len+src.1) none,
   newObj s2 (CL e size (bif Nat.beq o 0 then r.c.fill (len * size) src.2 else Ak.fill .leaf 0 (old++src.2)) (old++src.2).length (bif ends then some i else none)))
def DG(P:Program)(s:AE)(e:TypeId)(size i o len:Nat)(src:Nat×List AV)(r:EX):Option (AV×AE):=
 AG (Nat.beq size r.sz) <|
 bif Nat.ble (o+(len+src.1) * size) r.n then
  (Cc s i (o+len * size) src.2).bind fun s'=>some (.slice (some (i,o)) (len+src.1) none,s')
 else (loadN s i o (len * size)).bind fun old =>
  bif r.spare then DU P s e size i o len src r old else Bf P s e size (len+src.1) (old++src.2)
def DB(P:Program)(s:AE)(e:TypeId)(size i o len c:Nat)(src:Nat×List AV):Option (AV×AE):=
 bif Nat.ble (len+src.1) c then
  (Cc s i (o+len * size) src.2).bind fun s'=>some (.slice (some (i,o)) (len+src.1) (some c),s')
 else (loadN s i o (len * size)).bind fun old=>Bf P s e size (len+src.1) (old++src.2)
def appTo(P:Program)(s:AE)(e:TypeId)(size:Nat)(a:Option (Nat×Nat))(len:Nat)(cap:Option Nat)(src:Nat×List AV):Option (AV×AE):=
 match a with
 | none=>bif Nat.beq src.1 0 then some (.slice none 0 (some 0),s)else Bf P s e size src.1 src.2
 | some (i,o)=>match cap with
  | some c=>DB P s e size i o len c src
  | none=>(rowAt s i).bind fun r=>DG P s e size i o len src r
def AY(P:Program)(s:AE)(argTypes:List TypeId)(args:List AV):Option (AV×AE):=
 match argTypes,args with
 | [st,xt],[.slice a len cap,x]=>match P.underlying st with
  | some (.slice e)=>(BD P e).bind fun size=>(Cg P e).bind fun by_ =>
   AG (!Nat.beq size 0 && (match x with | .int ..=>ME P xt | _=>BC P xt)) <|
   (Bg P s e size x).bind fun src =>
   AG (Ae src.2 && Nat.ble ((len+src.1) * by_) 1099511627776 && Nat.ble (len+src.1) 1099511627776) <|
   appTo P s e size a len cap src
  | _=>none
 | _,_=>none
def aU(P:Program)(s:AE)(argTypes:List TypeId)(args:List AV):Option (AV×AE):=
 match argTypes,args with
 | dt::_,[.slice a dl _,x]=>match P.underlying dt with
  | some (.slice e)=>(BD P e).bind fun size =>
   (match x with | .slice _ n _=>some n | .str l=>some l.length | _=>none).bind fun sl =>
   let n:=bif Nat.ble sl dl then sl else dl
   (match x with
    | .slice none _ _=>some []
    | .slice (some (i,o)) _ _=>loadN s i o (n * size)
    | .str l=>AG (Nat.beq size 1) (some ((l.take n).map fun b=>.int .u8 (.ofNat b)))
    | _=>none).bind fun cells =>
   (match a with
    | none=>some s
    | some (i,o)=>Cc s i o cells).bind fun s'=>some (.int .i64 (.ofNat n),s')
  | _=>none
 | _,_=>none
def FP(P:Program)(s:AE)(argTypes:List TypeId)(args:List AV):Option (AV×AE):=
 match argTypes,args with
 | t::_,[x]=>match P.underlying t,x with
  | some (.slice _),.slice none _ _=>some (Ar,s)
  | some (.slice _),.slice _ 0 _=>some (Ar,s)
  | some (.slice e),.slice (some (i,o)) n _=>(CF P e).bind fun z=>(Cc s i o (Ht z.cells n)).bind fun s'=>some (Ar,s')
  | _,_=>none
 | _,_=>none
inductive Sh where
 | p1 (f:AV→Option AV)
 | p2 (f:AV→AV→Option AV)
 | p (f:List AV→Option AV)
 | r1 (f:AE→AV→Option AV)
 | r (f:AE→List AV→Option AV)
 | mk (f:List AV→Option (C8×Made))
 | e (f:AE→List AV→Option (AV×AE))
 | call (f:FuncId)
 | callv
def Sh.isEff:Sh→Bool
 | .e _ | .call _ | .callv=>true
 | _=>false
def Sh.isRead:Sh→Bool
 | .r1 _ | .r _=>true
 | _=>false
def Rn:List AV→Option AV
 | [c,a,b]=>Ro c a b
 | _=>none
def BW{α:Type}(f:AV→AV→Option α):List AV→Option α
 | [a,b]=>f a b
 | _=>none
def og{α:Type}(f:AV→AV→AV→Option α):List AV→Option α
 | [a,b,c]=>f a b c
 | _=>none
def AS(x:Option AE):Option (AV×AE):=match x with
 | some s=>some (Ar,s)
 | none=>none
def AU(P:Program)(t:TypeId)(lo hi mx:Bool)(s:AE):List AV→Option AV
 | [x]=>match lo,hi,mx with
  | false,false,false=>An P s t x none none none
  | _,_,_=>none
 | [x,a]=>match lo,hi,mx with
  | true,false,false=>An P s t x (some a) none none
  | false,true,false=>An P s t x none (some a) none
  | _,_,_=>none
 | [x,a,b]=>match lo,hi,mx with
  | true,true,false=>An P s t x (some a) (some b) none
  | false,true,true=>An P s t x none (some a) (some b)
  | _,_,_=>none
 | [x,a,b,c]=>match lo,hi,mx with
  | true,true,true=>An P s t x (some a) (some b) (some c)
  | _,_,_=>none
 | _=>none
def zipIdx(is:List Nat)(l:List AV):List (Nat×AV):=is.zip l
def Bi(P:Program)(o:Op):Option (Sh×List Operand):=
 match o with
 | .move x | .assign x=>some (.p1 some,[x])
 | .pick c a b=>some (.p Rn,[c,a,b])
 | .build t ps=>some (.p (fun l=>Bu P t (zipIdx (ps.toList.map (·.1)) l)),ps.toList.map (·.2))
 | .nilCheck x=>some (.p1 AF,[x])
 | .binOp op t x y _=>some (.p2 (AN P op t),[x,y])
 | .unOp op _ x=>some (.p1 (Hv P op),[x])
 | .makeFunc fn first captured=>match fn with
  | .func f=>some (.p (fun l=>some (.func f (l.take first.size) (l.drop first.size))),first.toList++captured.toList)
  | _=>none
 | .fieldAddr t x f=>some (.p1 (fun x=>AB P t x f),[x])
 | .field t x f=>some (.p1 (fun x=>TX P t x f),[x])
 | .indexAddr t x i=>some (.p2 (AD P t),[x,i])
 | .index t x i=>some (.p2 (IU P t),[x,i])
 | .extract t i=>some (.p1 (fun x=>Rp x i),[t])
 | .load t a=>some (.r1 (fun s a=>AC P s t a),[a])
 | .lookup t m k ok=>some (.r (fun s=>BW (fun m k=>DK P s t m k ok)),[m,k])
 | .convert src dst x=>some (.r1 (fun s x=>C5 P s src dst x),[x])
 | .slice t x lo hi mx=>some (.r (AU P t lo.isSome hi.isSome mx.isSome),[x]++lo.toList++hi.toList++mx.toList)
 | .alloc e=>some (.mk (fun l=>match l with | []=>BF P e | _=>none),[])
 | .box e x=>some (.mk (fun l=>match l with | [v]=>Ce e v | _=>none),[x])
 | .buildSlice t len ps=>some (.mk (fun l=>(Ab P t len (zipIdx (ps.toList.map (·.1)) l)).bind fun r=>some (r,.slice len)),ps.toList.map (·.2))
 | .makeMap _ none=>some (.mk (fun l=>match l with | []=>some (.map [] 0,.map) | _=>none),[])
 | .makeSlice t l c=>some (.mk (BW (IY P t)),[l,c])
 | .store t a x=>some (.e (fun s=>BW (fun a x=>AS (AP P s t a x))),[a,x])
 | .mapUpdate t m k x | .insert t m k x=>some (.e (fun s=>og (fun m k x=>AS (EV P s t m k x))),[m,k,x])
 | .call { callee,args,argTypes }=>match callee with
  | .value (.func f)=>some (.call f,args.toList)
  | .value x=>some (.callv,x::args.toList)
  | .invoke ..=>none
  | .builtin b=>match b with
   | .len=>match argTypes[0]? with
    | some t=>some (.r (fun s l=>match l with | [x]=>As P s t x | _=>none),args.toList)
    | none=>none
   | .cap=>match argTypes[0]? with
    | some t=>some (.r (fun s l=>match l with | [x]=>Mz P s t x | _=>none),args.toList)
    | none=>none
   | .min=>some (.p (fun l=>match l with | v::l=>D6 false v l | []=>none),args.toList)
   | .max=>some (.p (fun l=>match l with | v::l=>D6 true v l | []=>none),args.toList)
   | .append=>some (.e (fun s l=>AY P s argTypes.toList l),args.toList)
   | .copy=>some (.e (fun s l=>aU P s argTypes.toList l),args.toList)
   | .clear=>some (.e (fun s l=>FP P s argTypes.toList l),args.toList)
   | .delete=>match argTypes[0]? with
    | some t=>some (.e (fun s=>BW (fun m k=>AS (Ku P s t m k))),args.toList)
    | none=>none
   | _=>none
 | _=>none
def pD(t:Nat):Nat:=Nat.shiftLeft 1 t
def HJ:List Operand→Nat
 | []=>0
 | .tmp t::l=>Nat.lor (pD t) (HJ l)
 | _::l=>HJ l
def Lw(P:Program):List Oper→Nat→Nat→Nat
 | [],_,e=>e
 | o::l,wr,e =>
  let rd:=match Bi P o.op with
   | some (_,xs)=>HJ xs
   | none=>0
  Lw P l (match o.dst with | some d=>Nat.lor wr (pD d) | none=>wr) (Nat.lor e (Nat.sub rd (Nat.land rd wr)))
def E9(P:Program):Code→Nat
 | .region _ ops _=>Lw P ops.toList 0 0
 | .seq a b=>Nat.lor (E9 P a) (E9 P b)
 | .cond c a b=>Nat.lor (HJ [c]) (Nat.lor (E9 P a) (E9 P b))
 | .block _ b | .loop b | .scope b=>E9 P b
 | .rangeFunc f ps a b=>Nat.lor (HJ [f]) (Nat.lor (ps.toList.foldl (fun m t=>Nat.lor m (pD t)) 0) (Nat.lor (E9 P a) (E9 P b)))
 | _=>0
def Ic:List ResultVar→Nat
 | []=>0
 | .tmp t::l | .cell t _::l=>Nat.lor (pD t) (Ic l)
def F9(m:Nat):Nat→Nat→List Nat
 | 0,_=>[]
 | n+1,k=>bif m.testBit k then k::F9 m n (k+1)else F9 m n (k+1)
def Di(fn:Func):Nat:=fn.params.size+fn.nfree
def BS(P:Program)(fn:Func):List Tmp:=
 List.range (Di fn)++match fn.body with
 | none=>[]
 | some c=>F9 (Nat.lor (E9 P c) (Ic fn.results.toList)) (fn.ntmps - Di fn) (Di fn)
def CA:List Tmp→Tmp→Option Nat
 | [],_=>none
 | a::l,t=>bif Nat.beq a t then some 0 else (CA l t).bind fun j=>some (j+1)
def P4(P:Program)(o:Oper):Bool:=match Bi P o.op with
 | some (s,_)=>s.isEff
 | none=>true
def VA(b:Array Nat)(done:Nat)(i:Nat):Bool:=Nat.beq (Nat.land (b.getD i 0) done) (b.getD i 0)
def Ts(P:Program)(ops:Array Oper)(b:Array Nat):Nat→Nat→List Nat→List Nat→List Nat
 | 0,_,_,acc=>acc.reverse
 | f+1,done,todo,acc =>
  match todo.find? fun i=>VA b done i && !P4 P (ops.getD i default)with
  | some i=>Ts P ops b f (done+2 ^ i) (todo.filter fun j=>!Nat.beq j i) (i::acc)
  | none=>match todo.find? fun i=>VA b done i with
   | some i=>Ts P ops b f (done+2 ^ i) (todo.filter fun j=>!Nat.beq j i) (i::acc)
   | none=>acc.reverse
def eu(P:Program)(ops:Array Oper):List Nat:=Ts P ops (Region.before ops) ops.size 0 (List.range ops.size) []
def GT(P:Program)(o:Oper):List Tmp:=o.dst.toList++((match Bi P o.op with
 | some (_,xs)=>xs
 | none=>[]).filterMap fun x:Operand=>match x with
  | .tmp t=>some t
  | _=>none)
def Uz(o:Oper):List Nat:=match o.guard with
 | some (j,_)=>[j]
 | none=>[]
def PE(P:Program)(ops:Array Oper)(b:Array Nat)(before:List Nat)(i:Nat):Bool:=
 let o:=ops.getD i default
 let anc:=b.getD i 0
 Nat.blt i ops.size && !before.contains i &&
 (List.range ops.size).all (fun j=>!anc.testBit j || before.contains j) &&
 o.after.all (fun e=>!Region.binds .any e || before.contains e.on) &&
 before.all (fun j=>!P4 P (ops.getD j default) || anc.testBit j) &&
 (Uz o).all (fun j=>anc.testBit j) &&
 before.all (fun j=>let p:=ops.getD j default
  (match o.dst with
   | none=>true
   | some d=>p.dst != some d && (!(GT P p).contains d || anc.testBit j)) &&
  (match p.dst with
   | none=>true
   | some d=>!(GT P o).contains d || anc.testBit j))
def Fa(P:Program)(ops:Array Oper)(b:Array Nat):List Nat→List Nat→Bool
 | before,[]=>Nat.beq before.length ops.size
 | before,i::l=>PE P ops b before i && Fa P ops b (before++[i]) l
inductive Ki where
 | push | set (j:Nat)
structure Gl where
 guard:Option (CX×Bool)
 sh:Sh
 xs:List CX
 ans:CX
structure AA where
 guard:Option (CX×Bool)
 sh:Sh
 xs:List CX
 dst:Ki
 again:List Gl
structure cY where
 map:List (Tmp×CX)
 cnt:Nat
def Es:List (Tmp×CX)→Tmp→Option CX
 | [],_=>none
 | (a,x)::l,t=>bif Nat.beq a t then some x else Es l t
def Cm(cnt:Nat):CX→CX
 | .loc p=>.loc (cnt - 1 - p)
 | x=>x
def Ev(vars:List Tmp)(c:cY)(t:Tmp):Option CX:=
 match Es c.map t with
 | some x=>some x
 | none=>(CA vars t).bind fun j=>some (.var j)
def Fn(vars:List Tmp)(c:cY):Operand→Option CX
 | .tmp t=>Ev vars c t
 | .const v=>(ofValue v).bind fun a=>some (.const a)
 | .global _=>none
 | .func f=>some (.const (.func f [] []))
def Ia(vars:List Tmp)(c:cY):List Operand→Option (List CX)
 | []=>some []
 | x::l=>(Fn vars c x).bind fun a=>(Ia vars c l).bind fun r=>some (a::r)
def isVar(j:Nat):CX→Bool
 | .var i=>Nat.beq i j
 | _=>false
def JK(j:Nat):List (Tmp×CX)→Bool
 | []=>true
 | (_,x)::l=>!isVar j x && JK j l
def Kp(vars:List Tmp)(later:List (Option Tmp))(o:Oper)(x:CX):Bool:=
 (match o.op with | .move _=>true | _=>false) && o.guard.isNone &&
 (match o.dst with | some d=>(CA vars d).isNone | none=>false) &&
 (match x with
  | .var j=>!(later.any fun d=>match d with
   | some t=>match CA vars t with
    | some i=>Nat.beq i j
    | none=>false
   | none=>false)
  | _=>true)
def Hs(cnt:Nat):Option (CX×Bool)→Option (CX×Bool)
 | none=>none
 | some (x,b)=>some (Cm cnt x,b)
def JQ(cnt:Nat)(r:Gl):Gl:={ guard:=Hs cnt r.guard,sh:=r.sh,xs:=r.xs.map (Cm cnt),ans:=Cm cnt r.ans }
def O4(j:Nat)(r:Gl):Bool:=(match r.guard with | none=>true | some (x,_)=>!isVar j x) && r.xs.all fun x=>!isVar j x
def E5(P:Program)(nt:Nat)(vars:List Tmp)(ops:Array Oper)(b:Array Nat)(draw:Bool):List Nat→cY→List (Nat×Gl)→Option (List AA)
  | [],_,_=>some []
  | i::l,c,rs=>(ops[i]?).bind fun o=>(Bi P o.op).bind fun sh=>(Ia vars c sh.2).bind fun xs =>
    match (match xs with | [x]=>bif Kp vars (l.map fun j=>(ops.getD j default).dst) o x then some x else none | _=>none),o.dst with
    | some x,some d=>AG (Nat.blt d nt) (E5 P nt vars ops b draw l { c with map:=(d,x)::c.map } rs)
    | _,_ =>
      (match o.guard with
        | none=>some none
        | some (j,want)=>(ops[j]?).bind fun p=>p.dst.bind fun d=>(Ev vars c d).bind fun x=>some (some (x,want))).bind fun g =>
      (match o.dst with
        | none=>some (Ki.push,{ c with cnt:=c.cnt+1 })
        | some d=>AG (Nat.blt d nt) <| match CA vars d with
          | some j=>AG (JK j c.map && rs.all fun r=>O4 j r.2) (some (Ki.set j,c))
          | none=>some (Ki.push,{ map:=(d,.loc c.cnt)::c.map,cnt:=c.cnt+1 })).bind fun q =>
      let ag:=match draw,sh.1.isEff with
        | true,true=>rs.filter fun(r:Nat×Gl)=>!(b.getD i 0).testBit r.1
        | _,_=>[]
      let rd:=draw && sh.1.isRead
      AG (!rd || (match q.1 with | .push=>true | .set _=>false)) <|
      (E5 P nt vars ops b draw l q.2 (bif rd then (i,{ guard:=g,sh:=sh.1,xs,ans:=.loc c.cnt })::rs else rs)).bind fun r =>
        some ({ guard:=Hs c.cnt g,sh:=sh.1,xs:=xs.map (Cm c.cnt),dst:=q.1,again:=ag.map fun(r:Nat×Gl)=>JQ q.2.cnt r.2 }::r)
inductive Ac where
 | skip
 | ops (l:List AA)
 | seq (a b:Ac)
 | cond (x:CX) (a b:Ac)
 | block (id:Nat) (c:Ac)
 | loop (c:Ac)
 | rangeFunc (fn:FuncId) (f:CX) (params:Array Tmp) (assign body:Code)
 | exit (id:Nat)
 | ret
 | never
def kF:Option (List AA)→Ac
 | some l=>.ops l
 | none=>.never
def BK(P:Program)(fn:FuncId)(nt:Nat)(vars:List Tmp):Code→Ac
 | .skip | .label _=>.skip
 | .ret=>.ret
 | .exit id=>.exit id
 | .goto _ | .refuse _=>.never
 | .region _ ops draw=>match draw with
  | false=>kF (E5 P nt vars ops #[] false (List.range ops.size) ⟨[],0⟩ [])
  | true=>kF (AG (Fa P ops (Region.before ops) [] (eu P ops)) (E5 P nt vars ops (Region.before ops) true (eu P ops) ⟨[],0⟩ []))
 | .seq a b=>.seq (BK P fn nt vars a) (BK P fn nt vars b)
 | .cond c a b=>match Fn vars ⟨[],0⟩ c with
  | some z=>.cond z (BK P fn nt vars a) (BK P fn nt vars b)
  | none=>.never
 | .block id c=>.block id (BK P fn nt vars c)
 | .loop c=>.loop (BK P fn nt vars c)
 | .scope c=>BK P fn nt vars c
 | .rangeFunc f ps a b=>match Fn vars ⟨[],0⟩ f with
  | some x=>.rangeFunc fn x ps a b
  | none=>.never
structure Aw where
 na:Nat
 nv:Nat
 body:Ac
 results:List (CX×Option TypeId)
def DC(vars:List Tmp):List ResultVar→Option (List (CX×Option TypeId))
 | []=>some []
 | .tmp t::l=>(CA vars t).bind fun j=>(DC vars l).bind fun r=>some ((.var j,none)::r)
 | .cell t ty::l=>(CA vars t).bind fun j=>(DC vars l).bind fun r=>some ((.var j,some ty)::r)
def AQ(P:Program)(f:FuncId):Option Aw:=(P.funcs[f]?).bind fun fn=>fn.body.bind fun c =>
 AG (Nat.ble (Di fn) fn.ntmps) <|
 let vars:=BS P fn
 (DC vars fn.results.toList).bind fun r =>
  some { na:=Di fn,nv:=vars.length,body:=BK P f fn.ntmps vars c,results:=r }
def U7 (l:List AV):Nat→AV:=
 List.rec (fun _=>Ar) (fun a _ ih i=>Nat.rec a (fun i _=>ih i) i) l
def Mq (v:AV) (l:List AV):Nat→List AV:=
 List.rec (fun _=>[]) (fun a l ih i=>Nat.rec (v::l) (fun i _=>a::ih i) i) l
def Dw (loc var:List AV) (x:CX):AV:=
 match x with
 | .loc i=>U7 loc i
 | .var j=>U7 var j
 | .const v=>v
def EK (loc var:List AV) (l:List CX):List AV:=
 List.rec [] (fun x _ ih=>Dw loc var x::ih) l
inductive K9 where
 | normal | exit (id:Nat) | ret
structure A9 where
 exit:K9
 var:List AV
 marks:List Nat
 st:AE
def E8:AV→AV→Bool
 | .bool a,.bool b=>a == b
 | .int k a,.int k' b=>B8 k k' && Vf a b
 | .str a,.str b=>Gh a b
 | .ptr none,.ptr none=>true
 | .ptr (some (i,o)),.ptr (some (j,p))=>Nat.beq i j && Nat.beq o p
 | .slice none n (some c),.slice none n' (some c')=>Nat.beq n n' && Nat.beq c c'
 | .slice none n none,.slice none n' none=>Nat.beq n n'
 | .slice (some (i,o)) n none,.slice (some (j,p)) n' none=>Nat.beq i j && Nat.beq o p && Nat.beq n n'
 | .slice (some (i,o)) n (some c),.slice (some (j,p)) n' (some c')=>Nat.beq i j && Nat.beq o p && Nat.beq n n' && Nat.beq c c'
 | .map none,.map none=>true
 | .map (some i),.map (some j)=>Nat.beq i j
 | .func f a c,.func g b d=>Nat.beq f g && eqAs a b && eqAs c d
 | .nilFunc,.nilFunc=>true
 | .nilIface,.nilIface=>true
 | .yield i,.yield j=>Nat.beq i j
 | .agg a,.agg b=>eqAs a b
 | .tuple a,.tuple b=>eqAs a b
 | _,_=>false
where
 eqAs:List AV→List AV→Bool
 | [],[]=>true
 | a::x,b::y=>E8 a b && eqAs x y
 | _,_=>false
abbrev cg:=FuncId→List AV→AE→Option (AV×AE)
structure BI where
 P:Program
 nat:cg
structure EH where
 code:Option Nat→Ac→List AV→List Nat→AE→Option A9
 call:FuncId→List AV→AE→Option (AV×AE)
 round:Nat→List AV→AE→Option (AV×AE)
def G0(F:EH)(f:AV)(args:List AV)(s:AE):Option (AV×AE):=
 match f with
 | .func f first cap=>F.call f (first++(args++cap)) s
 | .yield l=>F.round l args s
 | _=>none
def EG(s:AE)(x:Option AV):Option (AV×AE):=match x with
 | some v=>some (v,s)
 | none=>none
def one{α:Type}(f:AV→Option α):List AV→Option α
 | [a]=>f a
 | _=>none
def Eu(sh:Sh)(xs:List AV)(s:AE):Option AV:=
 match sh with
 | .r1 f=>one (f s) xs
 | .r f=>f s xs
 | _=>none
def QR(s:AE)(r:Option (C8×Made)):Option (AV×AE):=match r with
 | some p=>some (p.2.val s.next,newObj s p.1)
 | none=>none
def Mu {α:Type} (f:CX→Option α) (xs:List CX):Option α:=List.rec none (fun x _ _=>f x) xs
def KP {α:Type} (f:CX→CX→Option α) (xs:List CX):Option α:=Mu (fun x=>Mu (f x) xs.tail) xs
def pn (f:AV→Option AV) (xs:List CX) (loc var:List AV) (s:AE):Option (AV×AE):=Mu (fun x=>EG s (f (Dw loc var x))) xs
def po (f:AV→AV→Option AV) (xs:List CX) (loc var:List AV) (s:AE):Option (AV×AE):=KP (fun x y=>EG s (f (Dw loc var x) (Dw loc var y))) xs
def pp (f:AE→AV→Option AV) (xs:List CX) (loc var:List AV) (s:AE):Option (AV×AE):=Mu (fun x=>EG s (f s (Dw loc var x))) xs
def shV (F:EH) (xs:List CX) (loc var:List AV) (s:AE):Option (AV×AE):=Mu (fun x=>G0 F (Dw loc var x) (EK loc var xs.tail) s) xs
def md (F:EH) (sh:Sh) (xs:List CX) (loc var:List AV) (s:AE):Option (AV×AE):=
 match sh with
 | .p1 f=>pn f xs loc var s
 | .p2 f=>po f xs loc var s
 | .p f=>EG s (f (EK loc var xs))
 | .r1 f=>pp f xs loc var s
 | .r f=>EG s (f s (EK loc var xs))
 | .mk f=>QR s (f (EK loc var xs))
 | .e f=>f s (EK loc var xs)
 | .call f=>F.call f (EK loc var xs) s
 | .callv=>shV F xs loc var s
def mr(want:Bool):AV→Bool
 | .bool b=>b == want
 | _=>false
def Bj (loc var:List AV) (g:Option (CX×Bool)):Bool:=
 match g with
 | none=>true
 | some p=>mr p.2 (Dw loc var p.1)
def VD(x:Option AV)(v:AV):Bool:=match x with
 | some u=>E8 u v
 | none=>false
def GL (s:AE) (loc var:List AV) (r:Gl):Bool:=
 !Bj loc var r.guard || VD (Eu r.sh (EK loc var r.xs) s) (Dw loc var r.ans)
def Eg (s:AE) (loc var:List AV) (l:List Gl):Bool:=
 List.rec true (fun r _ ih=>GL s loc var r && ih) l
abbrev Wv:=List AV→List AV→AE→Option (List AV×AE)
def DI (ag:List Gl) (d:Ki) (k:Wv) (loc var:List AV) (v:AV) (s:AE):Option (List AV×AE):=
 match d with
 | .push=>bif Eg s (v::loc) var ag then k (v::loc) var s else none
 | .set j=>bif Eg s loc (Mq v var j) ag then k loc (Mq v var j) s else none
def Kz (it:AA) (k:Wv) (loc var:List AV) (r:Option (AV×AE)):Option (List AV×AE):=
 match r with
 | none=>none
 | some p=>DI it.again it.dst k loc var p.1 p.2
def MF (F:EH) (it:AA) (k:Wv) (loc var:List AV) (s:AE):Option (List AV×AE):=
 match Bj loc var it.guard with
 | true=>Kz it k loc var (md F it.sh it.xs loc var s)
 | false=>DI [] it.dst k loc var Ar s
def El (F:EH) (l:List AA):Wv:=
 List.rec (fun _ var s=>some (var,s)) (fun it _ ih loc var s=>MF F it ih loc var s) l
def Ql(l:List AV):Nat→List AV
 | 0=>[]
 | n+1=>match l with
  | []=>Ar::Ql [] n
  | a::l=>a::Ql l n
def B7 (P:Program) (s:AE) (var:List AV):List (CX×Option TypeId)→Option (List AV)
 | []=>some []
 | (x,none)::l=>(B7 P s var l).bind fun r=>some (Dw [] var x::r)
 | (x,some t)::l=>(AC P s t (Dw [] var x)).bind fun v=>(B7 P s var l).bind fun r=>some (v::r)
def Bp:List AV→AV
 | [v]=>v
 | l=>.tuple l
def unmark(s:AE):List Nat→Option AE
 | []=>some s
 | i::l=>match s.heap.get i with
  | some .mark=>unmark (Bm s i) l
  | _=>none
def DV:K9→Option Code
 | .normal=>none
 | .ret=>some .ret
 | .exit id=>some (.exit id)
def DN (vars:List Tmp) (var:List AV):List Tmp→List AV→Option (List AV)
 | [],[]=>some var
 | t::ts,v::vs=>(CA vars t).bind fun j=>DN vars (Mq v var j) ts vs
 | _,_=>none
def A7(s:AE)(l:Nat):Option Fg:=match s.heap.get l with
 | some (.loop r)=>some r
 | _=>none
def FQ(P:Program)(f:FuncId)(c:Code):Option Ac:=(P.funcs[f]?).bind fun fn=>some (BK P f fn.ntmps (BS P fn) c)
def Dl(P:Program)(f:FuncId):List Tmp:=match P.funcs[f]? with
 | some fn=>BS P fn
 | none=>[]
def df(marks:List Nat)(r:Option (List AV×AE)):Option A9:=match r with
 | some p=>some ⟨.normal,p.1,marks,p.2⟩
 | none=>none
def H0(F:EH)(rnd:Option Nat)(b:Ac)(r:A9):Option A9:=match r.exit with
 | .normal=>F.code rnd b r.var r.marks r.st
 | _=>some r
def Iu(F:EH)(rnd:Option Nat)(b:Ac)(r:Option A9):Option A9:=match r with
 | some r=>H0 F rnd b r
 | none=>none
def Pr(F:EH)(rnd:Option Nat)(a b:Ac)(var:List AV)(marks:List Nat)(s:AE)(v:AV):Option A9:=match v with
 | .bool t=>match t with
  | true=>F.code rnd a var marks s
  | false=>F.code rnd b var marks s
 | _=>none
def Kr(id:Nat)(r:A9):Option A9:=match r.exit with
 | .exit id'=>bif Nat.beq id' id then some ⟨.normal,r.var,r.marks,r.st⟩else some r
 | _=>some r
def Lg(id:Nat)(r:Option A9):Option A9:=match r with
 | some r=>Kr id r
 | none=>none
def Gx(var:List AV)(marks:List Nat)(s:AE)(c:Option Code):Option A9:=match c with
 | none=>some ⟨.normal,var,marks,s⟩
 | some .ret=>some ⟨.ret,var,marks,s⟩
 | some (.exit id)=>some ⟨.exit id,var,marks,s⟩
 | some _=>none
def MD:LoopState→Bool
 | .busy=>true
 | _=>false
def Kx:LoopState→Bool
 | .ready=>true
 | _=>false
def HZ(var:List AV)(marks:List Nat)(l:Nat)(q:Option (AV×AE)):Option A9:=
 q.bind fun q=>(A7 q.2 l).bind fun r=>bif MD r.state then none else
  Gx var marks (setObj q.2 l (.loop { r with state:=.exhausted })) r.pending
def Fi(F:EH)(var:List AV)(f:AV)(params:Array Tmp)(assign body:Code)(fn:FuncId)(dfr:Nat)(marks:List Nat)(s:AE):Option A9:=
 HZ var marks s.next (G0 { F with round:=fun _ _ _=>none } f [.yield s.next] (newObj s (.loop { state:=.ready,pending:=none,fn,var,params,assign,body,dfr })))
def Lh(F:EH)(rnd:Option Nat)(fn:FuncId)(f:AV)(params:Array Tmp)(assign body:Code)(var:List AV)(marks:List Nat)(s:AE):Option A9:=
 match rnd with
 | some l=>(A7 s l).bind fun r=>Fi F var f params assign body fn r.dfr marks s
 | none=>Fi F var f params assign body fn s.next (s.next::marks) (newObj s .mark)
def DQ (F:EH) (rnd:Option Nat) (c:Ac) (var:List AV) (marks:List Nat) (s:AE):Option A9:=
 match c with
 | .skip=>some ⟨.normal,var,marks,s⟩
 | .ret=>some ⟨.ret,var,marks,s⟩
 | .exit id=>some ⟨.exit id,var,marks,s⟩
 | .never=>none
 | .ops l=>df marks (El F l [] var s)
 | .seq a b=>Iu F rnd b (F.code rnd a var marks s)
 | .cond x a b=>Pr F rnd a b var marks s (Dw [] var x)
 | .block id body=>Lg id (F.code rnd body var marks s)
 | .loop body=>Iu F rnd (.loop body) (F.code rnd body var marks s)
 | .rangeFunc fn f params assign body=>Lh F rnd fn (Dw [] var f) params assign body var marks s
def U0:K9→Bool
 | .normal | .ret=>true
 | .exit _=>false
def Ks (P:Program) (cf:Aw) (r:Option A9):Option (AV×AE):=
 r.bind fun r=>bif U0 r.exit then (unmark r.st r.marks).bind fun s=>(B7 P s r.var cf.results).bind fun l=>some (Bp l,s)else none
def Gy (P:Program) (F:EH) (args:List AV) (s:AE) (cf:Option Aw):Option (AV×AE):=
 cf.bind fun cf=>bif Nat.beq args.length cf.na then Ks P cf (F.code none cf.body (Ql args cf.nv) [] s)else none
def ID (E:BI) (F:EH) (f:FuncId) (args:List AV) (s:AE):Option (AV×AE):=
 match E.nat f args s with
 | some p=>some p
 | none=>Gy E.P F args s (AQ E.P f)
def JC:K9→Bool
 | .normal=>true
 | _=>false
def Hp:Option Code→LoopState
 | none=>.ready
 | some _=>.done
def JS(l:Nat)(q:Option A9):Option (AV×AE):=q.bind fun q=>(A7 q.st l).bind fun r =>
 some (.bool (DV q.exit).isNone,setObj q.st l (.loop { r with state:=Hp (DV q.exit),pending:=DV q.exit }))
def Hn(F:EH)(l:Nat)(cb:Ac)(q:Option A9):Option (AV×AE):=q.bind fun q=>bif JC q.exit then
  (A7 q.st l).bind fun r=>bif Kx r.state then JS l (F.code (some l) cb q.var q.marks (setObj q.st l (.loop { r with state:=.busy })))else none
 else none
def Kb (E:BI) (F:EH) (l:Nat) (args:List AV) (s:AE):Option (AV×AE):=
 (A7 s l).bind fun r=>(DN (Dl E.P r.fn) r.var r.params.toList args).bind fun var =>
  (FQ E.P r.fn r.assign).bind fun ca=>(FQ E.P r.fn r.body).bind fun cb=>Hn F l cb (F.code (some l) ca var [] s)
def oe:EH:=⟨fun _ _ _ _ _=>none,fun _ _ _=>none,fun _ _ _=>none⟩
def oY (E:BI) (F:EH):EH:=⟨DQ F,ID E F,Kb E F⟩
def ER (E:BI) (n:Nat):EH:=Nat.rec oe (fun _ F=>oY E F) n
end
end Go.Proofs.Ytilhhmkdcoajnaa.Am
set_option linter.unusedVariables false
set_option linter.unusedSimpArgs false
namespace Go.Proofs.Ytilhhmkdcoajnaa.Am
open Go
noncomputable section
structure EH.le(F G:EH):Prop where
 code:∀ {rnd:Option Nat} {c:Ac} {var:List AV} {marks:List Nat} {s:AE} {r:A9},F.code rnd c var marks s=some r→G.code rnd c var marks s=some r
 call:∀ {f:FuncId} {aS:List AV} {s:AE} {p:AV×AE},F.call f aS s=some p→G.call f aS s=some p
 round:∀ {l:Nat} {aS:List AV} {s:AE} {p:AV×AE},F.round l aS s=some p→G.round l aS s=some p
section
variable{F G:EH}
theorem Lj(h:F.le G){f:AV}{aS:List AV}{s:AE}{p:AV×AE}(hc:G0 F f aS s=some p):G0 G f aS s=some p:=by
 unfold G0 at hc ⊢
 split at hc
 ·exact h.call hc
 ·exact h.round hc
 ·cases hc
theorem RE(h:F.le G){sh:Sh}{xs:List CX}{loc var:List AV}{s:AE}{p:AV×AE}(hc:md F sh xs loc var s=some p):md G sh xs loc var s=some p:=by
 cases sh<;>first | exact hc | exact h.call hc | skip
 cases xs with
 | nil=>cases hc
 | cons x xs=>exact Lj h hc
theorem HC(it:AA)(l:List AA)(loc var:List AV)(s:AE):El F (it::l) loc var s=MF F it (El F l) loc var s:=rfl
theorem JE{k k':Wv}(hk:∀loc var s p,k loc var s=some p→k' loc var s=some p){ag:List Gl}{d:Ki}{loc var:List AV}{v:AV}{s:AE}{p:List AV×AE}(h:DI ag d k loc var v s=some p):DI ag d k' loc var v s=some p:=by
  cases d with
  | push =>
    simp only[DI]at h ⊢
    cases hb:Eg s (v::loc) var ag with
    | true=>rw[hb]at h;exact hk _ _ _ _ h
    | false=>rw[hb]at h;cases h
  | set j =>
    simp only[DI]at h ⊢
    cases hb:Eg s loc (Mq v var j) ag with
    | true=>rw[hb]at h;exact hk _ _ _ _ h
    | false=>rw[hb]at h;cases h
theorem HD(h:F.le G):∀ (l:List AA)(loc var:List AV)(s:AE)(p:List AV×AE),El F l loc var s=some p→El G l loc var s=some p:=by
 intro l
 induction l with
 | nil=>intro loc var s p hp;exact hp
 | cons it l ih =>
  intro loc var s p hp
  rw[HC]at hp ⊢
  unfold MF at hp ⊢
  cases hw:Bj loc var it.guard with
  | true =>
   rw[hw]at hp
   simp only at hp ⊢
   unfold Kz at hp ⊢
   cases hs:md F it.sh it.xs loc var s with
   | none=>rw[hs]at hp;cases hp
   | some q=>rw[hs]at hp;rw[RE h hs];exact JE ih hp
  | false =>
   rw[hw]at hp
   exact JE ih hp
theorem Li(h:F.le G){rnd:Option Nat}{b:Ac}{r res:A9}(hc:H0 F rnd b r=some res):H0 G rnd b r=some res:=by
 unfold H0 at hc ⊢
 split at hc
 ·exact h.code hc
 ·exact hc
theorem It(h:F.le G){var:List AV}{f:AV}{params:Array Tmp}{assign body:Code}{fn:FuncId}{dfr:Nat}{marks:List Nat}{s:AE}{res:A9}
  (hc:Fi F var f params assign body fn dfr marks s=some res):Fi G var f params assign body fn dfr marks s=some res:=by
 unfold Fi HZ at hc ⊢
 simp only[qh]at hc ⊢
 obtain⟨q,h1,rest⟩:=hc
 have h':EH.le { F with round:=fun _ _ _=>none } { G with round:=fun _ _ _=>none }:=⟨h.code,h.call,fun h=>by cases h⟩
 exact⟨q,Lj h' h1,rest⟩
theorem UB(h:F.le G){rnd:Option Nat}{c:Ac}{var:List AV}{marks:List Nat}{s:AE}{res:A9}(hc:DQ F rnd c var marks s=some res):DQ G rnd c var marks s=some res:=by
  cases c with
  | skip=>exact hc
  | ret=>exact hc
  | exit id=>exact hc
  | never=>exact hc
  | ops l =>
    simp only[DQ,df]at hc ⊢
    cases hi:El F l [] var s with
    | none=>rw[hi]at hc;cases hc
    | some p=>rw[hi]at hc;rw[HD h _ _ _ _ _ hi];exact hc
  | seq a b =>
    simp only[DQ]at hc ⊢
    unfold Iu at hc ⊢
    cases ha:F.code rnd a var marks s with
    | none=>rw[ha]at hc;cases hc
    | some r=>rw[ha]at hc;rw[h.code ha];exact Li h hc
  | cond x a b =>
    simp only[DQ]at hc ⊢
    unfold Pr at hc ⊢
    split at hc
    · split at hc
      · exact h.code hc
      · exact h.code hc
    · cases hc
  | block id c =>
    simp only[DQ]at hc ⊢
    unfold Lg at hc ⊢
    cases ha:F.code rnd c var marks s with
    | none=>rw[ha]at hc;cases hc
    | some r=>rw[ha]at hc;rw[h.code ha];exact hc
  | loop c =>
    simp only[DQ]at hc ⊢
    unfold Iu at hc ⊢
    cases ha:F.code rnd c var marks s with
    | none=>rw[ha]at hc;cases hc
    | some r=>rw[ha]at hc;rw[h.code ha];exact Li h hc
  | rangeFunc fn f params assign body =>
    simp only[DQ]at hc ⊢
    unfold Lh at hc ⊢
    cases rnd with
    | none=>exact It h hc
    | some l =>
      simp only[qh]at hc ⊢
      obtain⟨r,h1,h2⟩:=hc
      exact⟨r,h1,It h h2⟩
theorem UC(h:F.le G){E:BI}{f:FuncId}{aS:List AV}{s:AE}{p:AV×AE}(hc:ID E F f aS s=some p):ID E G f aS s=some p:=by
 unfold ID at hc ⊢
 cases hn:E.nat f aS s with
 | some q=>rw[hn]at hc;exact hc
 | none =>
  rw[hn]at hc
  simp only at hc ⊢
  unfold Gy at hc ⊢
  simp only[qh]at hc ⊢
  obtain⟨cf,h1,h2⟩:=hc
  refine⟨cf,h1,?_⟩
  cases hb:Nat.beq aS.length cf.na with
  | false=>rw[hb]at h2;cases h2
  | true =>
   rw[hb]at h2
   simp only[cond_true]at h2 ⊢
   unfold Ks at h2 ⊢
   simp only[qh]at h2 ⊢
   obtain⟨r,h3,h4⟩:=h2
   exact⟨r,h.code h3,h4⟩
theorem UD(h:F.le G){E:BI}{l:Nat}{aS:List AV}{s:AE}{p:AV×AE}(hc:Kb E F l aS s=some p):Kb E G l aS s=some p:=by
 unfold Kb at hc ⊢
 simp only[qh]at hc ⊢
 obtain⟨r,h1,var,h2,ca,h3,cb,h4,hc⟩:=hc
 refine⟨r,h1,var,h2,ca,h3,cb,h4,?_⟩
 unfold Hn at hc ⊢
 simp only[qh]at hc ⊢
 obtain⟨q,h5,hc⟩:=hc
 refine⟨q,h.code h5,?_⟩
 cases hn:JC q.exit with
 | false=>rw[hn]at hc;cases hc
 | true =>
  rw[hn]at hc
  simp only[cond_true,qh]at hc ⊢
  obtain⟨r2,h6,hc⟩:=hc
  refine⟨r2,h6,?_⟩
  cases hr:Kx r2.state with
  | false=>rw[hr]at hc;cases hc
  | true =>
   rw[hr]at hc
   simp only[cond_true]at hc ⊢
   unfold JS at hc ⊢
   simp only[qh]at hc ⊢
   obtain⟨q2,h7,rest⟩:=hc
   exact⟨q2,h.code h7,rest⟩
end
theorem PA(E:BI):∀n,(ER E n).le (ER E (n+1)):=by
 intro n
 induction n with
 | zero=>exact⟨fun h=>(by cases h),fun h=>(by cases h),fun h=>(by cases h)⟩
 | succ n ih=>exact⟨fun h=>UB ih h,fun h=>UC ih h,fun h=>UD ih h⟩
theorem EH.le.refl(F:EH):F.le F:=⟨id,id,id⟩
theorem EH.le.trans{F G H:EH}(h:F.le G)(k:G.le H):F.le H:=⟨fun x=>k.code (h.code x),fun x=>k.call (h.call x),fun x=>k.round (h.round x)⟩
theorem FB(E:BI){n m:Nat}(h:n≤m):(ER E n).le (ER E m):=by
 induction h with
 | refl=>exact EH.le.refl _
 | step _ ih=>exact ih.trans (PA E _)
section
variable(E:BI)
def WC(rnd:Option Nat)(c:Ac)(Q:A9→Prop)(var:List AV)(marks:List Nat)(s:AE):Prop:=∃n r,(ER E n).code rnd c var marks s=some r∧Q r
def WI(l:List AA)(K:List AV→AE→Prop)(loc var:List AV)(s:AE):Prop:=∃n p,El (ER E n) l loc var s=some p∧K p.1 p.2
def WF(f:FuncId)(aS:List AV)(K:AV→AE→Prop)(s:AE):Prop:=∃n p,(ER E n).call f aS s=some p∧K p.1 p.2
def WR(l:Nat)(aS:List AV)(K:AV→AE→Prop)(s:AE):Prop:=∃n p,(ER E n).round l aS s=some p∧K p.1 p.2
end
section
variable{E:BI}{rnd:Option Nat}{Q Q':A9→Prop}{var loc:List AV}{marks:List Nat}{s:AE}{K K':AV→AE→Prop}{KI:List AV→AE→Prop}
theorem WC.mono{c:Ac}(h:WC E rnd c Q var marks s)(hq:∀r,Q r→Q' r):WC E rnd c Q' var marks s:=let ⟨n,r,h1,h2⟩:=h;⟨n,r,h1,hq r h2⟩
theorem WF.mono{f:FuncId}{aS:List AV}(h:WF E f aS K s)(hq:∀v s',K v s'→K' v s'):WF E f aS K' s:=let ⟨n,r,h1,h2⟩:=h;⟨n,r,h1,hq _ _ h2⟩
theorem WC.skip(h:Q ⟨.normal,var,marks,s⟩):WC E rnd .skip Q var marks s:=⟨1,_,rfl,h⟩
theorem WC.ret(h:Q ⟨.ret,var,marks,s⟩):WC E rnd .ret Q var marks s:=⟨1,_,rfl,h⟩
theorem WC.exit{id:Nat}(h:Q ⟨.exit id,var,marks,s⟩):WC E rnd (.exit id) Q var marks s:=⟨1,_,rfl,h⟩
def VN(E:BI)(rnd:Option Nat)(b:Ac)(Q:A9→Prop)(r:A9):Prop:=match r.exit with
 | .normal=>WC E rnd b Q r.var r.marks r.st
 | _=>Q r
theorem RC{a b:Ac}{n:Nat}{r:A9}(h1:(ER E n).code rnd a var marks s=some r)(h2:VN E rnd b Q r):∃m res,Iu (ER E m) rnd b ((ER E m).code rnd a var marks s)=some res∧Q res:=by
 unfold VN at h2
 cases he:r.exit with
 | normal =>
  rw[he]at h2
  obtain⟨m,res,h3,h4⟩:=h2
  refine⟨max n m,res,?_,h4⟩
  rw[(FB E (Nat.le_max_left n m)).code h1]
  simp only[Iu,H0,he]
  exact(FB E (Nat.le_max_right n m)).code h3
 | exit id=>rw[he]at h2;exact⟨n,r,by rw[h1];simp only[Iu,H0,he],h2⟩
 | ret=>rw[he]at h2;exact⟨n,r,by rw[h1];simp only[Iu,H0,he],h2⟩
theorem WC.seq{a b:Ac}(h:WC E rnd a (VN E rnd b Q) var marks s):WC E rnd (.seq a b) Q var marks s:=by
 obtain⟨n,r,h1,h2⟩:=h
 obtain⟨m,res,h3,h4⟩:=RC h1 h2
 exact⟨m+1,res,h3,h4⟩
theorem WC.loop{c:Ac}(h:WC E rnd c (VN E rnd (.loop c) Q) var marks s):WC E rnd (.loop c) Q var marks s:=by
 obtain⟨n,r,h1,h2⟩:=h
 obtain⟨m,res,h3,h4⟩:=RC h1 h2
 exact⟨m+1,res,h3,h4⟩
theorem WC.cond{x:CX}{a b:Ac}{t:Bool}(hx:Dw [] var x=.bool t)(h:WC E rnd (bif t then a else b) Q var marks s):WC E rnd (.cond x a b) Q var marks s:=by
 obtain⟨n,r,h1,h2⟩:=h
 refine⟨n+1,r,?_,h2⟩
 show DQ (ER E n) rnd (.cond x a b) var marks s=some r
 simp only[DQ,Pr,hx]
 cases t<;>exact h1
def CS(id:Nat)(Q:A9→Prop)(r:A9):Prop:=match r.exit with
 | .exit id'=>bif Nat.beq id' id then Q ⟨.normal,r.var,r.marks,r.st⟩else Q r
 | _=>Q r
theorem WC.block{id:Nat}{c:Ac}(h:WC E rnd c (CS id Q) var marks s):WC E rnd (.block id c) Q var marks s:=by
 obtain⟨n,r,h1,h2⟩:=h
 unfold CS at h2
 have:∃res,Kr id r=some res∧Q res:=by
  unfold Kr
  split at h2
  ·rename_i id' he
   try simp only[he]
   cases hb:Nat.beq id' id with
   | true=>rw[hb]at h2;exact⟨_,rfl,h2⟩
   | false=>rw[hb]at h2;exact⟨_,rfl,h2⟩
  ·rename_i hne
   cases he:r.exit with
   | normal=>exact⟨r,rfl,h2⟩
   | ret=>exact⟨r,rfl,h2⟩
   | exit id'=>exact absurd he (hne id')
 obtain⟨res,h3,h4⟩:=this
 refine⟨n+1,res,?_,h4⟩
 show DQ (ER E n) rnd (.block id c) var marks s=some res
 simp only[DQ,Lg,h1,h3]
theorem WC.ops{l:List AA}(h:WI E l (fun v s'=>Q ⟨.normal,v,marks,s'⟩) [] var s):WC E rnd (.ops l) Q var marks s:=by
 obtain⟨n,p,h1,h2⟩:=h
 refine⟨n+1,⟨.normal,p.1,marks,p.2⟩,?_,h2⟩
 show DQ (ER E n) rnd (.ops l) var marks s=_
 simp only[DQ,df,h1]
theorem WI.nil(h:KI var s):WI E [] KI loc var s:=⟨0,_,rfl,h⟩
def mw(E:BI)(ag:List Gl)(d:Ki)(l:List AA)(KI:List AV→AE→Prop)(loc var:List AV)(v:AV)(s:AE):Prop:=match d with
 | .push=>Eg s (v::loc) var ag=true∧WI E l KI (v::loc) var s
 | .set j=>Eg s loc (Mq v var j) ag=true∧WI E l KI loc (Mq v var j) s
theorem Uv{ag:List Gl}{d:Ki}{l:List AA}{v:AV}(h:mw E ag d l KI loc var v s):∃n p,(∀m,n≤m→DI ag d (El (ER E m) l) loc var v s=some p)∧KI p.1 p.2:=by
 cases d with
 | push =>
  obtain⟨h1,n,p,h2,h3⟩:=h
  exact⟨n,p,fun m hm=>by simp only[DI,h1,cond_true];exact HD (FB E hm) _ _ _ _ _ h2,h3⟩
 | set j =>
  obtain⟨h1,n,p,h2,h3⟩:=h
  exact⟨n,p,fun m hm=>by simp only[DI,h1,cond_true];exact HD (FB E hm) _ _ _ _ _ h2,h3⟩
theorem WI.item{it:AA}{l:List AA}{n:Nat}{p:AV×AE}(hw:Bj loc var it.guard=true)(hs:md (ER E n) it.sh it.xs loc var s=some p)(h:mw E it.again it.dst l KI loc var p.1 p.2):WI E (it::l) KI loc var s:=by
 obtain⟨m,q,h1,h2⟩:=Uv h
 refine⟨max n m,q,?_,h2⟩
 rw[HC]
 unfold MF
 rw[hw]
 simp only[Kz,RE (FB E (Nat.le_max_left n m)) hs]
 exact h1 _ (Nat.le_max_right n m)
theorem WI.off{it:AA}{l:List AA}(hw:Bj loc var it.guard=false)(h:mw E [] it.dst l KI loc var Ar s):WI E (it::l) KI loc var s:=by
 obtain⟨m,q,h1,h2⟩:=Uv h
 refine⟨m,q,?_,h2⟩
 rw[HC]
 unfold MF
 rw[hw]
 exact h1 _ (qg m)
def Ends(P:Program)(rs:List (CX×Option TypeId))(K:AV→AE→Prop)(r:A9):Prop:=U0 r.exit=true∧∃s',unmark r.st r.marks=some s'∧∃l,B7 P s' r.var rs=some l∧K (Bp l) s'
theorem WF.body{f:FuncId}{aS:List AV}{cf:Aw}(hn:E.nat f aS s=none)(hf:AQ E.P f=some cf)(ha:aS.length=cf.na)(h:WC E none cf.body (Ends E.P cf.results K) (Ql aS cf.nv) [] s):WF E f aS K s:=by
 obtain⟨n,r,h1,h2,s',h3,l,h4,h5⟩:=h
 refine⟨n+1,(Bp l,s'),?_,h5⟩
 show ID E (ER E n) f aS s=_
 simp[ID,hn,Gy,hf,ha,Ks,h1,h2,h3,h4]
theorem WF.nat{f:FuncId}{aS:List AV}{p:AV×AE}(hn:E.nat f aS s=some p)(h:K p.1 p.2):WF E f aS K s:=⟨1,p,by show ID E (ER E 0) f aS s=_;simp[ID,hn],h⟩
end
def WE{α:Type}(x:Option α)(K:α→Prop):Prop:=match x with
 | some v=>K v
 | none=>False
theorem Qm{α:Type}(v:α)(K:α→Prop):WE (some v) K=K v:=Eq.trans rfl rfl
section
variable(E:BI)
def Qe(f:AV)(aS:List AV)(K:AV→AE→Prop)(s:AE):Prop:=match f with
 | .func f first cap=>WF E f (first++(aS++cap)) K s
 | .yield l=>WR E l aS K s
 | _=>False
def Qc(sh:Sh)(xs:List AV)(K:AV→AE→Prop)(s:AE):Prop:=match sh with
 | .p1 f=>match xs with
  | a::_=>WE (f a) (fun v=>K v s)
  | []=>False
 | .p2 f=>match xs with
  | a::b::_=>WE (f a b) (fun v=>K v s)
  | _=>False
 | .p f=>WE (f xs) (fun v=>K v s)
 | .r1 f=>match xs with
  | a::_=>WE (f s a) (fun v=>K v s)
  | []=>False
 | .r f=>WE (f s xs) (fun v=>K v s)
 | .mk f=>WE (f xs) (fun p=>K (p.2.val s.next) (newObj s p.1))
 | .e f=>WE (f s xs) (fun p=>K p.1 p.2)
 | .call f=>WF E f xs K s
 | .callv=>match xs with
  | f::aS=>Qe E f aS K s
  | []=>False
def Qh (loc var:List AV):List CX→List AV
 | []=>[]
 | x::l=>Dw loc var x::Qh loc var l
def Qn(s:AE)(loc var:List AV):List Gl→Prop
 | []=>True
 | r::l=>GL s loc var r=true∧Qn s loc var l
def Qd(ag:List Gl)(d:Ki)(loc var:List AV)(k:List AV→List AV→AE→Prop)(v:AV)(s:AE):Prop:=match d with
 | .push=>Qn s (v::loc) var ag∧k (v::loc) var s
 | .set j=>Qn s loc (Mq v var j) ag∧k loc (Mq v var j) s
def Us(v:AV)(x y:List AV→List Nat→AE→Prop)(var:List AV)(marks:List Nat)(s:AE):Prop:=match v with
 | .bool true=>x var marks s
 | .bool false=>y var marks s
 | _=>False
def D7(k:List AV→List Nat→AE→Prop)(Q:A9→Prop)(r:A9):Prop:=match r.exit with
 | .normal=>k r.var r.marks r.st
 | _=>Q r
def pu(b:Bool)(sh:Sh)(xs:List AV)(ag:List Gl)(d:Ki)(loc var:List AV)(k:List AV→List AV→AE→Prop)(s:AE):Prop:=match b with
 | true=>Qc E sh xs (Qd ag d loc var k) s
 | false=>Qd [] d loc var k Ar s
def Qb:List AA→(List AV→AE→Prop)→List AV→List AV→AE→Prop
 | [],K,_,var,s=>K var s
 | it::l,K,loc,var,s=>pu E (Bj loc var it.guard) it.sh (Qh loc var it.xs) it.again it.dst loc var (Qb l K) s
def Qa(rnd:Option Nat):Ac→(A9→Prop)→List AV→List Nat→AE→Prop
 | .skip,Q,var,marks,s=>Q ⟨.normal,var,marks,s⟩
 | .ret,Q,var,marks,s=>Q ⟨.ret,var,marks,s⟩
 | .exit id,Q,var,marks,s=>Q ⟨.exit id,var,marks,s⟩
 | .never,_,_,_,_=>False
 | .ops l,Q,var,marks,s=>Qb E l (fun v s'=>Q ⟨.normal,v,marks,s'⟩) [] var s
 | .seq a b,Q,var,marks,s=>Qa rnd a (D7 (Qa rnd b Q) Q) var marks s
 | .cond x a b,Q,var,marks,s=>Us (Dw [] var x) (Qa rnd a Q) (Qa rnd b Q) var marks s
 | .block id c,Q,var,marks,s=>Qa rnd c (CS id Q) var marks s
 | .loop c,Q,var,marks,s=>WC E rnd (.loop c) Q var marks s
 | .rangeFunc fn f ps a b,Q,var,marks,s=>WC E rnd (.rangeFunc fn f ps a b) Q var marks s
end
section
variable{E:BI}{rnd:Option Nat}{Q Q':A9→Prop}{var loc:List AV}{marks:List Nat}{s:AE}{K K':AV→AE→Prop}{KI:List AV→AE→Prop}
theorem PH:∀ (l:List CX),Qh loc var l=EK loc var l
 | []=>rfl
 | x::l=>by show Dw loc var x::Qh loc var l=Dw loc var x::EK loc var l;rw[PH l]
theorem LE:∀ {l:List Gl},Qn s loc var l→Eg s loc var l=true
 | [],_=>rfl
 | r::l,h=>by show(GL s loc var r && Eg s loc var l)=true;rw[h.1,LE h.2];rfl
theorem GU{α:Type}{x:Option α}{K:α→Prop}(h:WE x K):∃v,x=some v∧K v:=by
 cases x with
 | none=>exact h.elim
 | some v=>exact⟨v,rfl,h⟩
theorem fP{f:AV}{aS:List AV}(h:Qe E f aS K s):∃n p,G0 (ER E n) f aS s=some p∧K p.1 p.2:=by
 cases f with
 | func f first cap=>obtain⟨n,p,h1,h2⟩:=h;exact⟨n,p,h1,h2⟩
 | yield l=>obtain⟨n,p,h1,h2⟩:=h;exact⟨n,p,h1,h2⟩
 | _=>exact h.elim
theorem fO      {sh : Sh} {xs : List CX} (h : Qc E sh (Qh loc var xs) K s) : ∃ n p, md  (ER   E n) sh xs loc var s = some p ∧ K p.1 p.2 := by
  rw[PH]at h
  cases sh with
  | p1 f =>
    cases xs with
    | nil=>exact h.elim
    | cons x l =>
      obtain⟨v,h1,h2⟩:=GU h
      exact⟨0,(v,s),by show EG s (f (Dw loc var x))=_;rw[h1];rfl,h2⟩
  | p2 f =>
    cases xs with
    | nil=>exact h.elim
    | cons x l =>
      cases l with
      | nil=>exact h.elim
      | cons y l =>
        obtain⟨v,h1,h2⟩:=GU h
        exact⟨0,(v,s),by show EG s (f (Dw loc var x) (Dw loc var y))=_;rw[h1];rfl,h2⟩
  | p f =>
    obtain⟨v,h1,h2⟩:=GU h
    exact⟨0,(v,s),by show EG s (f (EK loc var xs))=_;rw[h1];rfl,h2⟩
  | r1 f =>
    cases xs with
    | nil=>exact h.elim
    | cons x l =>
      obtain⟨v,h1,h2⟩:=GU h
      exact⟨0,(v,s),by show EG s (f s (Dw loc var x))=_;rw[h1];rfl,h2⟩
  | r f =>
    obtain⟨v,h1,h2⟩:=GU h
    exact⟨0,(v,s),by show EG s (f s (EK loc var xs))=_;rw[h1];rfl,h2⟩
  | mk f =>
    obtain⟨v,h1,h2⟩:=GU h
    exact⟨0,(v.2.val s.next,newObj s v.1),by show QR s (f (EK loc var xs))=_;rw[h1];rfl,h2⟩
  | e f =>
    obtain⟨v,h1,h2⟩:=GU h
    exact⟨0,v,h1,h2⟩
  | call f=>obtain⟨n,p,h1,h2⟩:=h;exact⟨n,p,h1,h2⟩
  | callv =>
    cases xs with
    | nil=>exact h.elim
    | cons x l=>exact fP h
theorem fN:∀ {l:List AA}{loc var:List AV}{s:AE},Qb E l KI loc var s→WI E l KI loc var s:=by
 intro l
 induction l with
 | nil=>intro loc var s h;exact WI.nil h
 | cons it l ih =>
  intro loc var s h
  have dst:∀ {ag:List Gl} {v:AV} {s:AE},Qd ag it.dst loc var (Qb E l KI) v s→mw E ag it.dst l KI loc var v s:=by
   intro ag v s h
   unfold Qd at h
   unfold mw
   cases hd:it.dst with
   | push=>rw[hd]at h;exact⟨LE h.1,ih h.2⟩
   | set j=>rw[hd]at h;exact⟨LE h.1,ih h.2⟩
  unfold Qb at h
  cases hw:Bj loc var it.guard with
  | true =>
   rw[hw]at h
   have h:Qc E it.sh (Qh loc var it.xs) (Qd it.again it.dst loc var (Qb E l KI)) s:=h
   obtain⟨n,p,h1,h2⟩:=fO h
   exact WI.item hw h1 (dst h2)
  | false =>
   rw[hw]at h
   have h:Qd [] it.dst loc var (Qb E l KI) Ar s:=h
   exact WI.off hw (dst h)
theorem EW:∀ {c:Ac}{Q:A9→Prop}{var:List AV}{marks:List Nat}{s:AE},Qa E rnd c Q var marks s→WC E rnd c Q var marks s:=by
 intro c
 induction c with
 | skip=>intro Q var marks s h;exact WC.skip h
 | ret=>intro Q var marks s h;exact WC.ret h
 | exit id=>intro Q var marks s h;exact WC.exit h
 | never=>intro Q var marks s h;exact h.elim
 | ops l=>intro Q var marks s h;exact WC.ops (fN h)
 | seq a b iha ihb =>
  intro Q var marks s h
  refine WC.seq ((iha h).mono ?_)
  intro r hr
  unfold D7 at hr
  unfold VN
  cases he:r.exit with
  | normal=>rw[he]at hr;exact ihb hr
  | exit id=>rw[he]at hr;exact hr
  | ret=>rw[he]at hr;exact hr
 | cond x a b iha ihb =>
  intro Q var marks s h
  unfold Qa Us at h
  split at h<;>first | exact h.elim | skip
  ·rename_i ht;exact WC.cond ht (iha h)
  ·rename_i ht;exact WC.cond ht (ihb h)
 | block id c ih=>intro Q var marks s h;exact WC.block (ih h)
 | loop c _=>intro Q var marks s h;exact h
 | rangeFunc fn f ps a b=>intro Q var marks s h;exact h
theorem WC.loop'{c:Ac}(h:Qa E rnd c (D7 (WC E rnd (.loop c) Q) Q) var marks s):WC E rnd (.loop c) Q var marks s:=by
 refine WC.loop ((EW h).mono ?_)
 intro r hr
 unfold D7 at hr
 unfold VN
 cases he:r.exit with
 | normal=>rw[he]at hr;exact hr
 | exit id=>rw[he]at hr;exact hr
 | ret=>rw[he]at hr;exact hr
theorem WF.body'{f:FuncId}{aS:List AV}{cf:Aw}(hn:E.nat f aS s=none)(hf:AQ E.P f=some cf)(ha:aS.length=cf.na)(h:Qa E none cf.body (Ends E.P cf.results K) (Ql aS cf.nv) [] s):WF E f aS K s:=WF.body hn hf ha (EW h)
end
theorem Qq(a:AV)(l:List AV):U7 (a::l) 0=a:=rfl
theorem Qr(a:AV)(l:List AV)(n:Nat):U7 (a::l) (n+1)=U7 l n:=rfl
theorem Qo(v a:AV)(l:List AV):Mq v (a::l) 0=v::l:=rfl
theorem Qp(v a:AV)(l:List AV)(n:Nat):Mq v (a::l) (n+1)=a::Mq v l n:=rfl
theorem Qk(loc var:List AV)(i:Nat):Dw loc var (.loc i)=U7 loc i:=rfl
theorem Qj(loc var:List AV)(i:Nat):Dw loc var (.var i)=U7 var i:=rfl
theorem Qi(loc var:List AV)(v:AV):Dw loc var (.const v)=v:=rfl
theorem Qf(loc var:List AV):Bj loc var none=true:=rfl
theorem Qg(loc var:List AV)(x:CX)(b:Bool):Bj loc var (some (x,b))=mr b (Dw loc var x):=rfl
theorem Qs(E:BI)(sh:Sh)(xs:List AV)(ag:List Gl)(d:Ki)(loc var:List AV)(k:List AV→List AV→AE→Prop)(s:AE):pu E true sh xs ag d loc var k s=Qc E sh xs (Qd ag d loc var k) s:=rfl
theorem Qt(E:BI)(sh:Sh)(xs:List AV)(ag:List Gl)(d:Ki)(loc var:List AV)(k:List AV→List AV→AE→Prop)(s:AE):pu E false sh xs ag d loc var k s=Qd [] d loc var k Ar s:=rfl
theorem Qu(x y:List AV→List Nat→AE→Prop)(var:List AV)(m:List Nat)(s:AE):Us (.bool true) x y var m s=x var m s:=rfl
theorem Qv(x y:List AV→List Nat→AE→Prop)(var:List AV)(m:List Nat)(s:AE):Us (.bool false) x y var m s=y var m s:=rfl
theorem Qw(k:List AV→List Nat→AE→Prop)(Q:A9→Prop)(v:List AV)(m:List Nat)(s:AE):D7 k Q ⟨.normal,v,m,s⟩=k v m s:=rfl
theorem Qx(k:List AV→List Nat→AE→Prop)(Q:A9→Prop)(v:List AV)(m:List Nat)(s:AE):D7 k Q ⟨.ret,v,m,s⟩=Q ⟨.ret,v,m,s⟩:=rfl
theorem Qy(k:List AV→List Nat→AE→Prop)(Q:A9→Prop)(id:Nat)(v:List AV)(m:List Nat)(s:AE):D7 k Q ⟨.exit id,v,m,s⟩=Q ⟨.exit id,v,m,s⟩:=rfl
theorem Qz(id:Nat)(Q:A9→Prop)(v:List AV)(m:List Nat)(s:AE):CS id Q ⟨.normal,v,m,s⟩=Q ⟨.normal,v,m,s⟩:=rfl
theorem Ra(id:Nat)(Q:A9→Prop)(v:List AV)(m:List Nat)(s:AE):CS id Q ⟨.ret,v,m,s⟩=Q ⟨.ret,v,m,s⟩:=rfl
theorem Rb(id id':Nat)(Q:A9→Prop)(v:List AV)(m:List Nat)(s:AE):CS id Q ⟨.exit id',v,m,s⟩=if id'=id then Q ⟨.normal,v,m,s⟩else Q ⟨.exit id',v,m,s⟩:=by
 unfold CS
 by_cases h:id'=id
 ·subst h;simp
 ·have:Nat.beq id' id=false:=by
   cases hb:Nat.beq id' id with
   | true=>exact absurd (rW hb) h
   | false=>rfl
  simp[h,this]
theorem Rc(P:Program)(rs:List (CX×Option TypeId))(K:AV→AE→Prop)(v:List AV)(m:List Nat)(s:AE):Ends P rs K ⟨.ret,v,m,s⟩=WE (unmark s m) (fun s'=>WE (B7 P s' v rs) (fun l=>K (Bp l) s')):=by
 unfold Ends
 apply propext
 constructor
 ·rintro⟨_,s',h1,l,h2,h3⟩
  have h1:unmark s m=some s':=h1
  have h2:B7 P s' v rs=some l:=h2
  rw[h1,Qm,h2,Qm];exact h3
 ·intro h
  obtain⟨s',h1,h⟩:=GU h
  obtain⟨l,h2,h3⟩:=GU h
  exact⟨rfl,s',h1,l,h2,h3⟩
theorem Rd(P:Program)(rs:List (CX×Option TypeId))(K:AV→AE→Prop)(v:List AV)(m:List Nat)(s:AE):Ends P rs K ⟨.normal,v,m,s⟩=WE (unmark s m) (fun s'=>WE (B7 P s' v rs) (fun l=>K (Bp l) s')):=by
 rw[← Rc];rfl
theorem Re(s:AE):unmark s []=some s:=rfl
theorem Rf(P:Program)(s:AE)(v:List AV):B7 P s v []=some []:=rfl
theorem Rg(P:Program)(s:AE)(v:List AV)(x:CX)(l:List (CX×Option TypeId)):B7 P s v ((x,none)::l)=(B7 P s v l).bind fun r=>some (Dw [] v x::r):=rfl
theorem Rh(v:AV):Bp [v]=v:=rfl
theorem Ri:Bp []=.tuple []:=rfl
theorem Rj(v w:AV)(l:List AV):Bp (v::w::l)=.tuple (v::w::l):=rfl
theorem Rk(w:Bool):mr w Ar=false:=rfl
theorem Rl(b:Bool):mr true (.bool b)=b:=by cases b<;>rfl
theorem Rm(b:Bool):mr false (.bool b)=!b:=by cases b<;>rfl
theorem Ya:(!true)=false:=rfl
theorem Yb:(!false)=true:=rfl
theorem Yc{α β:Type _}(a:α)(f:α→Option β):(some a).bind f=f a:=rfl
theorem Yd{α:Type _}(a:α)(l:List α):(a::l)[0]? = some a:=rfl
theorem Ye{α:Type _}(a:α)(l:List α)(i:Nat):(a::l)[i+1]? = l[i]? := rfl
end
end Go.Proofs.Ytilhhmkdcoajnaa.Am
namespace Go.Proofs.Ytilhhmkdcoajnaa.Am
open Go
noncomputable section
structure RB where
 b:Nat
 off:Nat
 N:Nat
 sz:Nat
abbrev Bq:=Nat→Option RB
mutual
inductive Ad (ρ:Bq):AV→Value→Prop
 | bool (b:Bool):Ad ρ (.bool b) (.bool b)
 | int (k:IntKind) (n:Int):Ad ρ (.int k n) (.int k n)
 | str {l:List Nat} {s:ByteArray} (h:s.data.toList.map (fun(b:UInt8)=>b.toNat)=l):Ad ρ (.str l) (.string s)
 | ptrNil:Ad ρ (.ptr none) (.pointer none)
 | ptr {i o:Nat} {rb:RB} (h:ρ i=some rb):Ad ρ (.ptr (some (i,o))) (.pointer (some ⟨rb.b,rb.off+o,none⟩))
 | sliceNil:Ad ρ (.slice none 0 (some 0)) (.slice none 0 0)
 | slice {i o len c:Nat} {rb:RB} (h:ρ i=some rb) (hl:len≤c):Ad ρ (.slice (some (i,o)) len (some c)) (.slice (some ⟨rb.b,rb.off+o,none⟩) len c)
 | sliceOpen {i o len c:Nat} {rb:RB} (h:ρ i=some rb) (hs:0<rb.sz) (hl:len≤c) (h1:o+c * rb.sz≤rb.N) (h2:rb.N<o+(c+1) * rb.sz):
   Ad ρ (.slice (some (i,o)) len none) (.slice (some ⟨rb.b,rb.off+o,none⟩) len c)
 | sliceEnd {i o:Nat} {rb:RB} {a:Addr} (h:ρ i=some rb) (hs:0<rb.sz) (h1:o≤rb.N) (h2:rb.N<o+rb.sz):
   Ad ρ (.slice (some (i,o)) 0 none) (.slice (some a) 0 0)
 | mapNil:Ad ρ (.map none) (.map none)
 | map {i:Nat} {rb:RB} (h:ρ i=some rb):Ad ρ (.map (some i)) (.map (some rb.b))
 | func {f:FuncId} {a c:List AV} {a' c':Array Value} (ha:AX ρ a a'.toList) (hc:AX ρ c c'.toList):Ad ρ (.func f a c) (.func (.func f) a' c')
 | yield {i:Nat} {rb:RB} (h:ρ i=some rb):Ad ρ (.yield i) (.func (.yield rb.b) #[] #[])
 | nilFunc:Ad ρ .nilFunc .nilFunc
 | nilIface:Ad ρ .nilIface .nilIface
 | iface {t:TypeId} {v:AV} {v':Value} (h:Ad ρ v v'):Ad ρ (.iface t v) (.iface t v')
 | agg {cs:List AV} {cs':Array Value} (h:AX ρ cs cs'.toList):Ad ρ (.agg cs) (.agg cs')
 | tuple {cs:List AV} {cs':Array Value} (h:AX ρ cs cs'.toList):Ad ρ (.tuple cs) (.tuple cs')
inductive AX (ρ:Bq):List AV→List Value→Prop
 | nil:AX ρ [] []
 | cons {v:AV} {v':Value} {l:List AV} {l':List Value} (h:Ad ρ v v') (hs:AX ρ l l'):AX ρ (v::l) (v'::l')
end
def Bq.le(ρ σ:Bq):Prop:=∀i rb,ρ i=some rb→σ i=some rb
theorem Bq.le_refl(ρ:Bq):ρ.le ρ:=fun _ _ h=>h
theorem Bq.le_trans{ρ σ τ:Bq}(h:ρ.le σ)(k:σ.le τ):ρ.le τ:=fun i rb e=>k i rb (h i rb e)
mutual
theorem Ad.mono{ρ σ:Bq}(le:ρ.le σ){v:AV}{v':Value}(h:Ad ρ v v'):Ad σ v v':=by
 cases h with
 | bool b=>exact .bool b
 | int k n=>exact .int k n
 | str h=>exact .str h
 | ptrNil=>exact .ptrNil
 | ptr h=>exact .ptr (le _ _ h)
 | sliceNil=>exact .sliceNil
 | slice h hl=>exact .slice (le _ _ h) hl
 | sliceOpen h hs hl h1 h2=>exact .sliceOpen (le _ _ h) hs hl h1 h2
 | sliceEnd h hs h1 h2=>exact .sliceEnd (le _ _ h) hs h1 h2
 | mapNil=>exact .mapNil
 | map h=>exact .map (le _ _ h)
 | func ha hc=>exact .func (AX.mono le ha) (AX.mono le hc)
 | yield h=>exact .yield (le _ _ h)
 | nilFunc=>exact .nilFunc
 | nilIface=>exact .nilIface
 | iface h=>exact .iface (Ad.mono le h)
 | agg h=>exact .agg (AX.mono le h)
 | tuple h=>exact .tuple (AX.mono le h)
theorem AX.mono{ρ σ:Bq}(le:ρ.le σ){v:List AV}{v':List Value}(h:AX ρ v v'):AX σ v v':=by
 cases h with
 | nil=>exact .nil
 | cons h hs=>exact .cons (Ad.mono le h) (AX.mono le hs)
end
section lists
variable{ρ:Bq}
theorem AX.length{l:List AV}{l':List Value}(h:AX ρ l l'):l.length=l'.length:=by
 induction l generalizing l' with
 | nil=>cases h;rfl
 | cons a l ih=>cases h with | cons h hs=>simp[ih hs]
theorem AX.get{l:List AV}{l':List Value}(h:AX ρ l l'){k:Nat}{v:AV}(hk:l[k]? = some v):∃v',l'[k]? = some v'∧Ad ρ v v':=by
  induction l generalizing l' k with
  | nil=>simp at hk
  | cons a l ih =>
    cases h with
    | cons h hs =>
      cases k with
      | zero=>simp at hk;subst hk;exact⟨_,rfl,h⟩
      | succ k=>simp at hk;obtain⟨v',h1,h2⟩:=ih hs hk;exact⟨v',by simpa using h1,h2⟩
theorem AX.of_get{l:List AV}{l':List Value}(hl:l.length=l'.length)(h:∀ (k:Nat)(v:AV)(v':Value),l[k]? = some v→l'[k]? = some v'→Ad ρ v v'):AX ρ l l':=by
  induction l generalizing l' with
  | nil=>cases l' with | nil=>exact .nil | cons=>simp at hl
  | cons a l ih =>
    cases l' with
    | nil=>simp at hl
    | cons a' l'=>exact .cons (h 0 a a' rfl rfl) (ih (by simpa using hl) fun k v v' h1 h2=>h (k+1) v v' (by simpa using h1) (by simpa using h2))
theorem AX.append{l m:List AV}{l' m':List Value}(h:AX ρ l l')(k:AX ρ m m'):AX ρ (l++m) (l'++m'):=by
 induction l generalizing l' with
 | nil=>cases h;exact k
 | cons a l ih=>cases h with | cons h hs=>exact .cons h (ih hs)
theorem AX.take{l:List AV}{l':List Value}(h:AX ρ l l')(n:Nat):AX ρ (l.take n) (l'.take n):=by
  induction l generalizing l' n with
  | nil=>cases h;simp;exact .nil
  | cons a l ih =>
    cases h with
    | cons h hs=>cases n with
      | zero=>exact .nil
      | succ n=>exact .cons h (ih hs n)
theorem AX.drop{l:List AV}{l':List Value}(h:AX ρ l l')(n:Nat):AX ρ (l.drop n) (l'.drop n):=by
  induction l generalizing l' n with
  | nil=>cases h;simp;exact .nil
  | cons a l ih =>
    cases h with
    | cons h hs=>cases n with
      | zero=>exact .cons h hs
      | succ n=>exact ih hs n
theorem Ad.cells{v:AV}{v':Value}(h:Ad ρ v v'):AX ρ v.cells v'.cells.toList:=by
 cases h with
 | agg h=>exact h
 | bool b=>exact .cons (.bool b) .nil
 | int k n=>exact .cons (.int k n) .nil
 | str h=>exact .cons (.str h) .nil
 | ptrNil=>exact .cons .ptrNil .nil
 | ptr h=>exact .cons (.ptr h) .nil
 | sliceNil=>exact .cons .sliceNil .nil
 | slice h hl=>exact .cons (.slice h hl) .nil
 | sliceOpen h hs hl h1 h2=>exact .cons (.sliceOpen h hs hl h1 h2) .nil
 | sliceEnd h hs h1 h2=>exact .cons (.sliceEnd h hs h1 h2) .nil
 | mapNil=>exact .cons .mapNil .nil
 | map h=>exact .cons (.map h) .nil
 | func ha hc=>exact .cons (.func ha hc) .nil
 | yield h=>exact .cons (.yield h) .nil
 | nilFunc=>exact .cons .nilFunc .nil
 | nilIface=>exact .cons .nilIface .nil
 | iface h=>exact .cons (.iface h) .nil
 | tuple h=>exact .cons (.tuple h) .nil
theorem Ad.oneCell{v:AV}{v':Value}(h:Ad ρ v v')(hc:v.isCell=true):v'.oneCell'=true:=by
 cases h<;>first | rfl | cases hc
theorem AX.oneCell{l:List AV}{l':List Value}(h:AX ρ l l')(hc:Ae l=true):∀v∈l',v.oneCell'=true:=by
  induction l generalizing l' with
  | nil=>cases h;simp
  | cons a l ih =>
    cases h with
    | cons h hs =>
      simp only[Ae,Bool.and_eq_true]at hc
      intro v hv
      rcases rI.1 hv with rfl | hv
      · exact h.oneCell hc.1
      · exact ih hs hc.2 v hv
end lists
theorem JM(ρ:Bq){v:Value}{a:AV}(h:JL v=some a):Ad ρ a v:=by
 unfold JL at h
 split at h<;>first
  | (injection h with h;subst h;first | exact .bool _ | exact .int _ _ | exact .str rfl | exact .ptrNil | exact .sliceNil | exact .mapNil | exact .nilFunc | exact .nilIface)
  | cases h
theorem F0(ρ:Bq):∀ {l:List Value}{r:List AV},FG l=some r→AX ρ r l
 | [],r,h=>by simp[FG]at h;subst h;exact .nil
 | v::l,r,h=>by
  simp only[FG,qh]at h
  obtain⟨a,ha,r',hr,h⟩:=h
  injection h with h;subst h
  exact .cons (JM ρ ha) (F0 ρ hr)
theorem CD(ρ:Bq){v:Value}{a:AV}(h:ofValue v=some a):Ad ρ a v:=by
 unfold ofValue at h
 split at h
 ·simp only[qh]at h
  obtain⟨l,hl,h⟩:=h
  injection h with h;subst h
  exact .agg (F0 ρ hl)
 ·simp only[qh]at h
  obtain⟨l,hl,h⟩:=h
  injection h with h;subst h
  exact .tuple (F0 ρ hl)
 ·exact JM ρ h
theorem Du(ρ:Bq):Ad ρ Ar undef:=.tuple .nil
theorem AI{α:Type}{b:Bool}{x:Option α}{a:α}(h:AG b x=some a):b=true∧x=some a:=by
 cases b with
 | true=>exact⟨rfl,h⟩
 | false=>cases h
inductive Ew (ρ:Bq):List (AV×AV×Nat)→List MapEntry→Prop
 | nil:Ew ρ [] []
 | cons {k v:AV} {b:Nat} {e:MapEntry} {l:List (AV×AV×Nat)} {l':List MapEntry} (hk:Ad ρ k e.key) (hv:Ad ρ v e.val) (hb:e.born=b) (hs:Ew ρ l l'):Ew ρ ((k,v,b)::l) (e::l')
theorem Ew.mono{ρ σ:Bq}(le:ρ.le σ){l:List (AV×AV×Nat)}{l':List MapEntry}(h:Ew ρ l l'):Ew σ l l':=by
 induction h with
 | nil=>exact .nil
 | cons hk hv hb _ ih=>exact .cons (hk.mono le) (hv.mono le) hb ih
structure F5(ρ:Bq)(w:World)(r:EX)(rb:RB):Prop where
 cells:∀k v,k<r.n→r.c.get k=some v→∃v',w.cell? ⟨rb.b,rb.off+k,none⟩=some v'∧Ad ρ v v'
 le:r.n≤rb.N
 sz:r.sz=rb.sz
 tight:r.spare=false→rb.N=r.n
 own:r.mode≠.ro→∃cs e,w.heap[rb.b]? = some (.cells cs e (0,0))∧rb.off+rb.N≤cs.size
 par:∀p,r.par=some p→∃rp,ρ p=some rp
def ES(ρ:Bq)(vars:List Tmp)(var:List AV)(tmps:Array Value):Prop:=
 ∀ (t:Tmp) (k:Nat),CA vars t=some k→t<tmps.size∧∃v:AV,var[k]? = some v∧Ad ρ v (tmps.getD t undef)
end
end Go.Proofs.Ytilhhmkdcoajnaa.Am
set_option linter.unusedVariables false
set_option linter.unusedSimpArgs false
namespace Go.Proofs.Ytilhhmkdcoajnaa.Am
open Go
noncomputable section
theorem GF{α:Type}{P:Program}{w:World}:∀ {s:Sem α}{a:α},FC P s=some a→s.run P w=.ok a w:=by
 intro s
 induction s with
 | pure b=>intro a h;simp[FC]at h;subst h;rfl
 | program k ih=>intro a h;simp only[FC]at h;simp only[Sem.run];exact ih P h
 | mark m k ih=>intro a h;simp only[FC]at h;simp only[Sem.run];exact ih h
 | load=>intro a h;simp[FC]at h
 | store=>intro a h;simp[FC]at h
 | new=>intro a h;simp[FC]at h
 | shape=>intro a h;simp[FC]at h
 | freeze=>intro a h;simp[FC]at h
 | frozen=>intro a h;simp[FC]at h
 | getObj=>intro a h;simp[FC]at h
 | setObj=>intro a h;simp[FC]at h
 | choose=>intro a h;simp[FC]at h
 | sys=>intro a h;simp[FC]at h
 | halt=>intro a h;simp[FC]at h
section types
variable{P:Program}{w:World}{t:TypeId}
theorem AO{d:TypeDesc}(h:P.underlying t=some d):(underlying t).run P w=.ok d w:=by simp[underlying,h]
theorem K0{g:Bool}(h:E1 P t=some g):(isAgg t).run P w=.ok g w:=by
 unfold E1 at h
 split at h
 ·injection h with h;subst h;simp[isAgg,underlying, *]
 ·injection h with h;subst h;simp[isAgg,underlying, *]
 ·rename_i d _ _ hd
  injection h with h;subst h
  simp only[isAgg,Sem.run_bind,AO hd,Result.andThen_ok]
  cases d<;>simp_all
 ·cases h
theorem BL{n:Nat}(h:BD P t=some n):(sizeOf t).run P w=.ok n w:=by
 unfold BD at h
 split at h
 ·injection h with h;subst h;simp[sizeOf,typeInfo, *]
 ·cases h
theorem WZ{n:Nat}(h:Cg P t=some n):∃i,(typeInfo t).run P w=.ok i w∧i.bytes=n:=by
 unfold Cg at h
 split at h
 ·injection h with h;rename_i i hi;exact⟨i,by simp[typeInfo,hi],h⟩
 ·cases h
theorem JT(ρ:Bq){z:AV}(h:CF P t=some z):∃v,(zeroValue t).run P w=.ok v w∧Ad ρ z v:=by
  unfold CF at h
  split at h
  · split at h
    · rename_i i hi _ v hv
      exact⟨v,by simp[zeroValue,typeInfo,hi,hv],CD ρ h⟩
    · cases h
  · cases h
end types
theorem K8{k:IntKind}{n:Int}(h:CC k n=true):k.wrap n=n:=by
 have hb:k.min≤n∧n≤k.max:=by
  unfold CC at h
  cases n with
  | ofNat m=>cases k<;>simp[qu]at h<;>simp[IntKind.min,IntKind.max,IntKind.signed,IntKind.bits]<;>omega
  | negSucc m=>cases k<;>simp[qu]at h<;>simp[IntKind.min,IntKind.max,IntKind.signed,IntKind.bits]<;>omega
 cases k<;>simp[IntKind.min,IntKind.max,IntKind.signed,IntKind.bits]at hb<;>simp only[IntKind.wrap,IntKind.signed,IntKind.bits]<;>simp<;>omega
theorem HW(k:IntKind)(n:Int):EB k n=k.wrap n:=by
 unfold EB
 cases h:CC k n with
 | true=>simp[K8 h]
 | false=>rfl
theorem D5(a b:Int):PO a b=decide (a<b):=by
 cases a with
 | ofNat a=>cases b with
  | ofNat b=>rw[Bool.eq_iff_iff];simp only[PO,rJ,decide_eq_true_iff,sf];omega
  | negSucc b=>simp only[PO];rw[eq_comm,decide_eq_false_iff_not];simp only[sf];omega
 | negSucc a=>cases b with
  | ofNat b=>simp only[PO];rw[eq_comm,decide_eq_true_iff];simp only[sf];omega
  | negSucc b=>rw[Bool.eq_iff_iff];simp only[PO,rJ,decide_eq_true_iff];omega
theorem GQ(a b:Int):Vf a b=(a == b):=by
 rw[Bool.eq_iff_iff,beq_iff_eq]
 cases a with
 | ofNat a=>cases b with
  | ofNat b=>simp only[Vf,Nat.beq_eq,sf];omega
  | negSucc b=>simp[Vf]
 | negSucc a=>cases b with
  | ofNat b=>simp[Vf]
  | negSucc b=>simp only[Vf,Nat.beq_eq];omega
theorem Fq{k k':IntKind}(h:B8 k k'=true):k=k':=by cases k<;>cases k'<;>first | rfl | cases h
theorem bO{n:Int}{m:Nat}(h:Nd n=some m):n=(m:Int):=by cases n<;>simp[Nd]at h;subst h;rfl
theorem az{P:Program}{ρ:Bq}{op:BinOp}{k:IntKind}{a b:Int}{v:AV}(h:ay P op k a b=some v)(t:TypeId)(w:World):
  ∃v',(Go.binOp op t (.int k a) (.int k b)).run P w=.ok v' w∧Ad ρ v v':=by
 unfold ay at h
 split at h
 case h_1=>injection h with h;subst h;exact⟨.int k (k.wrap (a+b)),by simp[Go.binOp,Op.intArith],by rw[HW];exact .int _ _⟩
 case h_2=>injection h with h;subst h;exact⟨.int k (k.wrap (a - b)),by simp[Go.binOp,Op.intArith],by rw[HW];exact .int _ _⟩
 case h_3=>injection h with h;subst h;exact⟨.int k (k.wrap (a * b)),by simp[Go.binOp,Op.intArith],by rw[HW];exact .int _ _⟩
 case h_4=>injection h with h;subst h;exact⟨.bool (a == b),by simp[Go.binOp,Op.intCmp],by rw[GQ];exact .bool _⟩
 case h_5=>injection h with h;subst h;exact⟨.bool (a != b),by simp[Go.binOp,Op.intCmp],by rw[GQ];exact .bool _⟩
 case h_6=>injection h with h;subst h;exact⟨.bool (a<b),by simp[Go.binOp,Op.intCmp],by rw[D5];exact .bool _⟩
 case h_7=>injection h with h;subst h;exact⟨.bool (a≤b),by simp[Go.binOp,Op.intCmp],by rw[D5,show(!decide (b<a))=decide (a≤b)from by rw[Bool.eq_iff_iff];simp];exact .bool _⟩
 case h_8=>injection h with h;subst h;exact⟨.bool (a > b),by simp[Go.binOp,Op.intCmp],by rw[D5];exact .bool _⟩
 case h_9=>injection h with h;subst h;exact⟨.bool (a≥b),by simp[Go.binOp,Op.intCmp],by rw[D5,show(!decide (a<b))=decide (a≥b)from by rw[Bool.eq_iff_iff];simp];exact .bool _⟩
 case h_10 =>
  simp only[qh]at h
  obtain⟨u,hu,h⟩:=h
  exact⟨u,by have:=GF (w:=w) hu;simpa[Go.binOp]using this,CD ρ h⟩
 case h_11 =>
  simp only[qh]at h
  obtain⟨u,hu,h⟩:=h
  exact⟨u,by have:=GF (w:=w) hu;simpa[Go.binOp]using this,CD ρ h⟩
 case h_12=>cases h
 case h_13=>cases h
 case h_14 =>
  simp only[qh]at h
  obtain⟨u,hu,h⟩:=h
  refine⟨u,?_,CD ρ h⟩
  have:=GF (w:=w) hu
  rename_i n1 n2 n3 n4 n5 n6 n7 n8 n9 n10 n11 n12 n13
  cases op<;>first | (exfalso;simp at *;done) | simpa[Go.binOp]using this
abbrev Fz(l:List UInt8):List Nat:=l.map (fun(b:UInt8)=>b.toNat)
theorem toNat_inj{a b:UInt8}(h:a.toNat=b.toNat):a=b:=UInt8.toNat_inj.1 h
theorem Ie:∀ (x y:List UInt8),Gh (Fz x) (Fz y)=(x == y)
 | [],[]=>rfl
 | [],_::_=>rfl
 | _::_,[]=>rfl
 | a::x,b::y=>by
  simp only[Fz,rm,Gh]
  by_cases e:a=b
  ·subst e
   have:Nat.beq a.toNat a.toNat=true:=by simp[Nat.beq_eq]
   rw[this]
   have ih:=Ie x y
   simp only[Fz]at ih
   simp[ih]
  ·have:Nat.beq a.toNat b.toNat=false:=Ak.beq_no (fun h=>e (toNat_inj h))
   rw[this]
   simp[e]
theorem Mj:∀ (x y:List UInt8),Mi (Fz x) (Fz y)=Op.bytesLess x y
 | [],[]=>rfl
 | [],_::_=>rfl
 | _::_,[]=>rfl
 | a::x,b::y=>by
  simp only[Fz,rm,Mi,Op.bytesLess]
  have ih:=Mj x y
  simp only[Fz]at ih
  have h1:Nat.blt a.toNat b.toNat=decide (a<b):=by rw[Bool.eq_iff_iff];simp[rJ,UInt8.lt_iff_toNat_lt]
  have h2:Nat.beq a.toNat b.toNat=(a == b):=by
   rw[Bool.eq_iff_iff,beq_iff_eq,Nat.beq_eq]
   exact⟨fun h=>toNat_inj h,fun h=>by rw[h]⟩
  rw[h1,h2,ih]
  cases decide (a<b)<;>cases (a == b)<;>rfl
theorem GH(s:ByteArray):(Fz s.data.toList).length=s.size:=by simp[Fz]
theorem cM{P:Program}{ρ:Bq}{op:BinOp}{x y:ByteArray}{v:AV}(h:VG op (Fz x.data.toList) (Fz y.data.toList)=some v)(w:World):
  ∃v',(Op.stringOp op x y).run P w=.ok v' w∧Ad ρ v v':=by
 unfold VG at h
 rw[Ie,Mj,GH,GH]at h
 unfold Op.stringOp
 rw[ByteArray.toList_eq,ByteArray.toList_eq]
 split at h
 case h_1 =>
  obtain⟨hb,h⟩:=AI h
  injection h with h;subst h
  have hb':x.size+y.size≤1152921504606846976:=by simpa[qu]using hb
  refine⟨.string (x++y),?_,.str (by simp[Fz])⟩
  have:¬ ((x.size+y.size:Nat):Int) > IntKind.i64.max:=by simp[IntKind.max,IntKind.signed,IntKind.bits];omega
  simp only[this,if_false]
  rfl
 case h_2=>injection h with h;subst h;exact⟨_,rfl,.bool _⟩
 case h_3=>injection h with h;subst h;exact⟨_,rfl,.bool _⟩
 case h_4=>injection h with h;subst h;exact⟨_,rfl,.bool _⟩
 case h_5=>injection h with h;subst h;exact⟨_,rfl,.bool _⟩
 case h_6=>injection h with h;subst h;exact⟨_,rfl,.bool _⟩
 case h_7=>injection h with h;subst h;exact⟨_,rfl,.bool _⟩
 case h_8=>cases h
section
variable{P:Program}{ρ:Bq}{w:World}
theorem KR{t:TypeId}(h:Ol P t=true):∃e,P.underlying t=some (.pointer e):=by
 unfold Ol at h;split at h
 ·rename_i e he;exact⟨e,he⟩
 ·cases h
theorem IA{t:TypeId}(h:Eb P t=true):∃e,P.underlying t=some (.slice e):=by
 unfold Eb at h;split at h
 ·rename_i e he;exact⟨e,he⟩
 ·cases h
theorem KQ{t:TypeId}(h:Ok P t=true):∃k e,P.underlying t=some (.map k e):=by
 unfold Ok at h;split at h
 ·rename_i k e he;exact⟨k,e,he⟩
 ·cases h
theorem GS{t:TypeId}(h:JB P t=true):∃a b c,P.underlying t=some (.func a b c):=by
 unfold JB at h;split at h
 ·rename_i a b c he;exact⟨a,b,c,he⟩
 ·cases h
theorem Oj{t:TypeId}(h:Oi P t=true):P.underlying t=some .bool:=by
 unfold Oi at h;split at h
 ·rename_i he;exact he
 ·cases h
set_option maxHeartbeats 1000000 in
theorem mP{t:TypeId}{x y:AV}{x' y':Value}{b:Bool}(h:aa P t x y=some b)(hx:Ad ρ x x')(hy:Ad ρ y y')(d:Nat):
  (Op.equalIn (d+1) t x' y').run P w=.ok b w:=by
 unfold aa at h
 split at h
 all_goals first | (cases h;done) | skip
 ·obtain⟨ht,h⟩:=AI h
  injection h with h;subst h
  cases hx;cases hy
  simp[Op.equalIn,AO (Oj ht)]
 ·obtain⟨ht,h⟩:=AI h
  injection h with h;subst h
  obtain⟨e,ht⟩:=KR ht
  cases hx;cases hy<;>simp[Op.equalIn,AO ht]
 ·obtain⟨ht,h⟩:=AI h
  injection h with h;subst h
  obtain⟨e,ht⟩:=KR ht
  cases hy;cases hx<;>simp[Op.equalIn,AO ht]
 ·obtain⟨ht,h⟩:=AI h
  injection h with h;subst h
  obtain⟨e,ht⟩:=IA ht
  cases hx;cases hy<;>simp[Op.equalIn,AO ht]
 ·obtain⟨ht,h⟩:=AI h
  injection h with h;subst h
  obtain⟨e,ht⟩:=IA ht
  cases hy;cases hx<;>simp[Op.equalIn,AO ht]
 ·obtain⟨ht,h⟩:=AI h
  injection h with h;subst h
  obtain⟨k,e,ht⟩:=KQ ht
  cases hx;cases hy<;>simp[Op.equalIn,AO ht]
 ·obtain⟨ht,h⟩:=AI h
  injection h with h;subst h
  obtain⟨k,e,ht⟩:=KQ ht
  cases hy;cases hx<;>simp[Op.equalIn,AO ht]
 ·obtain⟨ht,h⟩:=AI h
  injection h with h;subst h
  obtain⟨a,b,c,ht⟩:=GS ht
  cases hy;cases hx;simp[Op.equalIn,AO ht]
 ·obtain⟨ht,h⟩:=AI h
  injection h with h;subst h
  obtain⟨a,b,c,ht⟩:=GS ht
  cases hy;cases hx;simp[Op.equalIn,AO ht]
 ·obtain⟨ht,h⟩:=AI h
  injection h with h;subst h
  obtain⟨a,b,c,ht⟩:=GS ht
  cases hy;cases hx;simp[Op.equalIn,AO ht]
theorem ab{t:TypeId}{x y:AV}{x' y':Value}{b:Bool}(h:aa P t x y=some b)(hx:Ad ρ x x')(hy:Ad ρ y y'):
  (Op.equal t x' y').run P w=.ok b w:=mP h hx hy 9999
def bh:Value→Bool
 | .nilIface | .agg _=>false
 | _=>true
theorem GP{x':Value}(h:bh x'=true)(op:BinOp)(t:TypeId)(ox oy:Operand)(y':Value):
  (eqGuard op t ox oy x' y').run P w=.ok () w:=by
 cases x'<;>first | (cases h;done) | (cases op<;>rfl)
theorem NT{t:TypeId}{x y:AV}{x':Value}{b:Bool}(h:aa P t x y=some b)(hx:Ad ρ x x'):bh x'=true:=by
 unfold aa at h
 split at h<;>first | (cases h;done) | (cases hx<;>rfl)
theorem cy      {op : BinOp} {t : TypeId} {x y v : AV} {x' y' : Value} (h : AN   P op t x y = some v) (hx : Ad   ρ x x') (hy : Ad   ρ y y') (ox oy : Operand) :
    ∃v',(do eqGuard op t ox oy x' y';Go.binOp op t x' y').run P w=.ok v' w∧Ad ρ v v':=by
  unfold AN at h
  split at h
  · cases hx;cases hy
    rename_i k a k' b
    rw[Sem.run_bind,GP rfl]
    simp only[Result.andThen_ok]
    split at h
    · simp only[qh]at h
      obtain⟨u,hu,h⟩:=h
      exact⟨u,by have:=GF (w:=w) hu;simpa[Go.binOp]using this,CD ρ h⟩
    · simp only[qh]at h
      obtain⟨u,hu,h⟩:=h
      exact⟨u,by have:=GF (w:=w) hu;simpa[Go.binOp]using this,CD ρ h⟩
    · obtain⟨hk,h2⟩:=AI h
      have hkk:=Fq hk
      subst hkk
      exact az h2 t w
  · cases hx;cases hy
    rename_i a b s1 h1 s2 h2
    subst h1;subst h2
    rw[Sem.run_bind,GP rfl]
    simp only[Result.andThen_ok]
    obtain⟨v',h1,h2⟩:=cM (P:=P) (ρ:=ρ) h w
    refine⟨v',?_,h2⟩
    rw[← h1]
    cases op<;>first | rfl | (simp[VG]at h;done)
  · split at h
    · simp only[qh]at h
      obtain⟨b,hb,h⟩:=h
      injection h with h;subst h
      rw[Sem.run_bind,GP (NT hb hx)]
      simp only[Result.andThen_ok]
      refine⟨.bool b,?_,.bool b⟩
      have he:=ab (w:=w) hb hx hy
      have:Go.binOp .eql t x' y'=(do pure (.bool (← Op.equal t x' y')):Sem Value):=by
        unfold aa at hb
        split at hb<;>first | (cases hb;done) | (cases hx<;>cases hy<;>rfl)
      rw[this,Sem.run_bind,he]
      rfl
    · simp only[qh]at h
      obtain⟨b,hb,h⟩:=h
      injection h with h;subst h
      rw[Sem.run_bind,GP (NT hb hx)]
      simp only[Result.andThen_ok]
      refine⟨.bool (!b),?_,.bool _⟩
      have he:=ab (w:=w) hb hx hy
      have:Go.binOp .neq t x' y'=(do pure (.bool (!(← Op.equal t x' y'))):Sem Value):=by
        unfold aa at hb
        split at hb<;>first | (cases hb;done) | (cases hx<;>cases hy<;>rfl)
      rw[this,Sem.run_bind,he]
      rfl
    · cases h
theorem mh{op:UnOp}{x v:AV}{x':Value}(h:Hv P op x=some v)(hx:Ad ρ x x'):
  ∃v',(Op.unary op x').run P w=.ok v' w∧Ad ρ v v':=by
 unfold Hv at h
 split at h
 ·cases hx
  rename_i k n
  split at h
  ·injection h with h;subst h
   exact⟨.int k (k.wrap (0 - n)),rfl,by rw[HW];exact .int _ _⟩
  ·simp only[qh]at h
   obtain⟨u,hu,h⟩:=h
   exact⟨u,GF hu,CD ρ h⟩
  ·cases h
 ·cases hx
  split at h
  ·injection h with h;subst h
   exact⟨_,rfl,.bool _⟩
  ·cases h
 ·cases h
theorem Ov{x v:AV}{x':Value}(h:AF x=some v)(hx:Ad ρ x x')(ev:Operand→Value)(o:Oper)(y:Operand)(ho:o.op=.nilCheck y)(he:ev y=x'):
  ∃v',(execOp ev o).run P w=.ok (.value v') w∧Ad ρ v v':=by
 unfold AF at h
 split at h<;>first | (cases h;done) | skip
 injection h with h;subst h
 refine⟨x',?_,hx⟩
 cases hx<;>first | (simp only[execOp,ho,he];done) | (simp only[execOp,ho,he];rfl) | (exfalso;simp_all;done)
theorem P6{x v:AV}{i:Nat}{x':Value}(h:Rp x i=some v)(hx:Ad ρ x x'):
  ∃v',(Instr.extract x' i).run P w=.ok v' w∧Ad ρ v v':=by
 unfold Rp at h
 split at h<;>first | (cases h;done) | skip
 cases hx with
 | tuple hs =>
  rename_i cs'
  obtain⟨v',h1,h2⟩:=hs.get h
  refine⟨v',?_,h2⟩
  have:cs'[i]? = some v':=by rw[← Array.getElem?_toList];exact h1
  simp[Instr.extract,this]
theorem Q2{t:TypeId}{cs:List AV}{cs':Array Value}{off:Nat}{v:AV}(h:U9 P t cs off=some v)(hc:AX ρ cs cs'.toList):
  ∃v',(part t cs' off).run P w=.ok v' w∧Ad ρ v v':=by
 unfold U9 at h
 simp only[qh]at h
 obtain⟨g,hg,h⟩:=h
 cases g with
 | true =>
  simp only[qh]at h
  obtain⟨n,hn,h⟩:=h
  injection h with h;subst h
  refine⟨.agg (cs'.extract off (off+n)),by simp[part,K0 hg,BL hn],.agg ?_⟩
  have:(cs'.extract off (off+n)).toList=(cs'.toList.drop off).take n:=by
   rw[Array.toList_extract,List.extract_eq_take_drop]
   congr 1
   omega
  rw[this]
  exact(hc.drop off).take n
 | false =>
  obtain⟨v',h1,h2⟩:=hc.get h
  refine⟨v',?_,h2⟩
  have:cs'[off]? = some v':=by rw[← Array.getElem?_toList];exact h1
  simp[part,K0 hg,this]
theorem MB{x:AV}{x':Value}{k:Nat}(h:Cx x=some k)(hx:Ad ρ x x'):∃kd,x'=.int kd (k:Int):=by
 unfold Cx at h
 split at h<;>first | (cases h;done) | skip
 cases hx
 rename_i kd n
 exact⟨kd,by rw[bO h]⟩
theorem Vg{t:TypeId}{x v:AV}{x':Value}{f:Nat}(h:TX P t x f=some v)(hx:Ad ρ x x'):
  ∃v',(Instr.field t x' f).run P w=.ok v' w∧Ad ρ v v':=by
 unfold TX at h
 split at h<;>first | (cases h;done) | skip
 split at h<;>first | (cases h;done) | skip
 rename_i fs hfs
 simp only[qh]at h
 obtain⟨fd,hfd,h⟩:=h
 cases hx with
 | agg hs =>
  obtain⟨v',h1,h2⟩:=Q2 (w:=w) h hs
  exact⟨v',by simp[Instr.field,AO hfs,hfd,asAgg,h1],h2⟩
theorem Vp        {t : TypeId} {x ix v : AV} {x' ix' : Value} (h : IU     P t x ix = some v) (hx : Ad   ρ x x') (hi : Ad   ρ ix ix') :
    ∃v',(Instr.index t x' ix').run P w=.ok v' w∧Ad ρ v v':=by
  unfold IU at h
  simp only[qh]at h
  obtain⟨k,hk,h⟩:=h
  obtain⟨kd,rfl⟩:=MB hk hi
  split at h<;>first | (cases h;done) | skip
  · split at h<;>first | (cases h;done) | skip
    rename_i len e he
    simp only[qh]at h
    obtain⟨n,hn,h⟩:=h
    obtain⟨hlt,h⟩:=AI h
    have hlt':k<len:=by simpa[rJ]using hlt
    cases hx with
    | agg hs =>
      obtain⟨v',h1,h2⟩:=Q2 (w:=w) h hs
      refine⟨v',?_,h2⟩
      have:(0:Int)≤(k:Int)∧(k:Int)<(len:Int):=by omega
      simp only[Instr.index,asIntOf,Sem.run_bind,Sem.run_pure,Result.andThen_ok,AO he,this,and_self,if_true,BL hn]
      simpa using h1
  · split at h <;> first | (cases h; done) | skip
    rename_i l _ he
    simp only[qh]at h
    obtain⟨b,hb,h⟩:=h
    injection h with h;subst h
    cases hx with
    | str hs =>
      rename_i s
      subst hs
      rw[rX]at hb
      simp only[Option.map_eq_some_iff]at hb
      obtain⟨u,hu,rfl⟩:=hb
      refine⟨.int .u8 u.toNat,?_,.int _ _⟩
      have h0:(0:Int)≤(k:Int):=by omega
      have:s[k]? = some u:=by
        rw[← hu]
        rcases qk k s.size with hlt | hge
        · rw [getElem?_pos s k hlt, qp                       (by simpa using hlt)]
          rfl
        · rw[getElem?_neg s k (by omega),rA (by simpa using hge)]
      simp[Instr.index,asIntOf,AO he,this]
end
abbrev iv(n:Int):AV:=.int .i64 n
def i64(n:Int):Prop:=-9223372036854775808≤n∧n<9223372036854775808
theorem Ms{k:IntKind}{n:Int}(h:CC k n=true):EB k n=n:=by unfold EB;rw[h];rfl
theorem QE{n:Int}(h:i64 n):CC .i64 n=true:=by
 obtain⟨h1,h2⟩:=h
 cases n with
 | ofNat m=>simp only[CC,qu];simp at h2;omega
 | negSucc m=>simp only[CC,qu];omega
theorem Ff{n:Int}(h:i64 n):EB .i64 n=n:=Ms (QE h)
section
variable(P:Program)(t:TypeId)(a b:Int)
theorem Rq:AN P .lss t (iv a) (iv b)=some (.bool (decide (a<b))):=by
 show some (AV.bool (PO a b))=_
 rw[D5]
theorem Rs:AN P .gtr t (iv a) (iv b)=some (.bool (decide (b<a))):=by
 show some (AV.bool (PO b a))=_
 rw[D5]
theorem Rt:AN P .leq t (iv a) (iv b)=some (.bool (decide (a≤b))):=by
 show some (AV.bool (!PO b a))=_
 rw[D5,← decide_not]
 congr 3
 exact propext Int.not_lt
theorem Ru:AN P .geq t (iv a) (iv b)=some (.bool (decide (b≤a))):=by
 show some (AV.bool (!PO a b))=_
 rw[D5,← decide_not]
 congr 3
 exact propext Int.not_lt
theorem Rv:AN P .eql t (iv a) (iv b)=some (.bool (decide (a=b))):=by
 show some (AV.bool (Vf a b))=_
 rw[GQ];rfl
theorem Rw:AN P .neq t (iv a) (iv b)=some (.bool (decide (a≠b))):=by
 show some (AV.bool (!Vf a b))=_
 rw[GQ,decide_not];rfl
theorem Ay(h:i64 (a+b)):AN P .add t (iv a) (iv b)=some (iv (a+b)):=by
 show some (AV.int .i64 (EB .i64 (a+b)))=_
 rw[Ff h]
theorem CV(h:i64 (a - b)):AN P .sub t (iv a) (iv b)=some (iv (a - b)):=by
 show some (AV.int .i64 (EB .i64 (a - b)))=_
 rw[Ff h]
theorem OD(h:i64 (a * b)):AN P .mul t (iv a) (iv b)=some (iv (a * b)):=by
 show some (AV.int .i64 (EB .i64 (a * b)))=_
 rw[Ff h]
theorem Fe(h:i64 (-a)):Hv P .neg (iv a)=some (iv (-a)):=by
 show some (AV.int .i64 (EB .i64 (0 - a)))=_
 rw[show(0:Int) - a=-a from by omega,Ff h]
theorem PG:Hv P .neg (iv (-9223372036854775808))=some (iv (-9223372036854775808)):=rfl
theorem Rx(c:Bool):Hv P .not (.bool c)=some (.bool (!c)):=rfl
end
def Ao(b:Nat)(s s':AE):Prop:=s.next≤s'.next∧∀i,i<b→s'.heap.get i=s.heap.get i
theorem Ao.refl(b:Nat)(s:AE):Ao b s s:=⟨qg _,fun _ _=>rfl⟩
theorem Ao.trans{b:Nat}{s s1 s2:AE}(h:Ao b s s1)(k:Ao b s1 s2):Ao b s s2:=⟨qs h.1 k.1,fun i hi=>(k.2 i hi).trans (h.2 i hi)⟩
theorem Ao.mono{b b':Nat}{s s1:AE}(h:Ao b s s1)(k:b'≤b):Ao b' s s1:=⟨h.1,fun i hi=>h.2 i (qw hi k)⟩
theorem AK(s:AE)(o:C8)(j:Nat):(newObj s o).heap.get j=if j=s.next then some o else s.heap.get j:=Ak.get_set _ _ _ _
theorem Ai(s:AE)(i:Nat)(o:C8)(j:Nat):(setObj s i o).heap.get j=if j=i then some o else s.heap.get j:=Ak.get_set _ _ _ _
theorem Bw(s:AE)(i j:Nat):(Bm s i).heap.get j=if j=i then none else s.heap.get j:=Ak.get_del _ _ _
theorem Ao.new(s:AE)(o:C8):Ao s.next s (newObj s o):=⟨sB _,fun i hi=>by rw[AK,if_neg (by omega)]⟩
theorem BU{s s':AE}{i o:Nat}(h:s'.heap.get i=s.heap.get i):load1 s' i o=load1 s i o:=by unfold load1 rowAt;rw[h]
theorem BX{s:AE}{i o:Nat}{r:EX}{u:AV}(h:s.heap.get i=some (.row r))(ho:o<r.n)(hc:r.c.get o=some u):load1 s i o=some u:=by
 have hb:Nat.blt o r.n=true:=by simpa[rJ]using ho
 simp[load1,rowAt,h,AG,hb,hc]
def BA(b:Nat)(s:AE)(a:Option (Nat×Nat))(cs:List AV):Prop:=∀k u,cs[k]? = some u→∃i o,a=some (i,o)∧i<b∧load1 s i (o+k)=some u
theorem BA.old{b b':Nat}{s s':AE}{a:Option (Nat×Nat)}{cs:List AV}(h:BA b s a cs)(k:Ao b' s s')(hb:b≤b'):BA b s' a cs:=fun j u hj=>by
 obtain⟨i,o,h1,h2,h3⟩:=h j u hj
 exact⟨i,o,h1,h2,by rw[BU (k.2 i (qw h2 hb))];exact h3⟩
theorem BA.mono{b b':Nat}{s:AE}{a:Option (Nat×Nat)}{cs:List AV}(h:BA b s a cs)(hb:b≤b'):BA b' s a cs:=fun j u hj=>by
 obtain⟨i,o,h1,h2,h3⟩:=h j u hj
 exact⟨i,o,h1,qw h2 hb,h3⟩
theorem BA.nil{b:Nat}{s:AE}{a:Option (Nat×Nat)}:BA b s a []:=fun k u h=>by simp at h
def AJ(b:Nat)(s:AE)(v:AV)(cs:List AV):Prop:=∃a cap,v=.slice a cs.length cap∧BA b s a cs
theorem AJ.old{b b':Nat}{s s':AE}{v:AV}{cs:List AV}(h:AJ b s v cs)(k:Ao b' s s')(hb:b≤b'):AJ b s' v cs:=by
 obtain⟨a,cap,h1,h2⟩:=h
 exact⟨a,cap,h1,h2.old k hb⟩
theorem AJ.mono{b b':Nat}{s:AE}{v:AV}{cs:List AV}(h:AJ b s v cs)(hb:b≤b'):AJ b' s v cs:=by
 obtain⟨a,cap,h1,h2⟩:=h
 exact⟨a,cap,h1,h2.mono hb⟩
theorem Bc(k:Nat):Nd (k:Int)=some k:=rfl
theorem At{P:Program}{t e:TypeId}{n:Nat}(ht:P.underlying t=some (.slice e))(hs:BD P e=some n){i o len k:Nat}{cap:Option Nat}(hk:k<len):
  AD P t (.slice (some (i,o)) len cap) (iv (k:Int))=some (.ptr (some (i,o+k * n))):=by
 have hb:Nat.blt k len=true:=by simpa[rJ]using hk
 simp[AD,Cx,Bc,ht,hs,AG,hb]
theorem A0{P:Program}{t:TypeId}(h:E1 P t=some false){s:AE}{i o:Nat}{u:AV}(hl:load1 s i o=some u):AC P s t (.ptr (some (i,o)))=some u:=by
 simp[AC,h,hl]
theorem AW{P:Program}{t e:TypeId}(ht:P.underlying t=some (.slice e)){s:AE}{a:Option (Nat×Nat)}{n:Nat}{cap:Option Nat}:As P s t (.slice a n cap)=some (iv (n:Int)):=by
 simp[As,ht]
theorem A2{a b:Nat}(h:a≤b):Nat.ble a b=true:=by simpa[qu]using h
theorem LG{a b:Nat}(h:a<b):Nat.blt a b=true:=by simpa[rJ]using h
theorem Dj{a b:Nat}(h:a=b):Nat.beq a b=true:=by subst h;simp
theorem D0{a b:Nat}(h:a≠b):Nat.beq a b=false:=by
 cases hb:Nat.beq a b with
 | true=>exact absurd (rW hb) h
 | false=>rfl
theorem E4{a b:Nat}(h:b<a):Nat.ble a b=false:=by
 cases hb:Nat.ble a b with
 | true=>rw[qu]at hb;omega
 | false=>rfl
theorem K6{t:Ak AV}:∀ (cs:List AV)(k:Nat),(∀j u,cs[j]? = some u→t.get (k+j)=some u)→t.take k cs.length=some cs:=by
 intro cs
 induction cs with
 | nil=>intro k _;rfl
 | cons c cs ih =>
  intro k h
  have h0:=h 0 c rfl
  simp only[qx,Ak.take]
  rw[show k+0=k from rfl]at h0
  rw[h0]
  simp only
  rw[ih (k+1) (fun j u hj=>by rw[show k+1+j=k+(j+1)from by omega];exact h (j+1) u (by simpa using hj))]
def Hw(r:EX)(cs:List AV):Prop:=r.n=cs.length∧∀k u,cs[k]? = some u→r.c.get k=some u
theorem Hw.take{r:EX}{cs:List AV}(h:Hw r cs)(o:Nat)(l:List AV)(hl:∀j u,l[j]? = some u→cs[o+j]? = some u):r.c.take o l.length=some l:=
 K6 l o fun j u hj=>h.2 _ u (hl j u hj)
theorem CY{s:AE}{i:Nat}{r:EX}{cs:List AV}(hg:s.heap.get i=some (.row r))(h:Hw r cs)(o:Nat)(l:List AV)(hle:o+l.length≤cs.length)(hl:∀j u,l[j]? = some u→cs[o+j]? = some u):
  loadN s i o l.length=some l:=by
 simp[loadN,rowAt,hg,AG,h.1,A2 hle,h.take o l hl]
theorem BN(e:TypeId)(sz:Nat)(cs:List AV):∃r,AL e sz cs=.row r∧Hw r cs∧r.sz=sz∧r.spare=false∧r.mode=.own∧r.par=none:=by
 refine⟨_,rfl,⟨rfl,?_⟩,rfl,rfl,rfl,rfl⟩
 intro k u hk
 have hlt:k<cs.length:=by
  rcases qk k cs.length with h | h
  ·exact h
  ·rw[rA h]at hk;cases hk
 show(Ak.fill .leaf 0 cs).get k=some u
 rw[Ak.get_fill,if_pos ⟨qm _,by omega⟩]
 simpa using hk
structure Kj(lo hi:Nat)(s:AE)(v:AV)(n sz:Nat)(cs:List AV)(i:Nat)(p:Option Nat):Prop where
 len:cs.length=n * sz
 ex:(v=.slice none 0 (some 0)∧n=0)∨(v=.slice (some (i,0)) n none∧lo≤i∧i<hi∧(∀q,p=some q→lo≤q∧q<hi∧q≠i) ∧
  ∃r,s.heap.get i=some (.row r)∧Hw r cs∧r.spare=true∧r.mode=.own∧r.sz=sz∧r.par=p)
theorem Kj.frame{lo hi:Nat}{s s':AE}{v:AV}{n sz:Nat}{cs:List AV}{i:Nat}{p:Option Nat}(h:Kj lo hi s v n sz cs i p)(k:lo≤i→i<hi→s'.heap.get i=s.heap.get i):Kj lo hi s' v n sz cs i p:=by
 refine⟨h.len,?_⟩
 rcases h.ex with h1 | ⟨h1,h2,h3,h4,r,h5,h6⟩
 ·exact .inl h1
 ·exact .inr ⟨h1,h2,h3,h4,r,by rw[k h2 h3];exact h5,h6⟩
theorem Kj.mono{lo hi hi':Nat}{s:AE}{v:AV}{n sz:Nat}{cs:List AV}{i:Nat}{p:Option Nat}(h:Kj lo hi s v n sz cs i p)(k:hi≤hi'):Kj lo hi' s v n sz cs i p:=by
 refine⟨h.len,?_⟩
 rcases h.ex with h1 | ⟨h1,h2,h3,h4,rest⟩
 ·exact .inl h1
 ·exact .inr ⟨h1,h2,by omega,fun q hq=>⟨(h4 q hq).1,by have:=(h4 q hq).2.1;omega,(h4 q hq).2.2⟩,rest⟩
theorem Kj.cells{lo hi:Nat}{s:AE}{v:AV}{n sz:Nat}{cs:List AV}{i:Nat}{p:Option Nat}(h:Kj lo hi s v n sz cs i p):∃a cap,v=.slice a n cap∧BA hi s a cs:=by
 rcases h.ex with⟨rfl,rfl⟩ | ⟨rfl,h2,h3,h4,r,h5,h6,_⟩
 ·refine⟨none,some 0,rfl,?_⟩
  have:cs=[]:=by have:=h.len;simp at this;exact this
  subst this
  exact BA.nil
 ·refine⟨_,_,rfl,fun k u hk=>⟨i,0,rfl,h3,?_⟩⟩
  have hlt:k<cs.length:=by
   rcases qk k cs.length with h' | h'
   ·exact h'
   ·rw[rA h']at hk;cases hk
  rw[qq]
  exact BX h5 (by rw[h6.1];exact hlt) (h6.2 k u hk)
theorem Ge:∀ {a b:List AV},Ae a=true→Ae b=true→Ae (a++b)=true
 | [],_,_,h=>h
 | x::a,b,h,k=>by simp only[Ae,Bool.and_eq_true,rY]at h ⊢;exact⟨h.1,Ge h.2 k⟩
def mt(s s':AE)(i:Nat)(p:Option Nat):Prop:=s.next≤s'.next∧∀j,j<s.next→j≠i→p≠some j→s'.heap.get j=s.heap.get j
theorem Kj.appTo   {P : Program} {e : TypeId} {lo hi : Nat} {s : AE}  {v : AV} {n sz : Nat} {cs : List AV} {i : Nat} {p : Option Nat} (h : Kj   lo hi s v n sz cs i p) (hhi : hi ≤ s.next) (hlo : lo ≤ s.next) (hz : CB     P e sz = true) (hsz : 0 < sz) {m : Nat} {add : List AV} (ha : add.length = m * sz) (hm : 0 < m) :
    ∃a cap v' s',v=.slice a n cap∧appTo P s e sz a n cap (m,add)=some (v',s')∧∃i' p',Kj lo s'.next s' v' (n+m) sz (cs++add) i' p'∧mt s s' i p∧lo≤s'.next∧(i'=s.next)∧(p'=none∨p'=some i)∧s'.next=s.next+1 ∧
      (∀cell,cell<cs.length→load1 s' i cell=load1 s i cell∨n=0):=by
  have hlen:(cs++add).length=(n+m) * sz:=by rw[qn,h.len,ha,rO]
  rcases h.ex with⟨rfl,rfl⟩ | ⟨rfl,h2,h3,h4,r,h5,h6,h7,h8,h9,h10⟩
  · have hcs:cs=[]:=by have:=h.len;simp at this;exact this
    subst hcs
    refine⟨none,some 0,.slice (some (s.next,0)) m none,newObj s (CL e sz (Ak.fill .leaf 0 add) add.length none),rfl,?_,s.next,none,⟨by simpa using hlen,.inr ⟨by simp,hlo,rP _,(fun q hq=>by cases hq),_,(by rw[AK,if_pos rfl];rfl),⟨rfl,?_⟩,rfl,rfl,rfl,rfl⟩⟩,
      ⟨sB _,fun j hj _ _=>by rw[AK,if_neg (by omega)]⟩,Nat.le_succ_of_le hlo,rfl,.inl rfl,rfl,fun _ _=>.inr rfl⟩
    · simp[Am.appTo,Bf,D0 (show m≠0 by omega),AG,hz]
    · intro k u hk
      show(Ak.fill .leaf 0 add).get k=some u
      have hk':add[k]? = some u:=by simpa using hk
      have hlt:k<add.length:=by
        rcases qk k add.length with h' | h'
        · exact h'
        · rw[rA h']at hk';cases hk'
      rw[Ak.get_fill,if_pos ⟨qm _,by omega⟩]
      simpa using hk'
  · have hrow : rowAt s i = some r := by simp [rowAt, h5]
    have hrn:r.n=n * sz:=by rw[h6.1,h.len]
    have hload:loadN s i 0 (n * sz)=some cs:=by
      have:=CY h5 h6 0 cs (by omega) (fun j u hj=>by simpa using hj)
      rw[h.len]at this
      exact this
    have hgt:¬ (0+(n+m) * sz≤r.n):=by
      rw[hrn,rO]
      have:0<m * sz:=Nat.mul_pos hm hsz
      omega
    let s2:=setObj (A1 s i r) i (.row { r with mode:=.sealed,par:=none })
    let s':=newObj s2 (CL e sz (r.c.fill (n * sz) add) (cs++add).length (some i))
    have hun:∀j,j≠i→p≠some j→(A1 s i r).heap.get j=s.heap.get j:=by
      intro j hj hp
      unfold A1
      rw[h10]
      cases p with
      | none=>rfl
      | some q =>
        simp only
        rw[D0 (h4 q rfl).2.2,cond_false,Bw,if_neg (fun e=>hp (by rw[e]))]
    have hnext:(A1 s i r).next=s.next:=by
      unfold A1
      split
      · rfl
      · cases Nat.beq _ _<;>rfl
    have hs2n:s2.next=s.next:=hnext
    refine⟨_,_,.slice (some (s.next,0)) (n+m) none,s',rfl,?_,s.next,some i,⟨hlen,.inr ⟨rfl,hlo,by show s.next<s2.next+1;omega,?_,_,by rw[AK,if_pos hs2n.symm];rfl,⟨rfl,?_⟩,rfl,rfl,rfl,rfl⟩⟩,⟨by show s.next≤s2.next+1;omega,?_⟩,by show lo≤s2.next+1;omega,rfl,.inr rfl,by show s2.next+1=_;omega,?_⟩
    · simp only[Am.appTo]
      rw[hrow,Option.bind_some]
      unfold DG
      rw[h9,Dj rfl]
      simp only[AG,cond_true]
      rw[show Nat.ble (0+(n+m) * sz) r.n=false from E4 (by omega),cond_false,hload,Option.bind_some,h7,cond_true]
      unfold DU
      rw[h8,hz,show Nat.beq (0+n * sz) r.n=true from Dj (by omega)]
      simp only[Fl,Bool.and_self,AG,cond_true,Cs,Nat.beq_eq_true_eq,Dj rfl]
      show some (AV.slice (some (s.next,0)) (n+m) none,newObj s2 _)=_
      rfl
    · intro q hq
      injection hq with hq
      subst hq
      refine⟨h2,?_,?_⟩
      · show i<s2.next+1
        omega
      · omega
    · intro k u hk
      show(r.c.fill (n * sz) add).get k=some u
      rw[Ak.get_fill]
      by_cases hlt:k<cs.length
      · rw [if_neg (by rw [← h.len]; omega)]
        rw[qv hlt]at hk
        exact h6.2 k u hk
      · rw[qy (by omega)]at hk
        have hk2:k - cs.length<add.length:=by
          rcases qk (k - cs.length) add.length with h' | h'
          · exact h'
          · rw[rA h']at hk;cases hk
        rw[if_pos ⟨by rw[← h.len];omega,by rw[← h.len];omega⟩,← h.len]
        exact hk
    · intro j hj hji hp
      show s'.heap.get j=_
      rw[AK,if_neg (by omega),Ai,if_neg hji]
      exact hun j hji hp
    · intro cell hc
      left
      have e1:s'.heap.get i=some (.row { r with mode:=.sealed,par:=none }):=by
        rw[AK,if_neg (by omega),Ai,if_pos rfl]
      simp only[load1,rowAt,e1,h5,Option.bind_some]
theorem KG{s:AE}{i o n size:Nat}{l:List AV}(h:loadN s i o (n * size)=some l):fJ s i o n size=some l:=by
 unfold fJ
 cases hn0:Nat.beq n 0 with
 | false=>exact h
 | true =>
  have:=rW hn0
  subst this
  rw[Nat.zero_mul]at h
  unfold loadN at h
  simp only[qh]at h
  obtain⟨r,_,h⟩:=h
  cases hb:Nat.ble (o+0) r.n with
  | true=>rw[hb]at h;exact h
  | false=>rw[hb]at h;cases h
theorem BT{P:Program}{st xt e:TypeId}{size by_:Nat}(ht:P.underlying st=some (.slice e))(hs:BD P e=some size)(hb:Cg P e=some by_)(h0:0<size)(hx:BC P xt=true){s:AE}{a ax:Option (Nat×Nat)}{n m:Nat}{cap cx:Option Nat}{add:List AV}
  (hsrc:Bg P s e size (.slice ax m cx)=some (m,add)) (hc:Ae add=true) (h1:(n+m) * by_≤1099511627776) (h2:n+m≤1099511627776):
  AY P s [st,xt] [.slice a n cap,.slice ax m cx]=appTo P s e size a n cap (m,add):=by
 simp[AY,ht,hs,hb,AG,D0 (show size≠0 by omega),hx,hsrc,hc,A2 h1,A2 h2]
end
end Go.Proofs.Ytilhhmkdcoajnaa.Am
